/- The walk of the law QuotaPlays: it returns true, and what was there is as it was. Conditions: the list's cells hold numbers; its length is a slice's. -/
import Derived.Test.YtlgkklpehheaoaaState
import Derived.Test.YtlgkklpehheaoaaRoom
import Derived.Deep.RegionHeld3
namespace Go.Proofs.Ytlgkklpehheaoaa.Acc
open Go.RowKit Go.Proofs.Ytlgkklpehheaoaa.PQuotaPlays Go.Proofs.YtlgkklpehheaoaaW.PrintWords Go.Proofs.YtlgkklpehheaoaaW.PrintLast Go.Proofs.YtlgkklpehheaoaaW.PrintMore
attribute [local go_sem] max2_int min2_int max_two min_two
set_option linter.unusedVariables false

/-- The loop's state behind k rounds. -/
def At (q0 q1 : Int) (w W : World) (g b : Nat) (p : Int) (k : Nat) : Prop := ∃ a s v0 v1 c d, St q0 q1 w W g b a s p v0 v1 v0 v1 c d ∧ Alike q0 q1 a s p c d k

section
variable {q0 q1 : Int} {w W W1 : World} {g b : Nat} {a s p a2 s2 p2 cd : Int} {u0 u1 v0 v1 : Value} {c d : List Int} {k : Nat}
theorem done_at (n : Int) (hd : doneF a n = (cd, a2)) (h : St q0 q1 w W g b a s p u0 u1 v0 v1 c d) (hF : Fit q0 q1 a s p) :
    Calls Try.prog 8 #[.pointer (some ⟨g, 0, none⟩), .int .i64 n] W fun e W1 => e = .returned (.int .i64 cd) ∧ St q0 q1 w W1 g b a2 s p u0 u1 v0 v1 c d := by
  have h1 := done_st n h hF
  rw [hd] at h1
  exact h1
theorem plus_at (n : Int) (hd : addF q0 q1 a s p n = (cd, a2, s2, p2)) (h : St q0 q1 w W g b a s p u0 u1 v0 v1 c d) (hF : Fit q0 q1 a s p) :
    Calls Try.prog 9 #[.pointer (some ⟨g, 0, none⟩), .int .i64 n] W fun e W1 => e = .returned (.int .i64 cd) ∧ St q0 q1 w W1 g b a2 s2 p2 u0 u1 v0 v1 c d := by
  have h1 := add_st n h hF
  rw [hd] at h1
  exact h1
theorem alike_done' (n : Int) (hk : k ≤ 99) (h : Alike q0 q1 a s p c d k) (hd : doneF a n = (cd, a2)) :
    ∃ d2, punnetref34_Less.f 1000 c d q0 q1 n = some (c, d2, q0, q1, cd) ∧ Alike q0 q1 a2 s p c d2 (k + 1) ∧ (if p < a2 then a2 else p) = p := by
  obtain ⟨d2, p', h1, h2, _, h3⟩ := alike_done (n := n) hk h
  rw [hd] at h1 h2 h3
  exact ⟨d2, h1, h2, if_neg h3⟩
theorem alike_add' (n : Int) (hk : k ≤ 99) (h : Alike q0 q1 a s p c d k) (hd : addF q0 q1 a s p n = (cd, a2, s2, p2)) :
    ∃ c2, punnetref34_Add.f 1000 c d q0 q1 n = some (c2, d, q0, q1, cd) ∧ Alike q0 q1 a2 s2 p2 c2 d (k + 1) ∧ (if p < a2 then a2 else p) = p2 := by
  obtain ⟨c2, h1, h2, h3⟩ := alike_add (n := n) hk h
  rw [hd] at h1 h2 h3
  exact ⟨c2, h1, h2, h3⟩
theorem room_m (g : Nat) (q0 q1 a s p m : Int) (hF : Fit q0 q1 a s p) (hm : mn (q1 - s) (q0 - a) = m) (W : World) (h0 : W.cell? ⟨g, 0, none⟩ = some (.int .i64 q0)) (h1 : W.cell? ⟨g, 1, none⟩ = some (.int .i64 q1)) (h2 : W.cell? ⟨g, 2, none⟩ = some (.int .i64 a)) (h3 : W.cell? ⟨g, 3, none⟩ = some (.int .i64 s)) :
    Calls Try.prog 10 #[.pointer (some ⟨g, 0, none⟩)] W fun e W' => e = .returned (.int .i64 m) ∧ ∃ n, W' = W.drewN n := by
  subst hm
  exact room_quiet g q0 q1 a s p hF W h0 h1 h2 h3
theorem Alike.waits (h : Alike q0 q1 a s p c d k) (hk : k ≤ 100) : punnetref34_Waiting.f 1000 c d q0 q1 = some a ∧ punnetref34_Size.f 1000 c d q0 q1 = some s := by
  obtain ⟨fc, fd⟩ := h.few hk
  obtain ⟨_, _, hs, ha, _⟩ := h
  rw [waiting_f c d q0 q1 fc fd, size_f c d q0 q1 fc, ha, hs]
  exact ⟨rfl, rfl⟩
end

set_option linter.unusedSimpArgs false
set_option maxRecDepth 100000 in
set_option maxHeartbeats 4000000 in
theorem plays_law (q0 q1 : Int) (A : Option Addr) (len cap : Nat) (f : Nat → Int × Int) (w : World) (hlen : len ≤ 9223372036854775807) (hP : Pairs w A len f) :
    Calls Try.prog 4 #[.agg #[.int .i64 q0, .int .i64 q1], .slice A len cap] w fun e w' => e = .returned (.bool true) ∧ Below w.heap.size w w' := by
  have HP := Aside0.mk hP
  clear hP
  by_cases h60 : 60 < len
  · go_enter Try.func4, Try.ntmps4
    go_wp2_with fail
    refine (awake_any _).mono ?_
    rintro e w1 ⟨rfl, hb⟩
    have HB : Hid (Below w.heap.size w w1) := (below_alloc (Below.refl _ _) _).trans (hb.mono (by simp))
    clear hb
    go_wp2
    go_ret
    exact ⟨rfl, HB.out⟩
  · by_cases hR : Right q0 q1
    · obtain ⟨r0, r1, r2, r3⟩ := hR
      have HR : Aside0 (Right q0 q1) := ⟨⟨r0, r1, r2, r3⟩⟩
      go_enter Try.func4, Try.ntmps4
      go_wp2_with fail
      refine (awake_any _).mono ?_
      rintro e w1 ⟨rfl, hb⟩
      have hc0 := hb.cell (p := ⟨w.heap.size, 0, none⟩) (by simp)
      have hc1 := hb.cell (p := ⟨w.heap.size, 1, none⟩) (by simp)
      have HQ : Hid (w1.heap[w.heap.size]? = some (.cells #[.int .i64 q0, .int .i64 q1] 23 (0, 0))) := (hb.block w.heap.size (by simp)).trans (heap_alloc_new w _)
      have HB : Hid (Below w.heap.size w w1) := (below_alloc (Below.refl _ _) _).trans (hb.mono (by simp))
      have hs1 : w.heap.size < w1.heap.size := by have := hb.size; simp at this; omega
      clear hb
      go_wp2_with fail
      refine (new_yes q0 q1 (decide_eq_true HR.out) _).mono ?_
      rintro e w2 ⟨g, rfl, hI, hb⟩
      have hd0 := hb.cell (p := ⟨w.heap.size, 0, none⟩) hs1
      have hd1 := hb.cell (p := ⟨w.heap.size, 1, none⟩) hs1
      have HQ2 : Hid (w2.heap[w.heap.size]? = some (.cells #[.int .i64 q0, .int .i64 q1] 23 (0, 0))) := (hb.block w.heap.size hs1).trans HQ.out
      have HI : Hid (IsS41 w w2 g q0 q1 0 0 0) := ⟨hI.1, Nat.le_trans HB.out.size hI.2⟩
      have HB2 : Hid (Below w.heap.size w w2) := HB.out.trans (hb.mono HB.out.size)
      have hs2 : w.heap.size < w2.heap.size := by have := hb.size; omega
      clear hI hb
      go_wp2_with fail
      refine (right_any q0 q1 _).mono ?_
      rintro e w3 ⟨rfl, hb⟩
      have hd0 := hb.cell (p := ⟨w.heap.size, 0, none⟩) hs2
      have hd1 := hb.cell (p := ⟨w.heap.size, 1, none⟩) hs2
      have HQ3 : Hid (w3.heap[w.heap.size]? = some (.cells #[.int .i64 q0, .int .i64 q1] 23 (0, 0))) := (hb.block w.heap.size hs2).trans HQ2.out
      have HI3 : Hid (IsS41 w w3 g q0 q1 0 0 0) := HI.out.below hb
      have HB3 : Hid (Below w.heap.size w w3) := HB2.out.trans (hb.mono HB2.out.size)
      clear hb HQ HB HQ2 HI HB2
      rw [decide_eq_true HR.out]
      go_wp2_with fail
      have HS : Hid (At q0 q1 w (w3.alloc (.cells #[.slice none 0 0, .slice none 0 0, .int .i64 q0, .int .i64 q1] 36)) g w3.heap.size 0 0) := by
        have hb : Below w3.heap.size w3 (w3.alloc (.cells #[.slice none 0 0, .slice none 0 0, .int .i64 q0, .int .i64 q1] 36)) := below_alloc (Below.refl _ _) _
        refine ⟨0, 0, .slice none 0 0, .slice none 0 0, [], [], ⟨HI3.out.below hb, HB3.out.trans (hb.mono HB3.out.size), (hb.block _ (blk_lt HQ3.out)).trans HQ3.out, heap_alloc_new w3 _, HB3.out.size, Mine.of (Kd.R_nil _ _ _ _ (fun _ => True)), Mine.of (Kd.R_nil _ _ _ _ (fun _ => True)), fun k h => by simp [Value.ownBlock] at h⟩, ?_⟩
        exact ⟨⟨HR.out, by omega, by omega, by omega, by omega, by omega, by omega⟩, by omega, rfl, rfl, by simp, by simp, by simp, by simp⟩
      clear HQ3 HI3 HB3 hc0 hc1 hd0 hd1
      obtain ⟨b, hb⟩ : ∃ b, w3.heap.size = b := ⟨_, rfl⟩
      rw [hb] at HS ⊢
      clear hb
      go_loopw [9, 10] (fun pv i wr => ∃ (k : Nat) (p : Int), k ≤ len ∧ i = .int .i64 k ∧ pv = .int .i64 p ∧ Hid (At q0 q1 w wr g b p k)) (fun _ i _ => len - (intOf i).toNat)
      case atStart => exact ⟨0, 0, Nat.zero_le _, rfl, rfl, HS⟩
      case round =>
        obtain ⟨k, p, hk, rfl, rfl, HS1⟩ := hrel
        clear HS
        obtain ⟨a, s, v0, v1, c, d, hS, hA⟩ := HS1.out
        obtain ⟨A0, n0, rfl⟩ := hS.came.shape
        obtain ⟨A1, n1, rfl⟩ := hS.done.shape
        by_cases hlt : k < len
        · obtain ⟨bl, off, rfl, hbl, hcells⟩ := HP.out (by omega)
          have hq := hcells k hlt
          clear hcells
          obtain ⟨u, v, huv⟩ : ∃ u v, f k = (u, v) := ⟨_, _, rfl⟩
          rw [huv] at hq
          dsimp only at hq
          have HX := Aside0.mk hq
          have HL := Aside0.mk hbl
          clear hq huv hbl
          have x0 := (hS.below.cell (p := ⟨bl, off + k * 2, none⟩) HL.out).trans HX.out.1
          have x1 := (hS.below.cell (p := ⟨bl, off + k * 2 + 1, none⟩) HL.out).trans HX.out.2
          have HA := Aside0.mk hA
          clear hA HS1
          by_cases hu : u = 0
          · have hu0 : (u == 0) = true := beq_iff_eq.mpr hu
            clear hu
            obtain ⟨cd, a2, hda⟩ : ∃ cd a2, doneF a v = (cd, a2) := ⟨_, _, rfl⟩
            obtain ⟨d2, hf, hA', hpk⟩ := alike_done' v (by omega) HA.out hda
            have HD := Aside0.mk hda
            have HF := Aside0.mk hf
            have HA2 := Aside0.mk hA'
            have HP2 := Aside0.mk hpk
            clear hda hf hA' hpk
            have HW := Aside0.mk (HA2.out.waits (by omega)).1
            have HZ := Aside0.mk (HA2.out.waits (by omega)).2
            go_wp2_with fail
            refine (done_at v HD.out hS HA.out.1).mono ?_
            rintro e w4 ⟨rfl, hS4⟩
            clear hS x0 x1
            have HS4 := Aside0.mk hS4
            have x1 := (hS4.below.cell (p := ⟨bl, off + k * 2 + 1, none⟩) HL.out).trans HX.out.2
            obtain ⟨⟨y0, y1⟩, ⟨y2, y3, y4, y5⟩, z0, z1, z2, z3⟩ := hS4.cells
            clear hS4
            have hk0 : (0 : Int) ≤ (k : Int) := Int.natCast_nonneg _
            have hk1 : (k : Int) < (len : Int) := by omega
            clear HA
            go_wp2_with fail
            refine start_ (n := 12) (S := fun w' => w'.cell? ⟨bl, off + k * 2 + 1, none⟩ = some (.int .i64 v) ∧ w'.cell? ⟨b, 0, none⟩ = some (.slice A0 c.length n0) ∧ w'.cell? ⟨b, 1, none⟩ = some (.slice A1 d.length n1) ∧ w'.cell? ⟨b, 2, none⟩ = some (.int .i64 q0) ∧ w'.cell? ⟨b, 3, none⟩ = some (.int .i64 q1)) (ds := [10]) #[false, false, false, false, false, false, false, false, false, false, false, false] (by kernel_rfl) rfl rfl ⟨x1, y2, y3, y4, y5⟩ (fun hHeld => ?_)
            refine pure_ (i := 1) (N := some 87) (v := ?_) (a' := ?_) #[false, true, false, false, false, false, false, false, false, false, false, false] rfl rfl (by kernel_rfl) (fun _ _ _ h => h) (Or.inl ⟨by rfl, ?_⟩) ?_ ?_
            rotate_left
            · intro w'
              go_simp
              with_reducible rfl
            rotate_left
            · simp only [Act.put, List.setIfInBounds_toArray, List.set_cons_zero, List.set_cons_succ, i64_w, i32_w]
              rfl
            refine pure_ (i := 2) (N := some 88) (v := ?_) (a' := ?_) #[false, true, true, false, false, false, false, false, false, false, false, false] rfl rfl (by kernel_rfl) (fun _ _ _ h => h) (Or.inl ⟨by rfl, ?_⟩) ?_ ?_
            rotate_left
            · intro w'
              go_simp
              with_reducible rfl
            rotate_left
            · simp only [Act.put, List.setIfInBounds_toArray, List.set_cons_zero, List.set_cons_succ, i64_w, i32_w]
              rfl
            refine pure_ (i := 3) (N := some 89) (v := ?_) (a' := ?_) #[false, true, true, true, false, false, false, false, false, false, false, false] rfl rfl (by kernel_rfl) (fun _ _ _ h => h) (Or.inl ⟨by rfl, ?_⟩) ?_ ?_
            rotate_left
            · intro w'
              go_simp
              with_reducible rfl
            rotate_left
            · simp only [Act.put, List.setIfInBounds_toArray, List.set_cons_zero, List.set_cons_succ, i64_w, i32_w]
              rfl
            refine pure_ (i := 4) (N := some 90) (v := ?_) (a' := ?_) #[false, true, true, true, true, false, false, false, false, false, false, false] rfl rfl (by kernel_rfl) (fun _ _ _ h => h) (Or.inl ⟨by rfl, ?_⟩) ?_ ?_
            rotate_left
            · intro w'
              go_simp
              with_reducible rfl
            rotate_left
            · simp only [Act.put, List.setIfInBounds_toArray, List.set_cons_zero, List.set_cons_succ, i64_w, i32_w]
              rfl
            refine take_ (i := 0) (N := some 86) (v := ?_) (a' := ?_) #[true, true, true, true, true, false, false, false, false, false, false, false] rfl rfl (by kernel_rfl) (fun _ _ _ h => h) (Or.inl ⟨by rfl, ?_⟩) hHeld ?_ ?_
            rotate_left
            · rintro w' ⟨s0, s1, s2, s3, s4⟩
              go_simp
              with_reducible rfl
            rotate_left
            · simp only [Act.put, List.setIfInBounds_toArray, List.set_cons_zero, List.set_cons_succ, i64_w, i32_w]
              rfl
            refine take_ (i := 5) (N := some 91) (v := ?_) (a' := ?_) #[true, true, true, true, true, true, false, false, false, false, false, false] rfl rfl (by kernel_rfl) (fun _ _ _ h => h) (Or.inl ⟨by rfl, ?_⟩) hHeld ?_ ?_
            rotate_left
            · rintro w' ⟨s0, s1, s2, s3, s4⟩
              go_simp
              with_reducible rfl
            rotate_left
            · simp only [Act.put, List.setIfInBounds_toArray, List.set_cons_zero, List.set_cons_succ, i64_w, i32_w]
              rfl
            refine one_ (i := 6) (N := some 92) #[true, true, true, true, true, true, true, false, false, false, false, false] rfl rfl (by kernel_rfl) (by decide) (fun K hK => ?_)
            refine goes_ Try.func11 (by kernel_rfl) rfl #[.agg #[.slice A0 c.length n0, .slice A1 d.length n1, .int .i64 q0, .int .i64 q1], .int .i64 v] (by rfl) rfl rfl (by simp only [List.map_toArray, List.map_cons, List.map_nil]; rfl) ?_
            with_reducible refine (less_st v HS4.out.drew HF.out).mono ?_
            rintro e w5 ⟨v0', v1', rfl, hS5⟩
            refine ⟨_, rfl, ?_⟩
            obtain ⟨A5, n5, rfl⟩ := hS5.came.shape
            obtain ⟨A6, n6, rfl⟩ := hS5.done.shape
            have x5 := (hS5.below.cell (p := ⟨bl, off + k * 2 + 1, none⟩) HL.out).trans HX.out.2
            obtain ⟨⟨t0, t1⟩, ⟨t2, t3, t4, t5⟩, t6, t7, t8, t9⟩ := hS5.cells
            have HS5 := Aside0.mk hS5
            clear hS5
            refine hK.out _ _ ⟨x5, t2, t3, t4, t5⟩ (fun hHeld => ?_)
            clear hK K
            refine norm_ (a' := ?_) ?_ ?_
            rotate_left
            · show Act.put _ (some 92) _ = _
              simp only [Act.put, List.setIfInBounds_toArray, List.set_cons_zero, List.set_cons_succ, i64_w, i32_w]
              rfl
            refine pure_ (i := 7) (N := some 85) (v := ?_) (a' := ?_) #[true, true, true, true, true, true, true, true, false, false, false, false] rfl rfl (by kernel_rfl) (fun _ _ _ h => h) (Or.inl ⟨by rfl, ?_⟩) ?_ ?_
            rotate_left
            · intro w'
              go_simp
              with_reducible rfl
            rotate_left
            · simp only [Act.put, List.setIfInBounds_toArray, List.set_cons_zero, List.set_cons_succ, i64_w, i32_w]
              rfl
            refine pure_ (i := 8) (N := some 93) (v := ?_) (a' := ?_) #[true, true, true, true, true, true, true, true, true, false, false, false] rfl rfl (by kernel_rfl) (fun _ _ _ h => h) (Or.inl ⟨by rfl, ?_⟩) ?_ ?_
            rotate_left
            · intro w'
              go_simp
              with_reducible rfl
            rotate_left
            · simp only [Act.put, List.setIfInBounds_toArray, List.set_cons_zero, List.set_cons_succ, i64_w, i32_w]
              rfl
            refine pure_ (i := 9) (N := some 94) (v := ?_) (a' := ?_) #[true, true, true, true, true, true, true, true, true, true, false, false] rfl rfl (by kernel_rfl) (fun _ _ _ h => h) (Or.inl ⟨by rfl, ?_⟩) ?_ ?_
            rotate_left
            · intro w'
              go_simp
              with_reducible rfl
            rotate_left
            · simp only [Act.put, List.setIfInBounds_toArray, List.set_cons_zero, List.set_cons_succ, i64_w, i32_w]
              rfl
            refine last_ (i := 10) (N := none) #[true, true, true, true, true, true, true, true, true, true, true, false] rfl rfl (by kernel_rfl) (by decide) (fun K hK => ?_)
            refine skip_ (w1 := ?_) (by rfl) rfl ?_ ?_
            rotate_left
            · go_simp
              rfl
            refine hK.out _ _ ?_
            clear hK K
            refine pure_ (i := 11) (N := some 12) (v := ?_) (a' := ?_) #[true, true, true, true, true, true, true, true, true, true, true, true] rfl rfl (by kernel_rfl) (fun _ _ _ h => h) (Or.inl ⟨by rfl, ?_⟩) ?_ ?_
            rotate_left
            · intro w'
              go_simp
              with_reducible rfl
            rotate_left
            · simp only [Act.put, List.setIfInBounds_toArray, List.set_cons_zero, List.set_cons_succ, i64_w, i32_w]
              rfl
            refine done_ (by kernel_rfl) ?_

            have HS6 := Aside0.mk HS5.out.store
            clear HS5 t0 t1 t2 t3 t4 t5 t6 t7 t8 t9 x5 x1 y0 y1 y2 y3 y4 y5 z0 z1 z2 z3 HS4
            obtain ⟨w6, hw6⟩ : ∃ w6, ((((w5.setCell ⟨b, 0, none⟩ (.slice A5 c.length n5)).setCell ⟨b, 1, none⟩ (.slice A6 d2.length n6)).setCell ⟨b, 2, none⟩ (.int .i64 q0)).setCell ⟨b, 3, none⟩ (.int .i64 q1)) = w6 := ⟨_, rfl⟩
            rw [hw6] at HS6 ⊢
            clear hw6
            obtain ⟨⟨y0, y1⟩, ⟨y2, y3, y4, y5⟩, z0, z1, z2, z3⟩ := HS6.out.cells
            go_wp2_with fail
            refine start_ (n := 6) (S := fun w' => w'.cell? ⟨b, 0, none⟩ = some (.slice A5 c.length n5) ∧ w'.cell? ⟨b, 1, none⟩ = some (.slice A6 d2.length n6) ∧ w'.cell? ⟨b, 2, none⟩ = some (.int .i64 q0) ∧ w'.cell? ⟨b, 3, none⟩ = some (.int .i64 q1)) (ds := []) #[false, false, false, false, false, false] (by kernel_rfl) rfl rfl ⟨y2, y3, y4, y5⟩ (fun hHeld => ?_)
            refine take_ (i := 0) (N := some 112) (v := ?_) (a' := ?_) #[true, false, false, false, false, false] rfl rfl (by kernel_rfl) (fun _ _ _ h => h) (Or.inl ⟨by rfl, ?_⟩) hHeld ?_ ?_
            rotate_left
            · rintro w' ⟨s0, s1, s2, s3⟩
              go_simp
              with_reducible rfl
            rotate_left
            · simp only [Act.put, List.setIfInBounds_toArray, List.set_cons_zero, List.set_cons_succ, i64_w, i32_w]
              rfl
            refine take_ (i := 2) (N := some 114) (v := ?_) (a' := ?_) #[true, false, true, false, false, false] rfl rfl (by kernel_rfl) (fun _ _ _ h => h) (Or.inl ⟨by rfl, ?_⟩) hHeld ?_ ?_
            rotate_left
            · rintro w' ⟨s0, s1, s2, s3⟩
              go_simp
              with_reducible rfl
            rotate_left
            · simp only [Act.put, List.setIfInBounds_toArray, List.set_cons_zero, List.set_cons_succ, i64_w, i32_w]
              rfl
            refine one_ (i := 1) (N := some 113) #[true, true, true, false, false, false] rfl rfl (by kernel_rfl) (by decide) (fun K hK => ?_)
            refine goes_ Try.func13 (by kernel_rfl) rfl #[.agg #[.slice A5 c.length n5, .slice A6 d2.length n6, .int .i64 q0, .int .i64 q1]] (by rfl) rfl rfl (by simp only [List.map_toArray, List.map_cons, List.map_nil]; rfl) ?_
            with_reducible refine (waiting_st HS6.out.drew HW.out).mono ?_
            rintro e w7 ⟨rfl, hS7⟩
            refine ⟨_, rfl, ?_⟩
            obtain ⟨⟨t0, t1⟩, ⟨t2, t3, t4, t5⟩, t6, t7, t8, t9⟩ := hS7.cells
            have HS7 := Aside0.mk hS7
            clear hS7
            refine hK.out _ _ ⟨t2, t3, t4, t5⟩ (fun hHeld => ?_)
            clear hK K
            refine norm_ (a' := ?_) ?_ ?_
            rotate_left
            · show Act.put _ (some 113) _ = _
              simp only [Act.put, List.setIfInBounds_toArray, List.set_cons_zero, List.set_cons_succ, i64_w, i32_w]
              rfl
            refine one_ (i := 3) (N := some 115) #[true, true, true, true, false, false] rfl rfl (by kernel_rfl) (by decide) (fun K hK => ?_)
            refine goes_ Try.func14 (by kernel_rfl) rfl #[.agg #[.slice A5 c.length n5, .slice A6 d2.length n6, .int .i64 q0, .int .i64 q1]] (by rfl) rfl rfl (by simp only [List.map_toArray, List.map_cons, List.map_nil]; rfl) ?_
            with_reducible refine (size_st HS7.out HZ.out).mono ?_
            rintro e w8 ⟨rfl, hS8⟩
            refine ⟨_, rfl, ?_⟩
            obtain ⟨⟨j0, j1⟩, ⟨j2, j3, j4, j5⟩, j6, j7, j8, j9⟩ := hS8.cells
            have HS8 := Aside0.mk hS8
            clear hS8
            refine hK.out _ _ ⟨j2, j3, j4, j5⟩ (fun hHeld => ?_)
            clear hK K
            refine norm_ (a' := ?_) ?_ ?_
            rotate_left
            · show Act.put _ (some 115) _ = _
              simp only [Act.put, List.setIfInBounds_toArray, List.set_cons_zero, List.set_cons_succ, i64_w, i32_w]
              rfl
            refine pure_ (i := 4) (N := some 13) (v := ?_) (a' := ?_) #[true, true, true, true, true, false] rfl rfl (by kernel_rfl) (fun _ _ _ h => h) (Or.inl ⟨by rfl, ?_⟩) ?_ ?_
            rotate_left
            · intro w'
              go_simp
              with_reducible rfl
            rotate_left
            · simp only [Act.put, List.setIfInBounds_toArray, List.set_cons_zero, List.set_cons_succ, i64_w, i32_w]
              rfl
            refine pure_ (i := 5) (N := some 14) (v := ?_) (a' := ?_) #[true, true, true, true, true, true] rfl rfl (by kernel_rfl) (fun _ _ _ h => h) (Or.inl ⟨by rfl, ?_⟩) ?_ ?_
            rotate_left
            · intro w'
              go_simp
              with_reducible rfl
            rotate_left
            · simp only [Act.put, List.setIfInBounds_toArray, List.set_cons_zero, List.set_cons_succ, i64_w, i32_w]
              rfl
            refine done_ (by kernel_rfl) ?_

            clear y0 y1 y2 y3 y4 y5 z0 z1 z2 z3 t0 t1 t2 t3 t4 t5 t6 t7 t8 t9 j2 j3 j4 j5 j6 j7 j8 j9 HS6 HS7
            have hI := HS8.out.acc.1
            have i0 := cellS41_0 hI
            have i1 := cellS41_1 hI
            have i2 := cellS41_2 hI
            have i3 := cellS41_3 hI
            have i4 := cellS41_4 hI
            clear hI
            have hF2 := HA2.out.1
            have HF2 := Aside0.mk hF2
            obtain ⟨_, e0, e1, e2, e3, e4, e5⟩ := hF2
            have hm : ∀ m, Hid (mn (q1 - s) (q0 - a2) = m) → Calls Try.prog 10 #[.pointer (some ⟨g, 0, none⟩)] w8 fun e W' => e = .returned (.int .i64 m) ∧ ∃ n, W' = w8.drewN n := fun m hm => room_m g q0 q1 a2 s p m HF2.out hm.out w8 i0 i1 i2 i3
            clear hm
            obtain ⟨m, hmn⟩ : ∃ m, (if q1 - s < q0 - a2 then q1 - s else q0 - a2) = m := ⟨_, rfl⟩
            have HM : Aside0 (mn (q1 - s) (q0 - a2) = m) := ⟨by rw [← hmn]; unfold mn; split <;> split <;> omega⟩
            have hpk := HP2.out
            have wr0 : IntKind.i64.wrap (q0 - a2) = q0 - a2 := IntWalk.i64_in _ (by omega)
            have wr1 : IntKind.i64.wrap (q1 - s) = q1 - s := IntWalk.i64_in _ (by omega)
            go_wp2_with fail
            go_quiet (first | (go_at_call 15; exact Calls.quiet_of_same (waiting_quiet g a2 _ i2)) | (go_at_call 16; exact Calls.quiet_of_same (size_quiet g s _ i3)) | (go_at_call 17; exact Calls.quiet_of_same (peak_quiet g p _ i4)) | (go_at_call 10; exact Calls.quiet_of (room_m g q0 q1 a2 s p m HF2.out HM.out _ i0 i1 i2 i3)))
            clear wr0 wr1 hmn hpk
            go_wp2
            go_roundw
            case rel => exact ⟨k + 1, p, by omega, by go_num, rfl, ⟨_, _, _, _, _, _, HS8.out.drewN _, HA2.out⟩⟩
            case measure => simp [intOf]; omega
          · have hu0 : (u == 0) = false := beq_eq_false_iff_ne.mpr hu
            clear hu
            obtain ⟨cd, a2, s2, p2, hda⟩ : ∃ cd a2 s2 p2, addF q0 q1 a s p v = (cd, a2, s2, p2) := ⟨_, _, _, _, rfl⟩
            obtain ⟨c2, hf, hA', hpk⟩ := alike_add' v (by omega) HA.out hda
            have HD := Aside0.mk hda
            have HF := Aside0.mk hf
            have HA2 := Aside0.mk hA'
            have HP2 := Aside0.mk hpk
            clear hda hf hA' hpk
            have HW := Aside0.mk (HA2.out.waits (by omega)).1
            have HZ := Aside0.mk (HA2.out.waits (by omega)).2
            go_wp2_with fail
            refine (plus_at v HD.out hS HA.out.1).mono ?_
            rintro e w4 ⟨rfl, hS4⟩
            clear hS x0 x1
            have HS4 := Aside0.mk hS4
            have x1 := (hS4.below.cell (p := ⟨bl, off + k * 2 + 1, none⟩) HL.out).trans HX.out.2
            obtain ⟨⟨y0, y1⟩, ⟨y2, y3, y4, y5⟩, z0, z1, z2, z3⟩ := hS4.cells
            clear hS4
            have hk0 : (0 : Int) ≤ (k : Int) := Int.natCast_nonneg _
            have hk1 : (k : Int) < (len : Int) := by omega
            clear HA
            go_wp2_with fail
            refine start_ (n := 12) (S := fun w' => w'.cell? ⟨bl, off + k * 2 + 1, none⟩ = some (.int .i64 v) ∧ w'.cell? ⟨b, 0, none⟩ = some (.slice A0 c.length n0) ∧ w'.cell? ⟨b, 1, none⟩ = some (.slice A1 d.length n1) ∧ w'.cell? ⟨b, 2, none⟩ = some (.int .i64 q0) ∧ w'.cell? ⟨b, 3, none⟩ = some (.int .i64 q1)) (ds := [10]) #[false, false, false, false, false, false, false, false, false, false, false, false] (by kernel_rfl) rfl rfl ⟨x1, y2, y3, y4, y5⟩ (fun hHeld => ?_)
            refine pure_ (i := 1) (N := some 104) (v := ?_) (a' := ?_) #[false, true, false, false, false, false, false, false, false, false, false, false] rfl rfl (by kernel_rfl) (fun _ _ _ h => h) (Or.inl ⟨by rfl, ?_⟩) ?_ ?_
            rotate_left
            · intro w'
              go_simp
              with_reducible rfl
            rotate_left
            · simp only [Act.put, List.setIfInBounds_toArray, List.set_cons_zero, List.set_cons_succ, i64_w, i32_w]
              rfl
            refine pure_ (i := 2) (N := some 105) (v := ?_) (a' := ?_) #[false, true, true, false, false, false, false, false, false, false, false, false] rfl rfl (by kernel_rfl) (fun _ _ _ h => h) (Or.inl ⟨by rfl, ?_⟩) ?_ ?_
            rotate_left
            · intro w'
              go_simp
              with_reducible rfl
            rotate_left
            · simp only [Act.put, List.setIfInBounds_toArray, List.set_cons_zero, List.set_cons_succ, i64_w, i32_w]
              rfl
            refine pure_ (i := 3) (N := some 106) (v := ?_) (a' := ?_) #[false, true, true, true, false, false, false, false, false, false, false, false] rfl rfl (by kernel_rfl) (fun _ _ _ h => h) (Or.inl ⟨by rfl, ?_⟩) ?_ ?_
            rotate_left
            · intro w'
              go_simp
              with_reducible rfl
            rotate_left
            · simp only [Act.put, List.setIfInBounds_toArray, List.set_cons_zero, List.set_cons_succ, i64_w, i32_w]
              rfl
            refine pure_ (i := 4) (N := some 107) (v := ?_) (a' := ?_) #[false, true, true, true, true, false, false, false, false, false, false, false] rfl rfl (by kernel_rfl) (fun _ _ _ h => h) (Or.inl ⟨by rfl, ?_⟩) ?_ ?_
            rotate_left
            · intro w'
              go_simp
              with_reducible rfl
            rotate_left
            · simp only [Act.put, List.setIfInBounds_toArray, List.set_cons_zero, List.set_cons_succ, i64_w, i32_w]
              rfl
            refine take_ (i := 0) (N := some 103) (v := ?_) (a' := ?_) #[true, true, true, true, true, false, false, false, false, false, false, false] rfl rfl (by kernel_rfl) (fun _ _ _ h => h) (Or.inl ⟨by rfl, ?_⟩) hHeld ?_ ?_
            rotate_left
            · rintro w' ⟨s0, s1, s2, s3, s4⟩
              go_simp
              with_reducible rfl
            rotate_left
            · simp only [Act.put, List.setIfInBounds_toArray, List.set_cons_zero, List.set_cons_succ, i64_w, i32_w]
              rfl
            refine take_ (i := 5) (N := some 108) (v := ?_) (a' := ?_) #[true, true, true, true, true, true, false, false, false, false, false, false] rfl rfl (by kernel_rfl) (fun _ _ _ h => h) (Or.inl ⟨by rfl, ?_⟩) hHeld ?_ ?_
            rotate_left
            · rintro w' ⟨s0, s1, s2, s3, s4⟩
              go_simp
              with_reducible rfl
            rotate_left
            · simp only [Act.put, List.setIfInBounds_toArray, List.set_cons_zero, List.set_cons_succ, i64_w, i32_w]
              rfl
            refine one_ (i := 6) (N := some 109) #[true, true, true, true, true, true, true, false, false, false, false, false] rfl rfl (by kernel_rfl) (by decide) (fun K hK => ?_)
            refine goes_ Try.func12 (by kernel_rfl) rfl #[.agg #[.slice A0 c.length n0, .slice A1 d.length n1, .int .i64 q0, .int .i64 q1], .int .i64 v] (by rfl) rfl rfl (by simp only [List.map_toArray, List.map_cons, List.map_nil]; rfl) ?_
            with_reducible refine (ref_add_st v HS4.out.drew HF.out).mono ?_
            rintro e w5 ⟨v0', v1', rfl, hS5⟩
            refine ⟨_, rfl, ?_⟩
            obtain ⟨A5, n5, rfl⟩ := hS5.came.shape
            obtain ⟨A6, n6, rfl⟩ := hS5.done.shape
            have x5 := (hS5.below.cell (p := ⟨bl, off + k * 2 + 1, none⟩) HL.out).trans HX.out.2
            obtain ⟨⟨t0, t1⟩, ⟨t2, t3, t4, t5⟩, t6, t7, t8, t9⟩ := hS5.cells
            have HS5 := Aside0.mk hS5
            clear hS5
            refine hK.out _ _ ⟨x5, t2, t3, t4, t5⟩ (fun hHeld => ?_)
            clear hK K
            refine norm_ (a' := ?_) ?_ ?_
            rotate_left
            · show Act.put _ (some 109) _ = _
              simp only [Act.put, List.setIfInBounds_toArray, List.set_cons_zero, List.set_cons_succ, i64_w, i32_w]
              rfl
            refine pure_ (i := 7) (N := some 102) (v := ?_) (a' := ?_) #[true, true, true, true, true, true, true, true, false, false, false, false] rfl rfl (by kernel_rfl) (fun _ _ _ h => h) (Or.inl ⟨by rfl, ?_⟩) ?_ ?_
            rotate_left
            · intro w'
              go_simp
              with_reducible rfl
            rotate_left
            · simp only [Act.put, List.setIfInBounds_toArray, List.set_cons_zero, List.set_cons_succ, i64_w, i32_w]
              rfl
            refine pure_ (i := 8) (N := some 110) (v := ?_) (a' := ?_) #[true, true, true, true, true, true, true, true, true, false, false, false] rfl rfl (by kernel_rfl) (fun _ _ _ h => h) (Or.inl ⟨by rfl, ?_⟩) ?_ ?_
            rotate_left
            · intro w'
              go_simp
              with_reducible rfl
            rotate_left
            · simp only [Act.put, List.setIfInBounds_toArray, List.set_cons_zero, List.set_cons_succ, i64_w, i32_w]
              rfl
            refine pure_ (i := 9) (N := some 111) (v := ?_) (a' := ?_) #[true, true, true, true, true, true, true, true, true, true, false, false] rfl rfl (by kernel_rfl) (fun _ _ _ h => h) (Or.inl ⟨by rfl, ?_⟩) ?_ ?_
            rotate_left
            · intro w'
              go_simp
              with_reducible rfl
            rotate_left
            · simp only [Act.put, List.setIfInBounds_toArray, List.set_cons_zero, List.set_cons_succ, i64_w, i32_w]
              rfl
            refine last_ (i := 10) (N := none) #[true, true, true, true, true, true, true, true, true, true, true, false] rfl rfl (by kernel_rfl) (by decide) (fun K hK => ?_)
            refine skip_ (w1 := ?_) (by rfl) rfl ?_ ?_
            rotate_left
            · go_simp
              rfl
            refine hK.out _ _ ?_
            clear hK K
            refine pure_ (i := 11) (N := some 12) (v := ?_) (a' := ?_) #[true, true, true, true, true, true, true, true, true, true, true, true] rfl rfl (by kernel_rfl) (fun _ _ _ h => h) (Or.inl ⟨by rfl, ?_⟩) ?_ ?_
            rotate_left
            · intro w'
              go_simp
              with_reducible rfl
            rotate_left
            · simp only [Act.put, List.setIfInBounds_toArray, List.set_cons_zero, List.set_cons_succ, i64_w, i32_w]
              rfl
            refine done_ (by kernel_rfl) ?_

            have HS6 := Aside0.mk HS5.out.store
            clear HS5 t0 t1 t2 t3 t4 t5 t6 t7 t8 t9 x5 x1 y0 y1 y2 y3 y4 y5 z0 z1 z2 z3 HS4
            obtain ⟨w6, hw6⟩ : ∃ w6, ((((w5.setCell ⟨b, 0, none⟩ (.slice A5 c2.length n5)).setCell ⟨b, 1, none⟩ (.slice A6 d.length n6)).setCell ⟨b, 2, none⟩ (.int .i64 q0)).setCell ⟨b, 3, none⟩ (.int .i64 q1)) = w6 := ⟨_, rfl⟩
            rw [hw6] at HS6 ⊢
            clear hw6
            obtain ⟨⟨y0, y1⟩, ⟨y2, y3, y4, y5⟩, z0, z1, z2, z3⟩ := HS6.out.cells
            go_wp2_with fail
            refine start_ (n := 6) (S := fun w' => w'.cell? ⟨b, 0, none⟩ = some (.slice A5 c2.length n5) ∧ w'.cell? ⟨b, 1, none⟩ = some (.slice A6 d.length n6) ∧ w'.cell? ⟨b, 2, none⟩ = some (.int .i64 q0) ∧ w'.cell? ⟨b, 3, none⟩ = some (.int .i64 q1)) (ds := []) #[false, false, false, false, false, false] (by kernel_rfl) rfl rfl ⟨y2, y3, y4, y5⟩ (fun hHeld => ?_)
            refine take_ (i := 0) (N := some 112) (v := ?_) (a' := ?_) #[true, false, false, false, false, false] rfl rfl (by kernel_rfl) (fun _ _ _ h => h) (Or.inl ⟨by rfl, ?_⟩) hHeld ?_ ?_
            rotate_left
            · rintro w' ⟨s0, s1, s2, s3⟩
              go_simp
              with_reducible rfl
            rotate_left
            · simp only [Act.put, List.setIfInBounds_toArray, List.set_cons_zero, List.set_cons_succ, i64_w, i32_w]
              rfl
            refine take_ (i := 2) (N := some 114) (v := ?_) (a' := ?_) #[true, false, true, false, false, false] rfl rfl (by kernel_rfl) (fun _ _ _ h => h) (Or.inl ⟨by rfl, ?_⟩) hHeld ?_ ?_
            rotate_left
            · rintro w' ⟨s0, s1, s2, s3⟩
              go_simp
              with_reducible rfl
            rotate_left
            · simp only [Act.put, List.setIfInBounds_toArray, List.set_cons_zero, List.set_cons_succ, i64_w, i32_w]
              rfl
            refine one_ (i := 1) (N := some 113) #[true, true, true, false, false, false] rfl rfl (by kernel_rfl) (by decide) (fun K hK => ?_)
            refine goes_ Try.func13 (by kernel_rfl) rfl #[.agg #[.slice A5 c2.length n5, .slice A6 d.length n6, .int .i64 q0, .int .i64 q1]] (by rfl) rfl rfl (by simp only [List.map_toArray, List.map_cons, List.map_nil]; rfl) ?_
            with_reducible refine (waiting_st HS6.out.drew HW.out).mono ?_
            rintro e w7 ⟨rfl, hS7⟩
            refine ⟨_, rfl, ?_⟩
            obtain ⟨⟨t0, t1⟩, ⟨t2, t3, t4, t5⟩, t6, t7, t8, t9⟩ := hS7.cells
            have HS7 := Aside0.mk hS7
            clear hS7
            refine hK.out _ _ ⟨t2, t3, t4, t5⟩ (fun hHeld => ?_)
            clear hK K
            refine norm_ (a' := ?_) ?_ ?_
            rotate_left
            · show Act.put _ (some 113) _ = _
              simp only [Act.put, List.setIfInBounds_toArray, List.set_cons_zero, List.set_cons_succ, i64_w, i32_w]
              rfl
            refine one_ (i := 3) (N := some 115) #[true, true, true, true, false, false] rfl rfl (by kernel_rfl) (by decide) (fun K hK => ?_)
            refine goes_ Try.func14 (by kernel_rfl) rfl #[.agg #[.slice A5 c2.length n5, .slice A6 d.length n6, .int .i64 q0, .int .i64 q1]] (by rfl) rfl rfl (by simp only [List.map_toArray, List.map_cons, List.map_nil]; rfl) ?_
            with_reducible refine (size_st HS7.out HZ.out).mono ?_
            rintro e w8 ⟨rfl, hS8⟩
            refine ⟨_, rfl, ?_⟩
            obtain ⟨⟨j0, j1⟩, ⟨j2, j3, j4, j5⟩, j6, j7, j8, j9⟩ := hS8.cells
            have HS8 := Aside0.mk hS8
            clear hS8
            refine hK.out _ _ ⟨j2, j3, j4, j5⟩ (fun hHeld => ?_)
            clear hK K
            refine norm_ (a' := ?_) ?_ ?_
            rotate_left
            · show Act.put _ (some 115) _ = _
              simp only [Act.put, List.setIfInBounds_toArray, List.set_cons_zero, List.set_cons_succ, i64_w, i32_w]
              rfl
            refine pure_ (i := 4) (N := some 13) (v := ?_) (a' := ?_) #[true, true, true, true, true, false] rfl rfl (by kernel_rfl) (fun _ _ _ h => h) (Or.inl ⟨by rfl, ?_⟩) ?_ ?_
            rotate_left
            · intro w'
              go_simp
              with_reducible rfl
            rotate_left
            · simp only [Act.put, List.setIfInBounds_toArray, List.set_cons_zero, List.set_cons_succ, i64_w, i32_w]
              rfl
            refine pure_ (i := 5) (N := some 14) (v := ?_) (a' := ?_) #[true, true, true, true, true, true] rfl rfl (by kernel_rfl) (fun _ _ _ h => h) (Or.inl ⟨by rfl, ?_⟩) ?_ ?_
            rotate_left
            · intro w'
              go_simp
              with_reducible rfl
            rotate_left
            · simp only [Act.put, List.setIfInBounds_toArray, List.set_cons_zero, List.set_cons_succ, i64_w, i32_w]
              rfl
            refine done_ (by kernel_rfl) ?_

            clear y0 y1 y2 y3 y4 y5 z0 z1 z2 z3 t0 t1 t2 t3 t4 t5 t6 t7 t8 t9 j2 j3 j4 j5 j6 j7 j8 j9 HS6 HS7
            have hI := HS8.out.acc.1
            have i0 := cellS41_0 hI
            have i1 := cellS41_1 hI
            have i2 := cellS41_2 hI
            have i3 := cellS41_3 hI
            have i4 := cellS41_4 hI
            clear hI
            have hF2 := HA2.out.1
            have HF2 := Aside0.mk hF2
            obtain ⟨_, e0, e1, e2, e3, e4, e5⟩ := hF2
            have hm : ∀ m, Hid (mn (q1 - s2) (q0 - a2) = m) → Calls Try.prog 10 #[.pointer (some ⟨g, 0, none⟩)] w8 fun e W' => e = .returned (.int .i64 m) ∧ ∃ n, W' = w8.drewN n := fun m hm => room_m g q0 q1 a2 s2 p2 m HF2.out hm.out w8 i0 i1 i2 i3
            clear hm
            obtain ⟨m, hmn⟩ : ∃ m, (if q1 - s2 < q0 - a2 then q1 - s2 else q0 - a2) = m := ⟨_, rfl⟩
            have HM : Aside0 (mn (q1 - s2) (q0 - a2) = m) := ⟨by rw [← hmn]; unfold mn; split <;> split <;> omega⟩
            have hpk := HP2.out
            have wr0 : IntKind.i64.wrap (q0 - a2) = q0 - a2 := IntWalk.i64_in _ (by omega)
            have wr1 : IntKind.i64.wrap (q1 - s2) = q1 - s2 := IntWalk.i64_in _ (by omega)
            go_wp2_with fail
            go_quiet (first | (go_at_call 15; exact Calls.quiet_of_same (waiting_quiet g a2 _ i2)) | (go_at_call 16; exact Calls.quiet_of_same (size_quiet g s2 _ i3)) | (go_at_call 17; exact Calls.quiet_of_same (peak_quiet g p2 _ i4)) | (go_at_call 10; exact Calls.quiet_of (room_m g q0 q1 a2 s2 p2 m HF2.out HM.out _ i0 i1 i2 i3)))
            clear wr0 wr1 hmn hpk
            go_wp2
            go_roundw
            case rel => exact ⟨k + 1, p2, by omega, by go_num, rfl, ⟨_, _, _, _, _, _, HS8.out.drewN _, HA2.out⟩⟩
            case measure => simp [intOf]; omega
        · go_wp2
          go_ret
          exact ⟨rfl, hS.below⟩
    · have hR4 : q0 < 1 ∨ (1 ≤ q0 ∧ 16777216 < q0) ∨ (1 ≤ q0 ∧ q0 ≤ 16777216 ∧ q1 < 0) ∨ (1 ≤ q0 ∧ q0 ≤ 16777216 ∧ 0 ≤ q1 ∧ 16777216 < q1) := by unfold Right at hR; omega
      have HR := Aside0.mk (decide_eq_false hR)
      clear hR
      rcases hR4 with h | ⟨h, h'⟩ | ⟨h, h', h''⟩ | ⟨h, h', h'', h3⟩
      all_goals
        try have hlast : decide (q1 ≤ 16777216) = false := decide_eq_false (by omega)
        go_enter Try.func4, Try.ntmps4
        go_wp2_with fail
        refine (awake_any _).mono ?_
        rintro e w1 ⟨rfl, hb⟩
        have hc0 := hb.cell (p := ⟨w.heap.size, 0, none⟩) (by simp)
        have hc1 := hb.cell (p := ⟨w.heap.size, 1, none⟩) (by simp)
        have HB : Hid (Below w.heap.size w w1) := (below_alloc (Below.refl _ _) _).trans (hb.mono (by simp))
        have hs1 : w.heap.size < w1.heap.size := by have := hb.size; simp at this; omega
        clear hb
        go_wp2_with fail
        refine (new_no q0 q1 HR.out _).mono ?_
        rintro e w2 ⟨rfl, hb⟩
        have hd0 := hb.cell (p := ⟨w.heap.size, 0, none⟩) hs1
        have hd1 := hb.cell (p := ⟨w.heap.size, 1, none⟩) hs1
        have HB2 : Hid (Below w.heap.size w w2) := HB.out.trans (hb.mono HB.out.size)
        clear hb
        go_wp2_with fail
        refine (right_any q0 q1 _).mono ?_
        rintro e w3 ⟨rfl, hb⟩
        have HB3 : Hid (Below w.heap.size w w3) := HB2.out.trans (hb.mono HB2.out.size)
        clear hb HB HB2
        rw [HR.out]
        go_wp2
        go_ret
        exact ⟨rfl, HB3.out⟩
end Go.Proofs.Ytlgkklpehheaoaa.Acc
