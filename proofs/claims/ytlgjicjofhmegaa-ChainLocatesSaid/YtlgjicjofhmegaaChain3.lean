/- What Locate and Cut make of a chain of the call's own. Conditions: the list is Small. -/
import Derived.Test.YtlgjicjofhmegaaChain2
import Derived.Deep.DeepMust
namespace Go.Proofs.Ytlgjicjofhmegaa.Ch
open Go.RowKit Go.Proofs.Ytlgjicjofhmegaa.PChainLocates Go.Proofs.YtlgjicjofhmegaaW.PrintWords Go.Proofs.YtlgjicjofhmegaaW.PrintLast Go.Proofs.YtlgjicjofhmegaaW.PrintMore
attribute [local go_sem] max2_int min2_int max_two min_two
set_option linter.unusedVariables false
set_option linter.unusedSimpArgs false

/-- Locate's loop. -/
def locS : List S48 → Int → Int → List S48
  | [], _, _ => []
  | x :: xs, f, n => if n = 0 then [] else if x.f1 ≤ f then locS xs (f - x.f1) n else ⟨x.f0 + f, mn (x.f1 - f) n⟩ :: locS xs 0 (n - mn (x.f1 - f) n)

theorem drop_at (xs : List S48) (k : Nat) (h : k < xs.length) : xs.drop k = xs.getD k z48 :: xs.drop (k + 1) := by
  rw [List.drop_eq_getElem_cons h, List.getD_eq_getElem?_getD, List.getElem?_eq_getElem h]
  rfl

theorem locate_no (g : Nat) (v : Value) (xs : List S48) (a n : Int) (w0 W : World) (h : Chain w0 W g v xs) (hS : Small xs) (hno : a < 0 ∨ lenS xs < a ∨ n < 0 ∨ lenS xs - a < n) :
    Calls Try.prog 17 #[.pointer (some ⟨g, 0, none⟩), .int .i64 a, .int .i64 n] W fun e w' => e = .returned (.tuple #[.slice none 0 0, .int .i64 2]) ∧ Below W.heap.size W w' := by
  have hl := hS.len
  have hcases : a < 0 ∨ (0 ≤ a ∧ lenS xs < a) ∨ (0 ≤ a ∧ a ≤ lenS xs ∧ n < 0) ∨ (0 ≤ a ∧ a ≤ lenS xs ∧ 0 ≤ n ∧ lenS xs - a < n) := by omega
  clear hno
  have HC := Aside0.mk h
  have HS := Aside0.mk hS
  clear h hS
  rcases hcases with h | ⟨h, h'⟩ | ⟨h, h', h''⟩ | ⟨h, h', h'', h3⟩
  all_goals
    try have hlast : decide (lenS xs - a < n) = true := decide_eq_true (by omega)
    go_enter Try.func17, Try.ntmps17
    go_wp2_with fail
    refine (len_any g v xs w0 _ HC.out HS.out).mono ?_
    rintro e w1 ⟨rfl, hb⟩
    have HB := Aside0.mk hb
    clear hb
    go_wp2
    go_ret2
    exact ⟨rfl, HB.out⟩

set_option maxRecDepth 100000 in
set_option maxHeartbeats 1000000 in
theorem locate_yes (g : Nat) (v : Value) (xs : List S48) (a n : Int) (w0 W : World) (h : Chain w0 W g v xs) (hS : Small xs) (h0 : 0 ≤ a) (h1 : a ≤ lenS xs) (h2 : 0 ≤ n) (h3 : n ≤ lenS xs - a) :
    Calls Try.prog 17 #[.pointer (some ⟨g, 0, none⟩), .int .i64 a, .int .i64 n] W fun e w' => ∃ u, e = .returned (.tuple #[u, .int .i64 0]) ∧ Kd.R k48 48 w' W.heap.size (fun _ => True) u (locS xs a n) ∧ Below W.heap.size W w' := by
  have hl := hS.len
  obtain ⟨A, cap, hv, hlc, hC⟩ := Kd.R_reads h.row
  subst hv
  have hc := h.cell.1
  have HC := Aside0.mk hC
  have HCh := Aside0.mk h
  have HS := Aside0.mk hS
  have hxl := hS.1
  clear hC h hS
  go_enter Try.func17, Try.ntmps17
  go_wp2_with fail
  refine (len_any g _ xs w0 _ HCh.out HS.out).mono ?_
  rintro e w1 ⟨rfl, hb⟩
  replace hc := (hb.cell (World.block_lt_of_cell? _ _ hc)).trans hc
  have HB := Aside0.mk hb
  clear hb
  go_wp2_with fail
  go_loopw [1, 2, 9, 38] (fun fv mv u i wr => ∃ (k : Nat) (f m : Int) (ys : List S48), k ≤ xs.length ∧ i = .int .i64 k ∧ fv = .int .i64 f ∧ mv = .int .i64 m ∧ 0 ≤ f ∧ f ≤ 1000000000 ∧ 0 ≤ m ∧ m ≤ 1000000000 ∧ ys.length ≤ k ∧ Hid (ys ++ locS (xs.drop k) f m = locS xs a n) ∧ Hid (Kd.R k48 48 wr W.heap.size (fun _ => True) u ys) ∧ Hid (Below W.heap.size W wr))
    (fun _ _ _ i _ => xs.length - (intOf i).toNat)
  case atStart => exact ⟨0, a, n, [], Nat.zero_le _, rfl, rfl, rfl, h0, by omega, h2, by omega, Nat.le_refl _, rfl, Kd.R_nil _ _ _ _ _, HB.out⟩
  case round =>
    obtain ⟨k, f, m, ys, hk, rfl, rfl, rfl, hf0, hf1, hm0, hm1, hyl, HE, HR, HBr⟩ := hrel
    clear hc HB
    by_cases hlt : k < xs.length
    · obtain ⟨ad, e1, c0, c1⟩ := at_T48 HC.out (k : Int) (by omega) (by omega)
      subst e1
      unfold rd_T48 at c0 c1
      rw [Int.toNat_natCast] at c0 c1
      replace c0 := (HBr.out.cell (World.block_lt_of_cell? _ _ c0)).trans c0
      replace c1 := (HBr.out.cell (World.block_lt_of_cell? _ _ c1)).trans c1
      have hz := HS.out.2 _ (getD_mem xs k hlt)
      have hd := drop_at xs k hlt
      obtain ⟨x, hx⟩ : ∃ x, xs.getD k z48 = x := ⟨_, rfl⟩
      rw [hx] at c0 c1 hz hd
      have HD := Aside0.mk hd
      clear hx hd
      by_cases hmz : m = 0
      · have hmb : (m == 0) = true := beq_iff_eq.mpr hmz
        have hE2 : ys = locS xs a n := by
          have := HE.out
          rw [HD.out, hmz] at this
          simpa [locS] using this
        have HE2 := Aside0.mk hE2
        clear hE2 hmz
        go_wp2
        go_ret2
        exact ⟨_, rfl, by rw [← HE2.out]; exact Kd.R_below HR.out (below_alloc (Below.refl _ _) _), below_alloc HBr.out _⟩
      · have hmb : (m == 0) = false := beq_eq_false_iff_ne.mpr hmz
        by_cases hfx : x.f1 ≤ f
        · have HE2 : Hid (ys ++ locS (xs.drop (k + 1)) (f - x.f1) m = locS xs a n) := by
            show ys ++ locS (xs.drop (k + 1)) (f - x.f1) m = locS xs a n
            have := HE.out
            rw [HD.out] at this
            simpa [locS, hmz, hfx] using this
          clear hmz
          go_wp2
          go_roundw
          case rel => exact ⟨k + 1, f - x.f1, m, ys, by omega, by go_num, rfl, rfl, by omega, by omega, hm0, hm1, by omega, HE2, Kd.R_below HR.out (below_alloc (Below.refl _ _) _), below_alloc HBr.out _⟩
          case measure => simp [intOf]; omega
        · obtain ⟨p, hp⟩ : ∃ p, (if m < x.f1 - f then m else x.f1 - f) = p := ⟨_, rfl⟩
          have hpm : 0 ≤ p ∧ p ≤ m := by rw [← hp]; split <;> omega
          have HE2 : Hid ((ys ++ [⟨x.f0 + f, p⟩]) ++ locS (xs.drop (k + 1)) 0 (m - p) = locS xs a n) := by
            show (ys ++ [⟨x.f0 + f, p⟩]) ++ locS (xs.drop (k + 1)) 0 (m - p) = locS xs a n
            have := HE.out
            rw [HD.out] at this
            simpa [locS, hmz, hfx, mn, hp] using this
          clear hmz
          obtain ⟨A2, c2, rfl⟩ := Kd.R_slice HR.out
          have HNE := Aside0.mk (Kd.R_ne_new HR.out 1)
          have HX : Aside0 (((wr.alloc (.cells #[.int .i64 x.f0, .int .i64 x.f1] 48)).alloc (.cells #[.int .i64 (x.f0 + f), .int .i64 p] 48)).cell? ⟨wr.heap.size + 1, 1, none⟩ = some (.int .i64 p)) :=
            ⟨by simp⟩
          have HR2 := Aside0.mk (Kd.R_alloc (Kd.R_alloc HR.out (.cells #[.int .i64 x.f0, .int .i64 x.f1] 48)) (.cells #[.int .i64 (x.f0 + f), .int .i64 p] 48))
          have HB2 := Aside0.mk (below_alloc (below_alloc HBr.out (.cells #[.int .i64 x.f0, .int .i64 x.f1] 48)) (.cells #[.int .i64 (x.f0 + f), .int .i64 p] 48))
          go_wp2_with ((with_reducible refine gate_builtin (b := .append) (xs := #[.tmp 63, .tmp 65]) rfl ?_); at_builtin; go_must (refine Kd.R_append k48 (w0 := W) W.heap.size rfl (.tmp 63) (.tmp 65) 22 48 (.agg #[.int .i64 0, .int .i64 0]) 16 rfl Try.underlying22 info48 rfl (by decide) (by decide) (.slice A2 ys.length c2) ys ⟨x.f0 + f, p⟩ [.int .i64 (x.f0 + f), .int .i64 p] (fun _ => True) (fun _ => False) (by rfl) (Eq.trans (b := Value.slice (some ⟨wr.heap.size + 1 + 1, 0, none⟩) 1 1) (by rfl) (by simp)) (k48_mkM _ _ _ ⟨x.f0 + f, p⟩) (fun _ hk => hk.elim) (fun _ _ => trivial) HR2.out HB2.out HB2.out.size (by omega) ?_); intro v1 w2 hR3 hB3 hg3 hat3; have hk1 := (hg3.cell_far ⟨wr.heap.size + 1, 1, none⟩ (World.block_lt_of_cell? _ _ HX.out) HNE.out).trans HX.out; have HR3 := Aside0.mk hR3; have HB3 := Aside0.mk hB3; clear hR3 hB3 hg3 hat3)
          go_roundw
          case rel => exact ⟨k + 1, 0, m - p, ys ++ [(⟨x.f0 + f, p⟩ : S48)], by omega, by go_num, rfl, rfl, by omega, by omega, by omega, by omega, by rw [List.length_append, List.length_singleton]; omega, HE2, HR3.out, HB3.out⟩
          case measure => simp [intOf]; omega
    · have hkx : k = xs.length := by omega
      have hE2 : ys = locS xs a n := by
        have := HE.out
        rw [hkx, List.drop_length] at this
        simpa [locS] using this
      have HE2 := Aside0.mk hE2
      clear hE2 hkx
      go_wp2
      go_ret2
      exact ⟨_, rfl, by rw [← HE2.out]; exact HR.out, HBr.out⟩

theorem cut_no (g : Nat) (v : Value) (xs : List S48) (n : Int) (w0 W : World) (h : Chain w0 W g v xs) (hS : Small xs) (hno : n < 0 ∨ lenS xs < n) :
    Calls Try.prog 20 #[.pointer (some ⟨g, 0, none⟩), .int .i64 n] W fun e w' => e = .returned (.tuple #[.slice none 0 0, .int .i64 2]) ∧ Below W.heap.size W w' := by
  have hl := hS.len
  have hcases : n < 0 ∨ (0 ≤ n ∧ lenS xs < n) := by omega
  clear hno
  have HC := Aside0.mk h
  have HS := Aside0.mk hS
  clear h hS
  rcases hcases with h | ⟨h, h'⟩
  all_goals
    try have hlast : decide (lenS xs < n) = true := decide_eq_true (by omega)
    go_enter Try.func20, Try.ntmps20
    go_wp2_with fail
    refine (len_any g v xs w0 _ HC.out HS.out).mono ?_
    rintro e w1 ⟨rfl, hb⟩
    have HB := Aside0.mk hb
    clear hb
    go_wp2
    go_ret2
    exact ⟨rfl, HB.out⟩

theorem cut_yes (g : Nat) (v : Value) (xs : List S48) (n : Int) (w0 W : World) (h : Chain w0 W g v xs) (hS : Small xs) (h0 : 0 ≤ n) (h1 : n ≤ lenS xs) :
    Calls Try.prog 20 #[.pointer (some ⟨g, 0, none⟩), .int .i64 n] W fun e w' => ∃ u v', e = .returned (.tuple #[u, .int .i64 0]) ∧
      Chain w0 w' g v' (locS xs 0 n) ∧ Kd.R k48 48 w' W.heap.size (fun _ => True) u (locS xs n (lenS xs - n)) ∧ Kept W w' (fun k => k = g) ∧ ∀ k, u.ownBlock = some k → v'.ownBlock ≠ some k := by
  have hl := hS.len
  have hlast : decide (lenS xs < n) = false := decide_eq_false (by omega)
  have HC := Aside0.mk h
  have HS := Aside0.mk hS
  clear h hS
  go_enter Try.func20, Try.ntmps20
  go_wp2_with fail
  refine (len_any g v xs w0 _ HC.out HS.out).mono ?_
  rintro e w1 ⟨rfl, hb⟩
  have HB1 := Aside0.mk hb
  have HC1 := Aside0.mk (HC.out.step hb)
  clear hb
  go_wp2_with fail
  refine (locate_yes g v xs 0 n w0 w1 HC1.out HS.out (by omega) (by omega) h0 (by omega)).mono ?_
  rintro e w2 ⟨u1, rfl, hR1, hB2⟩
  obtain ⟨A1, n1, rfl⟩ := Kd.R_slice hR1
  have HR1 := Aside0.mk hR1
  have HB2 := Aside0.mk hB2
  have HC2 := Aside0.mk (HC1.out.step hB2)
  clear hR1 hB2
  go_wp2_with fail
  refine (locate_yes g v xs n (lenS xs - n) w0 w2 HC2.out HS.out h0 h1 (by omega) (by omega)).mono ?_
  rintro e w3 ⟨u2, rfl, hR2, hB3⟩
  obtain ⟨A2, n2, rfl⟩ := Kd.R_slice hR2
  have HR2 := Aside0.mk hR2
  have HB3 := Aside0.mk hB3
  have HC3 := Aside0.mk (HC2.out.step hB3)
  clear hR2 hB3
  obtain ⟨hc, hcf⟩ := HC3.out.cell
  go_wp2
  go_ret2
  have hR1 : Kd.R k48 48 w3 w0.heap.size (fun _ => True) (.slice A1 (locS xs 0 n).length n1) (locS xs 0 n) := Kd.R_below (Kd.R_lower HR1.out HC1.out.below.size) HB3.out
  have hb13 : Below W.heap.size W w3 := HB1.out.trans ((HB2.out.mono HB1.out.size).trans (HB3.out.mono (Nat.le_trans HB1.out.size HB2.out.size)))
  refine ⟨_, _, rfl, ⟨by simpa using blk_set HC3.out.blk 0 (.slice A1 (locS xs 0 n).length n1), HC3.out.new, Kd.R_set hR1 HC3.out.blk (by decide) 0 _, below_set HC3.out.below HC3.out.new⟩,
    Kd.R_set (Kd.R_lower HR2.out (Nat.le_trans HB1.out.size HB2.out.size)) HC3.out.blk (by decide) 0 _, Kept.setCell (S := fun k => k = g) (Kept.of_below hb13 _) (p := ⟨g, 0, none⟩) (.inl rfl) _, ?_⟩
  intro k hk e
  have h1 := Kd.R_base HR2.out k hk
  have h2 := Kd.R_lt HR1.out k e
  omega
end Go.Proofs.Ytlgjicjofhmegaa.Ch
