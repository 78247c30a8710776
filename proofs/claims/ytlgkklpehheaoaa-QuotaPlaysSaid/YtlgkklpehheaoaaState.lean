/- The state of QuotaPlays' loop in memory (the account, the reference's account, the quota), and what each call makes of it. Conditions: as Alike says. -/
import Derived.Test.YtlgkklpehheaoaaPlain
namespace Go.Proofs.Ytlgkklpehheaoaa.Acc
open Go.RowKit Go.Proofs.Ytlgkklpehheaoaa.PQuotaPlays Go.Proofs.YtlgkklpehheaoaaW.PrintWords Go.Proofs.YtlgkklpehheaoaaW.PrintLast Go.Proofs.YtlgkklpehheaoaaW.PrintMore
attribute [local go_sem] max2_int min2_int max_two min_two
set_option linter.unusedVariables false

/-- A slice of whole numbers of the call's own. -/
def Mine (w W : World) (v : Value) (l : List Int) : Prop := Kd.R (Kd.int .i64) 3 W w.heap.size (fun k => v.ownBlock = some k) v l
theorem Mine.of {w W : World} {ok : Nat → Prop} {v : Value} {l : List Int} (h : Kd.R (Kd.int .i64) 3 W w.heap.size ok v l) : Mine w W v l := ⟨fun _ hk => hk, h.2.imp_ (fun _ _ hp => hp)⟩

/-- The memory of the loop: the account at block g, the quota's box at the first new block, the reference's account at block b, whose slices read u0 and u1; the slices v0, v1 that hold c and d. -/
structure St (q0 q1 : Int) (w W : World) (g b : Nat) (a s p : Int) (u0 u1 v0 v1 : Value) (c d : List Int) : Prop where
  acc : IsS41 w W g q0 q1 a s p
  below : Below w.heap.size w W
  quo : W.heap[w.heap.size]? = some (.cells #[.int .i64 q0, .int .i64 q1] 23 (0, 0))
  ref : W.heap[b]? = some (.cells #[u0, u1, .int .i64 q0, .int .i64 q1] 36 (0, 0))
  new : w.heap.size ≤ b
  came : Mine w W v0 c
  done : Mine w W v1 d
  apart : ∀ k, v0.ownBlock = some k → v1.ownBlock = some k → False

section
variable {q0 q1 : Int} {w W W1 : World} {g b : Nat} {a s p a' s' p' : Int} {u0 u1 v0 v1 : Value} {c d : List Int}
theorem St.step (h : St q0 q1 w W g b a s p u0 u1 v0 v1 c d) (hb : Below W.heap.size W W1) : St q0 q1 w W1 g b a s p u0 u1 v0 v1 c d :=
  ⟨h.acc.below hb, h.below.trans (hb.mono h.below.size), (hb.block _ (blk_lt h.quo)).trans h.quo, (hb.block _ (blk_lt h.ref)).trans h.ref, h.new, Kd.R_below h.came hb, Kd.R_below h.done hb, h.apart⟩
theorem St.drewN (h : St q0 q1 w W g b a s p u0 u1 v0 v1 c d) (m : Nat) : St q0 q1 w (W.drewN m) g b a s p u0 u1 v0 v1 c d := h.step (pw_below_drewN (Below.refl _ _) m)
theorem St.drew (h : St q0 q1 w W g b a s p u0 u1 v0 v1 c d) : St q0 q1 w W.drew g b a s p u0 u1 v0 v1 c d := h.step (below_drew (Below.refl _ _))
/-- A call of the account's: all but its block is as it was. -/
theorem St.keep (h : St q0 q1 w W g b a s p u0 u1 v0 v1 c d) (hI : IsS41 w W1 g q0 q1 a' s' p') (hB : Below w.heap.size w W1) (hK : KeepBut W W1 g none) : St q0 q1 w W1 g b a' s' p' u0 u1 v0 v1 c d := by
  have n1 : w.heap.size ≠ g := fun e => (h.acc.ne_blk (a := w.heap.size) h.quo (by decide)) e.symm
  have n2 : b ≠ g := fun e => (h.acc.ne_blk (a := b) h.ref (by decide)) e.symm
  have n3 := h.acc.own_ne h.came (by decide)
  have n4 := h.acc.own_ne h.done (by decide)
  exact ⟨hI, hB, hK.blk h.quo n1 (by simp), hK.blk h.ref n2 (by simp), h.new, Kd.R_keep h.came hK (fun k hk e => n3 (by rw [hk, e])), Kd.R_keep h.done hK (fun k hk e => n4 (by rw [hk, e])), h.apart⟩
/-- A call of the reference's: its account's slices are others. -/
theorem St.turn {v0' v1' : Value} {c' d' : List Int} {o0 o1 : Nat → Prop} (h : St q0 q1 w W g b a s p u0 u1 v0 v1 c d) (r0 : Kd.R (Kd.int .i64) 3 W1 w.heap.size (fun k => o0 k ∧ some k ≠ v1'.ownBlock) v0' c') (r1 : Kd.R (Kd.int .i64) 3 W1 w.heap.size o1 v1' d')
    (hB : Below w.heap.size w W1) (hK : Kept W W1 (fun k => v0.ownBlock = some k ∨ v1.ownBlock = some k)) : St q0 q1 w W1 g b a s p u0 u1 v0' v1' c' d' := by
  have n1 := Kd.R_ne h.came h.quo (by decide)
  have n2 := Kd.R_ne h.done h.quo (by decide)
  have n3 := Kd.R_ne h.came h.ref (by decide)
  have n4 := Kd.R_ne h.done h.ref (by decide)
  have n5 := h.acc.own_ne h.came (by decide)
  have n6 := h.acc.own_ne h.done (by decide)
  refine ⟨h.acc.kept hK (fun e => e.elim (fun e => n5 e.symm) (fun e => n6 e.symm)), hB, blk_kept h.quo hK (fun e => e.elim (fun e => n1 e.symm) (fun e => n2 e.symm)), blk_kept h.ref hK (fun e => e.elim (fun e => n3 e.symm) (fun e => n4 e.symm)), h.new, Mine.of r0, Mine.of r1, ?_⟩
  intro k h0 h1
  exact (r0.1 k h0).2 h1.symm
/-- The store of the reference's account. -/
theorem St.store (h : St q0 q1 w W g b a s p u0 u1 v0 v1 c d) :
    St q0 q1 w ((((W.setCell ⟨b, 0, none⟩ v0).setCell ⟨b, 1, none⟩ v1).setCell ⟨b, 2, none⟩ (.int .i64 q0)).setCell ⟨b, 3, none⟩ (.int .i64 q1)) g b a s p v0 v1 v0 v1 c d := by
  have n1 : g ≠ b := h.acc.ne_blk h.ref (by decide)
  have n2 : w.heap.size ≠ b := fun e => by
    have h1 := h.quo
    rw [e, h.ref] at h1
    simp at h1
  have n3 := Kd.R_ne h.came h.ref (by decide)
  have n4 := Kd.R_ne h.done h.ref (by decide)
  have f : ∀ (X : World) (j : Nat) (u : Value) (v : Value) (l : List Int), Mine w X v l → some b ≠ v.ownBlock → Mine w (X.setCell ⟨b, j, none⟩ u) v l := fun X j u v l hm hn => Kd.R_far hm (p := ⟨b, j, none⟩) (fun k hk e => hn (by rw [hk, e])) u
  refine ⟨(((h.acc.far (p := ⟨b, 0, none⟩) n1 _).far (p := ⟨b, 1, none⟩) n1 _).far (p := ⟨b, 2, none⟩) n1 _).far (p := ⟨b, 3, none⟩) n1 _, below_set (below_set (below_set (below_set h.below h.new) h.new) h.new) h.new,
    blk_far (p := ⟨b, 3, none⟩) (blk_far (p := ⟨b, 2, none⟩) (blk_far (p := ⟨b, 1, none⟩) (blk_far (p := ⟨b, 0, none⟩) h.quo n2 _) n2 _) n2 _) n2 _,
    by simpa using blk_set (blk_set (blk_set (blk_set h.ref 0 v0) 1 v1) 2 (.int .i64 q0)) 3 (.int .i64 q1), h.new,
    f _ _ _ _ _ (f _ _ _ _ _ (f _ _ _ _ _ (f _ _ _ _ _ h.came n3) n3) n3) n3, f _ _ _ _ _ (f _ _ _ _ _ (f _ _ _ _ _ (f _ _ _ _ _ h.done n4) n4) n4) n4, h.apart⟩
/-- What the walk reads. -/
theorem St.cells (h : St q0 q1 w W g b a s p u0 u1 v0 v1 c d) :
    (W.cell? ⟨w.heap.size, 0, none⟩ = some (.int .i64 q0) ∧ W.cell? ⟨w.heap.size, 1, none⟩ = some (.int .i64 q1)) ∧
    (W.cell? ⟨b, 0, none⟩ = some u0 ∧ W.cell? ⟨b, 1, none⟩ = some u1 ∧ W.cell? ⟨b, 2, none⟩ = some (.int .i64 q0) ∧ W.cell? ⟨b, 3, none⟩ = some (.int .i64 q1)) ∧
    (W.frozen? ⟨b, 0, none⟩ = false ∧ W.frozen? ⟨b, 1, none⟩ = false ∧ W.frozen? ⟨b, 2, none⟩ = false ∧ W.frozen? ⟨b, 3, none⟩ = false) :=
  ⟨⟨blk_cell h.quo 0, blk_cell h.quo 1⟩, ⟨blk_cell h.ref 0, blk_cell h.ref 1, blk_cell h.ref 2, blk_cell h.ref 3⟩, ⟨blk_frozen h.ref 0, blk_frozen h.ref 1, blk_frozen h.ref 2, blk_frozen h.ref 3⟩⟩
theorem Mine.shape {v : Value} {l : List Int} (h : Mine w W v l) : ∃ A n, v = .slice A l.length n := Kd.R_slice h

theorem done_st (n : Int) (h : St q0 q1 w W g b a s p u0 u1 v0 v1 c d) (hF : Fit q0 q1 a s p) :
    Calls Try.prog 8 #[.pointer (some ⟨g, 0, none⟩), .int .i64 n] W fun e W1 => e = .returned (.int .i64 (doneF a n).1) ∧ St q0 q1 w W1 g b (doneF a n).2 s p u0 u1 v0 v1 c d :=
  (done_any g q0 q1 a s p n w W h.acc h.below hF).mono fun _ _ ⟨he, hI, hB, hK⟩ => ⟨he, h.keep hI hB hK⟩
theorem add_st (n : Int) (h : St q0 q1 w W g b a s p u0 u1 v0 v1 c d) (hF : Fit q0 q1 a s p) :
    Calls Try.prog 9 #[.pointer (some ⟨g, 0, none⟩), .int .i64 n] W fun e W1 => e = .returned (.int .i64 (addF q0 q1 a s p n).1) ∧
      St q0 q1 w W1 g b (addF q0 q1 a s p n).2.1 (addF q0 q1 a s p n).2.2.1 (addF q0 q1 a s p n).2.2.2 u0 u1 v0 v1 c d :=
  (add_any g q0 q1 a s p n w W h.acc h.below hF).mono fun _ _ ⟨he, hI, hB, hK⟩ => ⟨he, h.keep hI hB hK⟩
theorem less_st (n : Int) {d' : List Int} {code : Int} (h : St q0 q1 w W g b a s p u0 u1 v0 v1 c d) (hf : punnetref34_Less.f 1000 c d q0 q1 n = some (c, d', q0, q1, code)) :
    Calls Try.prog 11 #[.agg #[v0, v1, .int .i64 q0, .int .i64 q1], .int .i64 n] W fun e W1 => ∃ v0' v1', e = .returned (.tuple #[.agg #[v0', v1', .int .i64 q0, .int .i64 q1], .int .i64 code]) ∧ St q0 q1 w W1 g b a s p u0 u1 v0' v1' c d' :=
  (punnetref34_Less.calls 1000 (fun k => v0.ownBlock = some k) v0 c (fun k => v1.ownBlock = some k) v1 d q0 q1 n c d' q0 q1 code w W h.below h.came (fun k h0 h1 => h.apart k h0 h1) h.done (fun k h0 h1 => h.apart k h1 h0) hf).mono
    fun _ _ ⟨x0, x1, he, r0, r1, hB, hK⟩ => ⟨x0, x1, he, h.turn r0 r1 hB hK⟩
theorem ref_add_st (n : Int) {c' : List Int} {code : Int} (h : St q0 q1 w W g b a s p u0 u1 v0 v1 c d) (hf : punnetref34_Add.f 1000 c d q0 q1 n = some (c', d, q0, q1, code)) :
    Calls Try.prog 12 #[.agg #[v0, v1, .int .i64 q0, .int .i64 q1], .int .i64 n] W fun e W1 => ∃ v0' v1', e = .returned (.tuple #[.agg #[v0', v1', .int .i64 q0, .int .i64 q1], .int .i64 code]) ∧ St q0 q1 w W1 g b a s p u0 u1 v0' v1' c' d :=
  (punnetref34_Add.calls 1000 (fun k => v0.ownBlock = some k) v0 c (fun k => v1.ownBlock = some k) v1 d q0 q1 n c' d q0 q1 code w W h.below h.came (fun k h0 h1 => h.apart k h0 h1) h.done (fun k h0 h1 => h.apart k h1 h0) hf).mono
    fun _ _ ⟨x0, x1, he, r0, r1, hB, hK⟩ => ⟨x0, x1, he, h.turn r0 r1 hB hK⟩
theorem waiting_st {x : Int} (h : St q0 q1 w W g b a s p u0 u1 v0 v1 c d) (hf : punnetref34_Waiting.f 1000 c d q0 q1 = some x) :
    Calls Try.prog 13 #[.agg #[v0, v1, .int .i64 q0, .int .i64 q1]] W fun e W1 => e = .returned (.int .i64 x) ∧ St q0 q1 w W1 g b a s p u0 u1 v0 v1 c d := by
  obtain ⟨A, m, e0, hl0, hc0⟩ := Kd.R_reads h.came
  obtain ⟨A', m', e1, hl1, hc1⟩ := Kd.R_reads h.done
  subst e0 e1
  exact (punnetref34_Waiting.calls 1000 A m c A' m' d q0 q1 x W hc0 hl0 hc1 hl1 hf).mono fun _ _ ⟨he, hb⟩ => ⟨he, h.step hb⟩
theorem size_st {x : Int} (h : St q0 q1 w W g b a s p u0 u1 v0 v1 c d) (hf : punnetref34_Size.f 1000 c d q0 q1 = some x) :
    Calls Try.prog 14 #[.agg #[v0, v1, .int .i64 q0, .int .i64 q1]] W fun e W1 => e = .returned (.int .i64 x) ∧ St q0 q1 w W1 g b a s p u0 u1 v0 v1 c d := by
  obtain ⟨A, m, e0, hl0, hc0⟩ := Kd.R_reads h.came
  obtain ⟨A', m', e1, hl1, hc1⟩ := Kd.R_reads h.done
  subst e0 e1
  exact (punnetref34_Size.calls 1000 A m c A' m' d q0 q1 x W hc0 hl0 hc1 hl1 hf).mono fun _ _ ⟨he, hb⟩ => ⟨he, h.step hb⟩
end

/-- The account's numbers, read: nothing is written. -/
theorem waiting_quiet (g : Nat) (a : Int) (W : World) (hc : W.cell? ⟨g, 2, none⟩ = some (.int .i64 a)) : Calls Try.prog 15 #[.pointer (some ⟨g, 0, none⟩)] W fun e W' => e = .returned (.int .i64 a) ∧ W' = W := by
  go_enter Try.func15, Try.ntmps15
  go_wp2
  go_ret
  exact ⟨rfl, rfl⟩
theorem size_quiet (g : Nat) (a : Int) (W : World) (hc : W.cell? ⟨g, 3, none⟩ = some (.int .i64 a)) : Calls Try.prog 16 #[.pointer (some ⟨g, 0, none⟩)] W fun e W' => e = .returned (.int .i64 a) ∧ W' = W := by
  go_enter Try.func16, Try.ntmps16
  go_wp2
  go_ret
  exact ⟨rfl, rfl⟩
theorem peak_quiet (g : Nat) (a : Int) (W : World) (hc : W.cell? ⟨g, 4, none⟩ = some (.int .i64 a)) : Calls Try.prog 17 #[.pointer (some ⟨g, 0, none⟩)] W fun e W' => e = .returned (.int .i64 a) ∧ W' = W := by
  go_enter Try.func17, Try.ntmps17
  go_wp2
  go_ret
  exact ⟨rfl, rfl⟩
theorem room_quiet (g : Nat) (q0 q1 a s p : Int) (hF : Fit q0 q1 a s p) (W : World) (h0 : W.cell? ⟨g, 0, none⟩ = some (.int .i64 q0)) (h1 : W.cell? ⟨g, 1, none⟩ = some (.int .i64 q1)) (h2 : W.cell? ⟨g, 2, none⟩ = some (.int .i64 a)) (h3 : W.cell? ⟨g, 3, none⟩ = some (.int .i64 s)) :
    Calls Try.prog 10 #[.pointer (some ⟨g, 0, none⟩)] W fun e W' => e = .returned (.int .i64 (mn (q1 - s) (q0 - a))) ∧ ∃ n, W' = W.drewN n := by
  obtain ⟨⟨r0, r1, r2, r3⟩, f0, f1, f2, f3, f4, f5⟩ := hF
  by_cases h : q0 - a < q1 - s
  · have e : Hid (mn (q1 - s) (q0 - a) = q0 - a) := by show mn _ _ = _; unfold mn; rw [if_pos h]
    go_enter Try.func10, Try.ntmps10
    go_wp2
    go_quiet (fail)
    go_wp2
    go_ret
    rw [e.out]
    exact ⟨rfl, _, rfl⟩
  · have e : Hid (mn (q1 - s) (q0 - a) = q1 - s) := by show mn _ _ = _; unfold mn; rw [if_neg h]
    go_enter Try.func10, Try.ntmps10
    go_wp2
    go_quiet (fail)
    go_wp2
    go_ret
    rw [e.out]
    exact ⟨rfl, _, rfl⟩
end Go.Proofs.Ytlgkklpehheaoaa.Acc
