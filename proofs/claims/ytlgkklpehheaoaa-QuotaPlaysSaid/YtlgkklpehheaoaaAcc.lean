/- Contracts of quota.New and of Account.Add, over any account within its quota. Conditions: the account's numbers lie between 0 and the quota's, which are at most 2^24. -/
import Derived.Test.YtlgkklpehheaoaaFns2
import Derived.RegionTactic
import Derived.BigRegion
import Derived.Lib.Hide
namespace Go.Proofs.Ytlgkklpehheaoaa.Acc
open Go.RowKit Go.Proofs.Ytlgkklpehheaoaa.PQuotaPlays Go.Proofs.YtlgkklpehheaoaaW.PrintWords Go.Proofs.YtlgkklpehheaoaaW.PrintLast Go.Proofs.YtlgkklpehheaoaaW.PrintMore
attribute [local go_sem] max2_int min2_int max_two min_two

def Right (q0 q1 : Int) : Prop := 1 ≤ q0 ∧ q0 ≤ 16777216 ∧ 0 ≤ q1 ∧ q1 ≤ 16777216
instance (q0 q1 : Int) : Decidable (Right q0 q1) := inferInstanceAs (Decidable (_ ∧ _))

theorem right_any (q0 q1 : Int) (w : World) :
    Calls Try.prog 7 #[.agg #[.int .i64 q0, .int .i64 q1]] w fun e w' => e = .returned (.bool (decide (Right q0 q1))) ∧ Below w.heap.size w w' := by
  refine quota_Quota_Right.calls q0 q1 _ w ?_
  unfold quota_Quota_Right.f Right
  by_cases h0 : q0 ≥ 1 <;> by_cases h1 : q0 ≤ 16777216 <;> by_cases h2 : q1 ≥ 0 <;> by_cases h3 : q1 ≤ 16777216 <;> simp [h0, h1, h2, h3] <;> omega

theorem new_no (q0 q1 : Int) (hR : decide (Right q0 q1) = false) (w : World) :
    Calls Try.prog 6 #[.agg #[.int .i64 q0, .int .i64 q1]] w fun e w' => e = .returned (.tuple #[.pointer none, .int .i64 1]) ∧ Below w.heap.size w w' := by
  go_enter Try.func6, Try.ntmps6
  go_wp2_with fail
  refine (right_any q0 q1 _).mono ?_
  rintro e w' ⟨rfl, hb⟩
  have HB : Hid (Below w.heap.size w w') := (below_alloc (Below.refl _ _) _).trans (hb.mono (by simp))
  clear hb
  rw [hR]
  clear hR
  go_wp2
  go_ret2
  exact ⟨rfl, HB.out⟩

theorem new_yes (q0 q1 : Int) (hR : decide (Right q0 q1) = true) (w : World) :
    Calls Try.prog 6 #[.agg #[.int .i64 q0, .int .i64 q1]] w fun e w' => ∃ g, e = .returned (.tuple #[.pointer (some ⟨g, 0, none⟩), .int .i64 0]) ∧ IsS41 w w' g q0 q1 0 0 0 ∧ Below w.heap.size w w' := by
  go_enter Try.func6, Try.ntmps6
  go_wp2_with fail
  refine (right_any q0 q1 _).mono ?_
  rintro e w' ⟨rfl, hb⟩
  have hc0 := hb.cell (p := ⟨w.heap.size, 0, none⟩) (by simp)
  have hc1 := hb.cell (p := ⟨w.heap.size, 1, none⟩) (by simp)
  have HB : Hid (Below w.heap.size w w') := (below_alloc (Below.refl _ _) _).trans (hb.mono (by simp))
  clear hb
  rw [hR]
  clear hR
  go_wp2
  go_ret2
  exact ⟨w'.heap.size, rfl, IsS41.new w w' q0 q1 0 0 0 HB.out, below_alloc HB.out _⟩

/-- What Add makes of an account: its answer, and how many wait, have come, waited at most. -/
def addF (q0 q1 a s p n : Int) : Int × Int × Int × Int :=
  if n < 0 then (1, a, s, p) else if q1 - s < n then (13, a, s, p) else if q0 - a < n then (9, a, s, p) else (0, a + n, s + n, if p < a + n then a + n else p)
/-- An account within its quota. -/
def Fit (q0 q1 a s p : Int) : Prop := Right q0 q1 ∧ 0 ≤ a ∧ a ≤ q0 ∧ 0 ≤ s ∧ s ≤ q1 ∧ 0 ≤ p ∧ p ≤ q0
instance (q0 q1 a s p : Int) : Decidable (Fit q0 q1 a s p) := inferInstanceAs (Decidable (_ ∧ _))

set_option maxHeartbeats 1000000 in
theorem add_any (g : Nat) (q0 q1 a s p n : Int) (w0 w : World) (hI : IsS41 w0 w g q0 q1 a s p) (hB : Below w0.heap.size w0 w) (hF : Fit q0 q1 a s p) :
    Calls Try.prog 9 #[.pointer (some ⟨g, 0, none⟩), .int .i64 n] w fun e w' => e = .returned (.int .i64 (addF q0 q1 a s p n).1) ∧
      IsS41 w0 w' g q0 q1 (addF q0 q1 a s p n).2.1 (addF q0 q1 a s p n).2.2.1 (addF q0 q1 a s p n).2.2.2 ∧ Below w0.heap.size w0 w' ∧ KeepBut w w' g none := by
  obtain ⟨⟨r0, r1, r2, r3⟩, f0, f1, f2, f3, f4, f5⟩ := hF
  have HI0 := Aside0.mk hI
  have HB := Aside0.mk hB
  have HK := Aside0.mk (KeepBut.refl w g none)
  obtain ⟨hG, hg⟩ := hI
  have c0 := cellS41_0 hG
  have c1 := cellS41_1 hG
  have c2 := cellS41_2 hG
  have c3 := cellS41_3 hG
  have c4 := cellS41_4 hG
  have z0 := blk_frozen hG 0
  have z1 := blk_frozen hG 1
  have z2 := blk_frozen hG 2
  have z3 := blk_frozen hG 3
  have z4 := blk_frozen hG 4
  clear hG hg hB
  by_cases h1 : n < 0
  · have e1 : Hid (addF q0 q1 a s p n = (1, a, s, p)) := by show addF .. = _; unfold addF; rw [if_pos h1]
    go_enter Try.func9, Try.ntmps9
    go_wp2
    go_ret
    rw [e1.out]
    exact ⟨rfl, HI0.out, HB.out, HK.out⟩
  · by_cases h2 : q1 - s < n
    · have e1 : Hid (addF q0 q1 a s p n = (13, a, s, p)) := by show addF .. = _; unfold addF; rw [if_neg h1, if_pos h2]
      go_enter Try.func9, Try.ntmps9
      go_wp2
      go_quiet (fail)
      go_wp2
      go_ret
      rw [e1.out]
      exact ⟨rfl, HI0.out.drewN _, pw_below_drewN HB.out _, keep_drewN HK.out _⟩
    · by_cases h3 : q0 - a < n
      · have e1 : Hid (addF q0 q1 a s p n = (9, a, s, p)) := by show addF .. = _; unfold addF; rw [if_neg h1, if_neg h2, if_pos h3]
        go_enter Try.func9, Try.ntmps9
        go_wp2
        go_quiet (fail)
        go_wp2
        go_quiet (fail)
        go_wp2
        go_ret
        rw [e1.out]
        exact ⟨rfl, (HI0.out.drewN _).drewN _, pw_below_drewN (pw_below_drewN HB.out _) _, keep_drewN (keep_drewN HK.out _) _⟩
      · by_cases h4 : p < a + n
        · have e1 : Hid (addF q0 q1 a s p n = (0, a + n, s + n, a + n)) := by show addF .. = _; unfold addF; rw [if_neg h1, if_neg h2, if_neg h3, if_pos h4]
          go_enter Try.func9, Try.ntmps9
          go_wp2
          go_quiet (fail)
          go_wp2
          go_quiet (fail)
          go_wp2
          go_region
          go_wp2
          go_ret
          rw [e1.out]
          exact ⟨rfl, ((((HI0.out.drewN _).set_3 _).set_2 _).set_4 _).drew, below_drew (below_set (below_set (below_set (pw_below_drewN HB.out _) HI0.out.ge) HI0.out.ge) HI0.out.ge), keep_drew (((KeepBut.set_ (KeepBut.set_ (KeepBut.set_ (keep_drewN HK.out _) _ _) _ _) _ _)))⟩
        · have e1 : Hid (addF q0 q1 a s p n = (0, a + n, s + n, p)) := by show addF .. = _; unfold addF; rw [if_neg h1, if_neg h2, if_neg h3, if_neg h4]
          go_enter Try.func9, Try.ntmps9
          go_wp2
          go_quiet (fail)
          go_wp2
          go_quiet (fail)
          go_wp2
          go_region
          go_wp2
          go_ret
          rw [e1.out]
          exact ⟨rfl, ((((HI0.out.drewN _).set_3 _).set_2 _).set_4 _).drew, below_drew (below_set (below_set (below_set (pw_below_drewN HB.out _) HI0.out.ge) HI0.out.ge) HI0.out.ge), keep_drew (((KeepBut.set_ (KeepBut.set_ (KeepBut.set_ (keep_drewN HK.out _) _ _) _ _) _ _)))⟩

theorem add_at (q0 q1 a s p n : Int) (hF : Fit q0 q1 a s p) {c a' s' p' : Int} (h : addF q0 q1 a s p n = (c, a', s', p')) (g : Nat) (w0 w : World) (hI : IsS41 w0 w g q0 q1 a s p) (hB : Below w0.heap.size w0 w) :
    Calls Try.prog 9 #[.pointer (some ⟨g, 0, none⟩), .int .i64 n] w fun e w' => e = .returned (.int .i64 c) ∧ IsS41 w0 w' g q0 q1 a' s' p' ∧ Below w0.heap.size w0 w' ∧ KeepBut w w' g none := by
  have h1 := add_any g q0 q1 a s p n w0 w hI hB hF
  rw [h] at h1
  exact h1

/-- What Done makes of an account: its answer, and how many wait. -/
def doneF (a n : Int) : Int × Int := if n < 0 then (1, a) else if a < n then (1, a) else (0, a - n)
theorem wrap_in {n : Int} (h0 : -9223372036854775808 ≤ n) (h1 : n ≤ 9223372036854775807) : wrap64 n = n := by
  unfold wrap64
  omega
theorem fit_add {q0 q1 a s p n : Int} (h : Fit q0 q1 a s p) : Fit q0 q1 (addF q0 q1 a s p n).2.1 (addF q0 q1 a s p n).2.2.1 (addF q0 q1 a s p n).2.2.2 := by
  obtain ⟨hr, f0, f1, f2, f3, f4, f5⟩ := h
  unfold addF Fit
  by_cases h1 : n < 0
  · rw [if_pos h1]; exact ⟨hr, f0, f1, f2, f3, f4, f5⟩
  · rw [if_neg h1]
    by_cases h2 : q1 - s < n
    · rw [if_pos h2]; exact ⟨hr, f0, f1, f2, f3, f4, f5⟩
    · rw [if_neg h2]
      by_cases h3 : q0 - a < n
      · rw [if_pos h3]; exact ⟨hr, f0, f1, f2, f3, f4, f5⟩
      · rw [if_neg h3]
        refine ⟨hr, ?_, ?_, ?_, ?_, ?_, ?_⟩ <;> dsimp only <;> (try split) <;> omega
theorem fit_done {q0 q1 a s p n : Int} (h : Fit q0 q1 a s p) : Fit q0 q1 (doneF a n).2 s p := by
  obtain ⟨hr, f0, f1, f2, f3, f4, f5⟩ := h
  unfold doneF Fit
  refine ⟨hr, ?_, ?_, f2, f3, f4, f5⟩ <;> split <;> (try split) <;> dsimp only <;> omega
theorem done_any (g : Nat) (q0 q1 a s p n : Int) (w0 w : World) (hI : IsS41 w0 w g q0 q1 a s p) (hB : Below w0.heap.size w0 w) (hF : Fit q0 q1 a s p) :
    Calls Try.prog 8 #[.pointer (some ⟨g, 0, none⟩), .int .i64 n] w fun e w' => e = .returned (.int .i64 (doneF a n).1) ∧
      IsS41 w0 w' g q0 q1 (doneF a n).2 s p ∧ Below w0.heap.size w0 w' ∧ KeepBut w w' g none := by
  refine quota_Account_Done.calls g q0 q1 a s p n _ _ _ _ _ _ w0 w hI hB ?_
  obtain ⟨⟨r0, r1, r2, r3⟩, f0, f1, f2, f3, f4, f5⟩ := hF
  unfold quota_Account_Done.f doneF
  by_cases h1 : n < 0
  · rw [if_pos h1, if_pos h1]
  · rw [if_neg h1, if_neg h1]
    by_cases h2 : a < n
    · rw [if_pos h2, if_pos h2]
    · rw [if_neg h2, if_neg h2, wrap_in (by omega) (by omega)]
theorem room_at (q0 q1 a s p m : Int) (hF : Fit q0 q1 a s p) (hm : mn (q1 - s) (q0 - a) = m) (g : Nat) (w0 w : World) (hI : IsS41 w0 w g q0 q1 a s p) (hB : Below w0.heap.size w0 w) :
    Calls Try.prog 10 #[.pointer (some ⟨g, 0, none⟩)] w fun e w' => e = .returned (.int .i64 m) ∧ IsS41 w0 w' g q0 q1 a s p ∧ Below w0.heap.size w0 w' ∧ KeepBut w w' g none := by
  refine quota_Account_Room.calls g q0 q1 a s p _ _ _ _ _ _ w0 w hI hB ?_
  obtain ⟨⟨r0, r1, r2, r3⟩, f0, f1, f2, f3, f4, f5⟩ := hF
  unfold quota_Account_Room.f
  rw [wrap_in (n := q1 - s) (by omega) (by omega), wrap_in (n := q0 - a) (by omega) (by omega), hm]

set_option maxHeartbeats 400000 in
theorem awake_any (w : World) : Calls Try.prog 5 #[] w fun e w' => e = .returned (.bool true) ∧ Below w.heap.size w w' := by
  go_enter Try.func5, Try.ntmps5
  go_wp2_with fail
  refine (new_yes 4 6 (by decide) _).mono ?_
  rintro e w1 ⟨g, rfl, hI, hB⟩
  go_wp2_with fail
  refine (add_at 4 6 0 0 0 5 (by decide) (by decide : addF 4 6 0 0 0 5 = (9, 0, 0, 0)) g w w1 hI hB).mono ?_
  rintro e w2 ⟨rfl, hI2, hB2, _⟩
  clear hI hB
  go_wp2_with fail
  refine (add_at 4 6 0 0 0 7 (by decide) (by decide : addF 4 6 0 0 0 7 = (13, 0, 0, 0)) g w w2 hI2 hB2).mono ?_
  rintro e w3 ⟨rfl, hI3, hB3, _⟩
  clear hI2 hB2
  go_wp2_with fail
  refine (add_at 4 6 0 0 0 4 (by decide) (by decide : addF 4 6 0 0 0 4 = (0, 4, 4, 4)) g w w3 hI3 hB3).mono ?_
  rintro e w4 ⟨rfl, hI4, hB4, _⟩
  clear hI3 hB3
  go_wp2
  go_ret
  exact ⟨rfl, hB4⟩
end Go.Proofs.Ytlgkklpehheaoaa.Acc
