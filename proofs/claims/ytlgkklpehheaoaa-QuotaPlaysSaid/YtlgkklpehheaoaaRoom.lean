/- The walk of the law QuotaRoom: it returns true, and what was there is as it was. Conditions: the list's cells hold numbers; its length is a slice's. -/
import Derived.Test.YtlgkklpehheaoaaAcc
import Derived.LoopTactic
namespace Go.Proofs.Ytlgkklpehheaoaa.Acc
open Go.RowKit Go.Proofs.Ytlgkklpehheaoaa.PQuotaPlays Go.Proofs.YtlgkklpehheaoaaW.PrintWords Go.Proofs.YtlgkklpehheaoaaW.PrintLast Go.Proofs.YtlgkklpehheaoaaW.PrintMore

/-- A list of pairs that came in: at every place its two numbers. -/
def Pairs (w : World) (A : Option Addr) (len : Nat) (f : Nat → Int × Int) : Prop :=
  0 < len → ∃ b off, A = some ⟨b, off, none⟩ ∧ b < w.heap.size ∧ ∀ i, i < len → w.cell? ⟨b, off + i * 2, none⟩ = some (.int .i64 (f i).1) ∧ w.cell? ⟨b, off + i * 2 + 1, none⟩ = some (.int .i64 (f i).2)

/-- How the loop leaves an account. -/
def Since (q0 q1 : Int) (w wr : World) (g : Nat) : Prop := ∃ a s p, IsS41 w wr g q0 q1 a s p ∧ Fit q0 q1 a s p ∧ Below w.heap.size w wr

set_option maxRecDepth 100000 in
set_option maxHeartbeats 1000000 in
theorem room_law (q0 q1 : Int) (A : Option Addr) (len cap : Nat) (f : Nat → Int × Int) (w : World) (hlen : len ≤ 9223372036854775807) (hP : Pairs w A len f) :
    Calls Try.prog 3 #[.agg #[.int .i64 q0, .int .i64 q1], .slice A len cap] w fun e w' => e = .returned (.bool true) ∧ Below w.heap.size w w' := by
  have HP := Aside0.mk hP
  clear hP
  by_cases h60 : 60 < len
  · go_enter Try.func3, Try.ntmps3
    go_wp2_with fail
    refine (awake_any _).mono ?_
    rintro e w1 ⟨rfl, hb⟩
    have HB : Hid (Below w.heap.size w w1) := (below_alloc (Below.refl _ _) _).trans (hb.mono (by simp))
    clear hb
    go_wp2
    go_ret
    exact ⟨rfl, HB.out⟩
  · by_cases hR : Right q0 q1
    · go_enter Try.func3, Try.ntmps3
      go_wp2_with fail
      refine (awake_any _).mono ?_
      rintro e w1 ⟨rfl, hb⟩
      have hc0 := hb.cell (p := ⟨w.heap.size, 0, none⟩) (by simp)
      have hc1 := hb.cell (p := ⟨w.heap.size, 1, none⟩) (by simp)
      have HB : Hid (Below w.heap.size w w1) := (below_alloc (Below.refl _ _) _).trans (hb.mono (by simp))
      clear hb
      go_wp2_with fail
      refine (new_yes q0 q1 (decide_eq_true hR) _).mono ?_
      rintro e w2 ⟨g, rfl, hI, hb⟩
      have HS : Hid (Since q0 q1 w w2 g) := ⟨0, 0, 0, ⟨hI.1, Nat.le_trans HB.out.size hI.2⟩, ⟨hR, by unfold Right at hR; omega⟩, HB.out.trans (hb.mono HB.out.size)⟩
      clear hI hb
      go_wp2_with fail
      go_loopw [7] (fun i wr => ∃ k : Nat, k ≤ len ∧ i = .int .i64 k ∧ Hid (Since q0 q1 w wr g)) (fun i _ => len - (intOf i).toNat)
      case atStart => exact ⟨0, Nat.zero_le _, rfl, HS⟩
      case round =>
        obtain ⟨k, hk, rfl, HS1⟩ := hrel
        clear HS
        by_cases hlt : k < len
        · obtain ⟨b, off, rfl, hbl, hcells⟩ := HP.out (by omega)
          have hq := hcells k hlt
          clear hcells
          obtain ⟨a, s, p, hI, hF, hB⟩ := HS1.out
          have HF := Aside0.mk hF
          have x0 := (hB.cell (p := ⟨b, off + k * 2, none⟩) hbl).trans hq.1
          have x1 := (hB.cell (p := ⟨b, off + k * 2 + 1, none⟩) hbl).trans hq.2
          obtain ⟨u, v, huv⟩ : ∃ u v, f k = (u, v) := ⟨_, _, rfl⟩
          rw [huv] at x0 x1
          dsimp only at x0 x1
          clear hq huv hF
          by_cases hu : u = 0
          · have hu0 : (u == 0) = true := beq_iff_eq.mpr hu
            clear hu
            go_wp2_with fail
            refine (done_any g q0 q1 a s p v w wr hI hB HF.out).mono ?_
            rintro e w3 ⟨rfl, hI3, hB3, _⟩
            have HS3 : Hid (Since q0 q1 w w3 g) := ⟨_, _, _, hI3, fit_done HF.out, hB3⟩
            clear hI hB hI3 hB3 x0 x1
            go_wp2
            go_roundw
            case rel => exact ⟨k + 1, by omega, by go_num, HS3⟩
            case measure => simp [intOf]; omega
          · have hu0 : (u == 0) = false := beq_eq_false_iff_ne.mpr hu
            clear hu
            go_wp2_with fail
            refine (add_any g q0 q1 a s p v w wr hI hB HF.out).mono ?_
            rintro e w3 ⟨rfl, hI3, hB3, _⟩
            have HS3 : Hid (Since q0 q1 w w3 g) := ⟨_, _, _, hI3, fit_add HF.out, hB3⟩
            clear hI hB hI3 hB3 x0 x1
            go_wp2
            go_roundw
            case rel => exact ⟨k + 1, by omega, by go_num, HS3⟩
            case measure => simp [intOf]; omega
        · obtain ⟨a, s, p, hI, hF, hB⟩ := HS1.out
          clear HS1
          have HF := Aside0.mk hF
          obtain ⟨⟨r0, r1, r2, r3⟩, f0, f1, f2, f3, f4, f5⟩ := hF
          have HR := Aside0.mk hR
          clear hR
          obtain ⟨m, hm⟩ : ∃ m, mn (q1 - s) (q0 - a) = m := ⟨_, rfl⟩
          have hm0 : 0 ≤ m ∧ m ≤ q1 - s ∧ m ≤ q0 - a ∧ (m = q1 - s ∨ m = q0 - a) := by
            unfold mn at hm
            split at hm <;> omega
          obtain ⟨hm1, hm2, hm3, hm4⟩ := hm0
          have Hm := Aside0.mk hm
          have Hm4 := Aside0.mk hm4
          clear hm hm4
          have hc : ∃ c, (c != 0) = true ∧ addF q0 q1 a s p (m + 1) = (c, a, s, p) := by
            have h4 := Hm4.out
            unfold addF
            rw [if_neg (by omega)]
            by_cases h5 : q1 - s < m + 1
            · exact ⟨13, by decide, by rw [if_pos h5]⟩
            · exact ⟨9, by decide, by rw [if_neg h5, if_pos (by omega)]⟩
          obtain ⟨c, hc0, hc1⟩ := hc
          have Hc1 := Aside0.mk hc1
          clear hc1
          have hd : ∃ p2, addF q0 q1 a s p m = (0, a + m, s + m, p2) ∧ Fit q0 q1 (a + m) (s + m) p2 := by
            have hf := fit_add (n := m) HF.out
            have he : addF q0 q1 a s p m = (0, a + m, s + m, if p < a + m then a + m else p) := by
              unfold addF
              rw [if_neg (by omega), if_neg (by omega), if_neg (by omega)]
            rw [he] at hf
            exact ⟨_, he, hf⟩
          obtain ⟨p2, hd1, hd2⟩ := hd
          have Hd1 := Aside0.mk hd1
          have Hd2 := Aside0.mk hd2
          clear hd1 hd2
          have hz : mn (q1 - (s + m)) (q0 - (a + m)) = 0 := by
            have h4 := Hm4.out
            unfold mn
            split <;> omega
          have Hz := Aside0.mk hz
          clear hz
          have hf : ∃ a3 s3 p3, addF q0 q1 (a + m) (s + m) p2 0 = (0, a3, s3, p3) := by
            unfold addF
            rw [if_neg (by omega), if_neg (by omega), if_neg (by omega)]
            exact ⟨_, _, _, rfl⟩
          obtain ⟨a3, s3, p3, hf1⟩ := hf
          have Hf1 := Aside0.mk hf1
          clear hf1
          go_wp2_with fail
          refine (room_at q0 q1 a s p m HF.out Hm.out g w wr hI hB).mono ?_
          rintro e w3 ⟨rfl, hI3, hB3, _⟩
          clear hI hB
          go_wp2_with fail
          refine (add_at q0 q1 a s p (m + 1) HF.out Hc1.out g w w3 hI3 hB3).mono ?_
          rintro e w4 ⟨rfl, hI4, hB4, _⟩
          clear hI3 hB3
          go_wp2_with fail
          refine (add_at q0 q1 a s p m HF.out Hd1.out g w w4 hI4 hB4).mono ?_
          rintro e w5 ⟨rfl, hI5, hB5, _⟩
          clear hI4 hB4
          go_wp2_with fail
          refine (room_at q0 q1 (a + m) (s + m) p2 0 Hd2.out Hz.out g w w5 hI5 hB5).mono ?_
          rintro e w6 ⟨rfl, hI6, hB6, _⟩
          clear hI5 hB5
          go_wp2_with fail
          refine (add_at q0 q1 (a + m) (s + m) p2 0 Hd2.out Hf1.out g w w6 hI6 hB6).mono ?_
          rintro e w7 ⟨rfl, hI7, hB7, _⟩
          clear hI6 hB6
          go_wp2
          go_ret
          exact ⟨rfl, hB7⟩
    · have hR' : decide (Right q0 q1) = false := decide_eq_false hR
      go_enter Try.func3, Try.ntmps3
      go_wp2_with fail
      refine (awake_any _).mono ?_
      rintro e w1 ⟨rfl, hb⟩
      have hc0 := hb.cell (p := ⟨w.heap.size, 0, none⟩) (by simp)
      have hc1 := hb.cell (p := ⟨w.heap.size, 1, none⟩) (by simp)
      have HB : Hid (Below w.heap.size w w1) := (below_alloc (Below.refl _ _) _).trans (hb.mono (by simp))
      have hsz := hb.size
      clear hb
      go_wp2_with fail
      refine (new_no q0 q1 hR' _).mono ?_
      rintro e w2 ⟨rfl, hb⟩
      have hd0 := hb.cell (p := ⟨w.heap.size, 0, none⟩) (by simp at hsz ⊢; omega)
      have hd1 := hb.cell (p := ⟨w.heap.size, 1, none⟩) (by simp at hsz ⊢; omega)
      have HB2 : Hid (Below w.heap.size w w2) := HB.out.trans (hb.mono HB.out.size)
      clear hb
      go_wp2_with fail
      refine (right_any q0 q1 _).mono ?_
      rintro e w3 ⟨rfl, hb⟩
      have HB3 : Hid (Below w.heap.size w w3) := HB2.out.trans (hb.mono HB2.out.size)
      clear hb
      rw [hR']
      clear hR'
      go_wp2
      go_ret
      exact ⟨rfl, HB3.out⟩
end Go.Proofs.Ytlgkklpehheaoaa.Acc
