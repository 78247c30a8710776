/- What the reference's functions tell of the numbers that came and were done: plain facts on lists and numbers. Conditions: at most 100 numbers, each from 0 to 2^24. -/
import Derived.Test.YtlgkklpehheaoaaAcc
namespace Go.Proofs.Ytlgkklpehheaoaa.Acc
open Go.RowKit Go.Proofs.Ytlgkklpehheaoaa.PQuotaPlays Go.Proofs.YtlgkklpehheaoaaW.PrintWords Go.Proofs.YtlgkklpehheaoaaW.PrintLast Go.Proofs.YtlgkklpehheaoaaW.PrintMore

/-- Numbers that have come, or were done. -/
def Few (l : List Int) : Prop := l.length ≤ 100 ∧ ∀ x ∈ l, 0 ≤ x ∧ x ≤ 16777216

theorem sum_bounds (l : List Int) (h : ∀ x ∈ l, 0 ≤ x ∧ x ≤ 16777216) : 0 ≤ l.sum ∧ l.sum ≤ l.length * 16777216 := by
  induction l with
  | nil => simp
  | cons x l ih =>
    have h1 := h x List.mem_cons_self
    have h2 := ih (fun y hy => h y (List.mem_cons_of_mem _ hy))
    rw [List.sum_cons, List.length_cons]
    omega

theorem take_sum_succ (l : List Int) (i : Nat) (h : i < l.length) : (l.take (i + 1)).sum = (l.take i).sum + l[i] := by
  rw [List.take_succ_eq_append_getElem h, List.sum_append]
  simp

theorem rd_nat (l : List Int) (i : Nat) (h : i < l.length) : rd l (i : Int) = l[i] := by
  unfold rd
  rw [Int.toNat_natCast, List.getD_eq_getElem?_getD, List.getElem?_eq_getElem h]
  rfl

theorem sum_loop (l : List Int) (h : Few l) (d : Nat) : ∀ (k i : Nat), i ≤ l.length → l.length - i = d → d < k → punnetref34_sum.l0 k l (l.take i).sum i = some l.sum := by
  induction d with
  | zero =>
    intro k i hi hd hk
    obtain ⟨k, rfl⟩ : ∃ m, k = m + 1 := ⟨k - 1, by omega⟩
    have e : i = l.length := by omega
    subst e
    simp only [punnetref34_sum.l0]
    rw [if_neg (by omega), List.take_length]
  | succ d ih =>
    intro k i hi hd hk
    obtain ⟨k, rfl⟩ : ∃ m, k = m + 1 := ⟨k - 1, by omega⟩
    have hlt : i < l.length := by omega
    have hb := sum_bounds (l.take (i + 1)) (fun x hx => h.2 x (List.mem_of_mem_take hx))
    have hn : (l.take (i + 1)).length ≤ 100 := by rw [List.length_take]; have := h.1; omega
    have hs := take_sum_succ l i hlt
    have h1 := h.1
    simp only [punnetref34_sum.l0]
    rw [if_pos (by omega), if_pos (by omega), rd_nat l i hlt, ← hs, wrap_in (n := (l.take (i + 1)).sum) (by omega) (by omega), wrap_in (n := (i : Int) + 1) (by omega) (by omega)]
    exact ih k (i + 1) (by omega) (by omega) (by omega)

theorem sum_f (l : List Int) (h : Few l) : punnetref34_sum.f 1000 l = some l.sum := by
  have h1 := h.1
  exact sum_loop l h l.length 1000 0 (by omega) (by omega) (by omega)

theorem few_sum {l : List Int} (h : Few l) : 0 ≤ l.sum ∧ l.sum ≤ 1677721600 := by
  have h1 := sum_bounds l h.2
  have h2 := h.1
  omega

theorem size_f (c d : List Int) (q0 q1 : Int) (hc : Few c) : punnetref34_Size.f 1000 c d q0 q1 = some c.sum := by
  unfold punnetref34_Size.f
  rw [sum_f c hc]
  rfl

theorem waiting_f (c d : List Int) (q0 q1 : Int) (hc : Few c) (hd : Few d) : punnetref34_Waiting.f 1000 c d q0 q1 = some (c.sum - d.sum) := by
  unfold punnetref34_Waiting.f
  rw [sum_f c hc, sum_f d hd]
  simp only [Option.bind_some]
  have h1 := few_sum hc
  have h2 := few_sum hd
  rw [wrap_in (by omega) (by omega)]

/-- What the account and the reference's account have in common. -/
def Alike (q0 q1 a s p : Int) (c d : List Int) (k : Nat) : Prop := Fit q0 q1 a s p ∧ a ≤ p ∧ c.sum = s ∧ c.sum - d.sum = a ∧ c.length ≤ k ∧ d.length ≤ k ∧ (∀ x ∈ c, 0 ≤ x ∧ x ≤ 16777216) ∧ (∀ x ∈ d, 0 ≤ x ∧ x ≤ 16777216)

theorem Alike.few {q0 q1 a s p : Int} {c d : List Int} {k : Nat} (h : Alike q0 q1 a s p c d k) (hk : k ≤ 100) : Few c ∧ Few d := by
  obtain ⟨_, _, _, _, h1, h2, h3, h4⟩ := h
  exact ⟨⟨by omega, h3⟩, ⟨by omega, h4⟩⟩

theorem alike_done {q0 q1 a s p n : Int} {c d : List Int} {k : Nat} (hk : k ≤ 99) (h : Alike q0 q1 a s p c d k) :
    ∃ d' p', punnetref34_Less.f 1000 c d q0 q1 n = some (c, d', q0, q1, (doneF a n).1) ∧ Alike q0 q1 (doneF a n).2 s p c d' (k + 1) ∧ p' = p ∧ ¬ p < (doneF a n).2 := by
  obtain ⟨fc, fd⟩ := h.few (by omega)
  obtain ⟨hF, hp, hs, ha, h1, h2, h3, h4⟩ := h
  have hF' := fit_done (n := n) hF
  have hw := waiting_f c d q0 q1 fc fd
  unfold punnetref34_Less.f
  rw [hw, ha]
  simp only [Option.bind_some, List.nil_append, List.length_nil, Nat.zero_add]
  obtain ⟨hr, f0, f1, f2, f3, f4, f5⟩ := hF
  unfold Right at hr
  unfold doneF at hF' ⊢
  by_cases c1 : n < 0
  · rw [if_pos c1] at hF' ⊢
    rw [if_pos c1]
    exact ⟨d, p, rfl, ⟨hF', hp, hs, ha, by omega, by omega, h3, h4⟩, rfl, by dsimp only; omega⟩
  · rw [if_neg c1] at hF' ⊢
    rw [if_neg c1]
    by_cases c2 : a < n
    · rw [if_pos c2] at hF' ⊢
      rw [if_pos c2]
      exact ⟨d, p, rfl, ⟨hF', hp, hs, ha, by omega, by omega, h3, h4⟩, rfl, by dsimp only; omega⟩
    · rw [if_neg c2] at hF' ⊢
      rw [if_neg c2, if_pos (by omega), if_pos (by omega)]
      refine ⟨d ++ [n], p, rfl, ⟨hF', by dsimp only; omega, hs, ?_, by omega, ?_, h3, ?_⟩, rfl, by dsimp only; omega⟩
      · rw [List.sum_append]
        simp
        omega
      · rw [List.length_append]
        simp
        omega
      · intro x hx
        rcases List.mem_append.1 hx with hx | hx
        · exact h4 x hx
        · have e := List.mem_singleton.1 hx
          subst e
          omega

theorem alike_add {q0 q1 a s p n : Int} {c d : List Int} {k : Nat} (hk : k ≤ 99) (h : Alike q0 q1 a s p c d k) :
    ∃ c', punnetref34_Add.f 1000 c d q0 q1 n = some (c', d, q0, q1, (addF q0 q1 a s p n).1) ∧
      Alike q0 q1 (addF q0 q1 a s p n).2.1 (addF q0 q1 a s p n).2.2.1 (addF q0 q1 a s p n).2.2.2 c' d (k + 1) ∧
      (if p < (addF q0 q1 a s p n).2.1 then (addF q0 q1 a s p n).2.1 else p) = (addF q0 q1 a s p n).2.2.2 := by
  obtain ⟨fc, fd⟩ := h.few (by omega)
  obtain ⟨hF, hp, hs, ha, h1, h2, h3, h4⟩ := h
  have hF' := fit_add (n := n) hF
  have hw := waiting_f c d q0 q1 fc fd
  have hz := size_f c d q0 q1 fc
  unfold punnetref34_Add.f
  rw [hw, hz, ha, hs]
  simp only [Option.bind_some, List.nil_append, List.length_nil, Nat.zero_add]
  obtain ⟨hr, f0, f1, f2, f3, f4, f5⟩ := hF
  unfold Right at hr
  rw [wrap_in (n := q1 - s) (by omega) (by omega), wrap_in (n := q0 - a) (by omega) (by omega)]
  unfold addF at hF' ⊢
  by_cases c1 : n < 0
  · rw [if_pos c1] at hF' ⊢
    rw [if_pos c1]
    exact ⟨c, rfl, ⟨hF', hp, hs, ha, by omega, by omega, h3, h4⟩, by dsimp only; rw [if_neg (by omega)]⟩
  · rw [if_neg c1] at hF' ⊢
    rw [if_neg c1]
    by_cases c2 : q1 - s < n
    · rw [if_pos c2] at hF' ⊢
      rw [if_pos c2]
      exact ⟨c, rfl, ⟨hF', hp, hs, ha, by omega, by omega, h3, h4⟩, by dsimp only; rw [if_neg (by omega)]⟩
    · rw [if_neg c2] at hF' ⊢
      rw [if_neg c2]
      by_cases c3 : q0 - a < n
      · rw [if_pos c3] at hF' ⊢
        rw [if_pos c3]
        exact ⟨c, rfl, ⟨hF', hp, hs, ha, by omega, by omega, h3, h4⟩, by dsimp only; rw [if_neg (by omega)]⟩
      · rw [if_neg c3] at hF' ⊢
        rw [if_neg c3, if_pos (by omega), if_pos (by omega)]
        refine ⟨c ++ [n], rfl, ⟨hF', by dsimp only; split <;> omega, ?_, ?_, ?_, by omega, ?_, h4⟩, rfl⟩
        · rw [List.sum_append]
          simp
          omega
        · rw [List.sum_append]
          simp
          omega
        · rw [List.length_append]
          simp
          omega
        · intro x hx
          rcases List.mem_append.1 hx with hx | hx
          · exact h3 x hx
          · have e := List.mem_singleton.1 hx
            subst e
            omega
end Go.Proofs.Ytlgkklpehheaoaa.Acc
