/- What the law ChainLocates asks of Locate: the bytes' places; the chain's end; lists of numbers alike. Conditions: as each theorem says. -/
import Derived.Test.YtlgjicjofhmegaaIter2
import Derived.BigQuiet
namespace Go.Proofs.Ytlgjicjofhmegaa.Ch
open Go.RowKit Go.Proofs.Ytlgjicjofhmegaa.PChainLocates Go.Proofs.YtlgjicjofhmegaaW.PrintWords Go.Proofs.YtlgjicjofhmegaaW.PrintLast Go.Proofs.YtlgjicjofhmegaaW.PrintMore
set_option linter.unusedVariables false
set_option linter.unusedSimpArgs false

theorem seg_get (x : S48) (i : Nat) (h : i < (seg x).length) : (seg x)[i] = x.f0 + (i : Int) := by simp [seg]
theorem seg_mid (x : S48) (a m : Int) (ha : 0 ≤ a) (hm : 0 ≤ m) (h : a + m ≤ x.f1) : seg ⟨x.f0 + a, m⟩ = ((seg x).drop a.toNat).take m.toNat := by
  apply List.ext_getElem
  · rw [seg_len, List.length_take, List.length_drop, seg_len]
    show m.toNat = _
    omega
  · intro i h1 h2
    rw [seg_len] at h1
    have h1' : i < m.toNat := h1
    rw [List.getElem_take, List.getElem_drop]
    rw [seg_get, seg_get]
    show x.f0 + a + (i : Int) = x.f0 + ((a.toNat + i : Nat) : Int)
    omega
theorem plc_loc : ∀ (xs : List S48) (a n : Int), (∀ x ∈ xs, 0 ≤ x.f1) → 0 ≤ a → 0 ≤ n → plc (locS xs a n) = ((plc xs).drop a.toNat).take n.toNat
  | [], a, n, _, _, _ => by simp [locS, plc]
  | x :: xs, a, n, hx, ha, hn => by
    have hx1 := hx x List.mem_cons_self
    have hxs : ∀ y ∈ xs, 0 ≤ y.f1 := fun y hy => hx y (List.mem_cons_of_mem _ hy)
    unfold locS
    rw [plc_cons x xs]
    by_cases h0 : n = 0
    · rw [if_pos h0, h0]
      simp [plc]
    · rw [if_neg h0]
      by_cases h1 : x.f1 ≤ a
      · rw [if_pos h1, plc_loc xs (a - x.f1) n hxs (by omega) hn, List.drop_append]
        rw [List.drop_of_length_le (show (seg x).length ≤ a.toNat by rw [seg_len]; omega), List.nil_append, seg_len, show (a - x.f1).toNat = a.toNat - x.f1.toNat by omega]
      · rw [if_neg h1, plc_cons]
        have hm : mn (x.f1 - a) n = if x.f1 - a ≤ n then x.f1 - a else n := by unfold mn; split <;> split <;> omega
        rw [List.drop_append, List.take_append, List.length_drop, seg_len, show a.toNat - x.f1.toNat = 0 by omega, List.drop_zero]
        by_cases h2 : x.f1 - a ≤ n
        · rw [if_pos h2] at hm
          rw [hm, seg_mid x a _ ha (by omega) (by omega), plc_loc xs 0 _ hxs (by omega) (by omega)]
          congr 1
          · rw [List.take_of_length_le (by rw [List.length_drop, seg_len]; omega), List.take_of_length_le (by rw [List.length_drop, seg_len]; omega)]
          · rw [show (0 : Int).toNat = 0 from rfl, List.drop_zero, show (n - (x.f1 - a)).toNat = n.toNat - (x.f1.toNat - a.toNat) by omega]
        · rw [if_neg h2] at hm
          rw [hm, seg_mid x a _ ha (by omega) (by omega), plc_loc xs 0 _ hxs (by omega) (by omega)]
          congr 1
          rw [show (n - n).toNat = 0 by omega, show n.toNat - (x.f1.toNat - a.toNat) = 0 by omega, List.take_zero, List.take_zero]

theorem loc_ok : ∀ (xs : List S48) (a n : Int), (∀ x ∈ xs, 0 ≤ x.f0 ∧ x.f0 + x.f1 ≤ 1099512627776 ∧ 1 ≤ x.f1 ∧ x.f1 ≤ 1000000) → 0 ≤ a → 0 ≤ n → ∀ x ∈ locS xs a n, 0 ≤ x.f0 ∧ x.f0 + x.f1 ≤ 1099512627776 ∧ 1 ≤ x.f1 ∧ x.f1 ≤ 1000000
  | [], a, n, _, _, _ => by simp [locS]
  | x :: xs, a, n, hx, ha, hn => by
    have hx1 := hx x List.mem_cons_self
    have hxs : ∀ y ∈ xs, 0 ≤ y.f0 ∧ y.f0 + y.f1 ≤ 1099512627776 ∧ 1 ≤ y.f1 ∧ y.f1 ≤ 1000000 := fun y hy => hx y (List.mem_cons_of_mem _ hy)
    unfold locS
    by_cases h0 : n = 0
    · rw [if_pos h0]
      simp
    · rw [if_neg h0]
      by_cases h1 : x.f1 ≤ a
      · rw [if_pos h1]
        exact loc_ok xs (a - x.f1) n hxs (by omega) hn
      · rw [if_neg h1]
        have hm : mn (x.f1 - a) n ≤ n ∧ mn (x.f1 - a) n ≤ x.f1 - a ∧ 1 ≤ mn (x.f1 - a) n := by unfold mn; split <;> omega
        intro y hy
        rcases List.mem_cons.1 hy with rfl | hy
        · show 0 ≤ x.f0 + a ∧ x.f0 + a + mn (x.f1 - a) n ≤ 1099512627776 ∧ 1 ≤ mn (x.f1 - a) n ∧ mn (x.f1 - a) n ≤ 1000000
          omega
        · exact loc_ok xs 0 _ hxs (by omega) (by omega) y hy
theorem Small.loc {xs : List S48} (h : Small xs) {a n : Int} (ha : 0 ≤ a) (hn : 0 ≤ n) : Small (locS xs a n) := ⟨by have := locS_len xs a n; have := h.1; omega, loc_ok xs a n h.2 ha hn⟩
theorem ints_loop (xs : List Int) (hl : xs.length ≤ 1000000000) (d : Nat) : ∀ (k i : Nat), i ≤ xs.length → xs.length - i = d → d < k → punnetref02_Ints.l0 k xs xs i = some true := by
  induction d with
  | zero =>
    intro k i hi hd hk
    obtain ⟨k, rfl⟩ : ∃ j, k = j + 1 := ⟨k - 1, by omega⟩
    show (if (i : Int) < (xs.length : Int) then _ else _) = _
    rw [if_neg (by omega)]
  | succ d ih =>
    intro k i hi hd hk
    obtain ⟨k, rfl⟩ : ∃ j, k = j + 1 := ⟨k - 1, by omega⟩
    show (if (i : Int) < (xs.length : Int) then (if 0 ≤ (i : Int) then (if (i : Int) < (xs.length : Int) then (if (rd xs i) = (rd xs i) then (punnetref02_Ints.l0 k xs xs (wrap64 ((i : Int) + 1))) else (some false)) else (none)) else (none)) else (some true)) = _
    rw [if_pos (by omega), if_pos (by omega), if_pos (by omega), if_pos rfl, wrap_in (by omega) (by omega), show (i : Int) + 1 = ((i + 1 : Nat) : Int) by omega]
    exact ih k (i + 1) (by omega) (by omega) (by omega)
theorem ints_f (xs : List Int) (hl : xs.length ≤ 1000000000) : punnetref02_Ints.f 2000000000 xs xs = some true := by
  unfold punnetref02_Ints.f
  rw [if_pos rfl]
  exact ints_loop xs hl xs.length 2000000000 0 (by omega) (by omega) (by omega)
theorem ints_calls {W : World} {v : Value} {xs : List Int} {A : Option Addr} {c : Nat} (h0 : LI W v xs) (h1 : Kd.C (Kd.int .i64) W A xs.length xs) (hc : xs.length ≤ c) (hl : xs.length ≤ 1000000000) :
    Calls Try.prog 16 #[v, .slice A xs.length c] W fun e w' => e = .returned (.bool true) ∧ Below W.heap.size W w' := by
  obtain ⟨b, h0⟩ := h0
  obtain ⟨B, d, rfl, hl0, hC0⟩ := Kd.R_reads h0
  exact (punnetref02_Ints.calls 2000000000 B d xs A c xs true W hC0 hl0 h1 hc (ints_f xs hl)).mono fun _ _ ⟨he, hd⟩ => ⟨he, hd.below⟩

/-- The chain's end. -/
def endS (xs : List S48) : Int := if xs.length = 0 then -1 else (xs.getD (xs.length - 1) z48).f0 + (xs.getD (xs.length - 1) z48).f1
theorem end_calls {w0 W : World} {g : Nat} {v : Value} {xs : List S48} (h : Chain w0 W g v xs) (hS : Small xs) :
    Calls Try.prog 15 #[.pointer (some ⟨g, 0, none⟩)] W fun e w' => e = .returned (.int .i64 (endS xs)) ∧ Below W.heap.size W w' := by
  unfold endS
  by_cases c0 : xs.length = 0
  · rw [if_pos c0]
    obtain ⟨A, cap, hv⟩ := Kd.R_slice h.row
    rw [c0] at hv
    subst hv
    exact end_nil g A cap W h.cell.1
  · rw [if_neg c0]
    obtain ⟨r, cap, hv⟩ := h.form (by omega)
    subst hv
    obtain ⟨i, hi⟩ : ∃ i, i + 1 = xs.length := ⟨xs.length - 1, by omega⟩
    obtain ⟨a0, a1, a2⟩ := row_at h.row i (by omega)
    have hz := hS.2 _ (getD_mem xs i (by omega))
    have hl := hS.1
    rw [show xs.length - 1 = i by omega]
    exact end_some g r i xs.length cap _ _ W h.cell.1 a0 a1 hi (by omega) (by omega) (by omega) (by omega) (by omega)
theorem end_calls2 {w0 W : World} {g : Nat} {v : Value} {xs : List S48} {es : Int} (h : Chain w0 W g v xs) (hS : Small xs) (he : endS xs = es) :
    Calls Try.prog 15 #[.pointer (some ⟨g, 0, none⟩)] W fun e w' => e = .returned (.int .i64 es) ∧ Below W.heap.size W w' := he ▸ end_calls h hS
theorem len_calls2 {w0 W : World} {g : Nat} {v : Value} {xs : List S48} {n : Int} (h : Chain w0 W g v xs) (hS : Small xs) (he : lenS xs = n) :
    Calls Try.prog 14 #[.pointer (some ⟨g, 0, none⟩)] W fun e w' => e = .returned (.int .i64 n) ∧ Below W.heap.size W w' := he ▸ len_any g v xs w0 W h hS
theorem ints_calls2 {W : World} {v u : Value} {xs : List Int} (h0 : LI W v xs) (h1 : LI W u xs) (hl : xs.length ≤ 1000000000) :
    Calls Try.prog 16 #[v, u] W fun e w' => e = .returned (.bool true) ∧ Below W.heap.size W w' := by
  obtain ⟨b, h1⟩ := h1
  obtain ⟨B, d, rfl, hl1, hC1⟩ := Kd.R_reads h1
  exact ints_calls h0 hC1 hl1 hl
/-- The last of the reference's spans, in memory. -/
theorem last33 {W : World} {v : Value} {xs : List S48} (h : L33 W v (xs.map conv)) (m : Nat) (hm : m + 1 = xs.length) : ∃ r c, v = .slice (some ⟨r, 0, none⟩) xs.length c ∧ W.cell? ⟨r, m * 2, none⟩ = some (.int .i64 (xs.getD m z48).f0) ∧ W.cell? ⟨r, m * 2 + 1, none⟩ = some (.int .i64 (xs.getD m z48).f1) := by
  obtain ⟨b, h⟩ := h
  obtain ⟨r, cap, he, _⟩ := Kd.R_form h (by rw [List.length_map]; omega)
  subst he
  obtain ⟨c, _, hM, hc, hf⟩ := Kd.R_elem h z33 (m : Int) (by omega) (by rw [List.length_map]; omega)
  rw [Int.toNat_natCast] at hM hc hf
  obtain rfl := k33_openM hM
  have e : (xs.map conv).getD m z33 = conv (xs.getD m z48) := by
    rw [List.getD_eq_getElem?_getD, List.getD_eq_getElem?_getD, List.getElem?_map, List.getElem?_eq_getElem (show m < xs.length by omega)]
    rfl
  rw [e] at hc
  rw [List.length_map]
  exact ⟨r, cap, rfl, hc 0 _ rfl, hc 1 _ rfl⟩
end Go.Proofs.Ytlgjicjofhmegaa.Ch
