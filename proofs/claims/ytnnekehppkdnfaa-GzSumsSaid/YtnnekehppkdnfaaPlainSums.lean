/- The pure side of GzSums: the program's Adler sum of any bytes and the document's are the same number. No condition beyond the statement's own. -/
import Derived.Test.YtnnekehppkdnfaaSums
namespace Go.Proofs.Ytnnekehppkdnfaa.Pure
open Go.RowKit Go.Proofs.Ytnnekehppkdnfaa.PGzSums Go.Proofs.YtnnekehppkdnfaaW.PrintWords Go.Proofs.YtnnekehppkdnfaaW.PrintLast

theorem u8_bounds {n : Int} (h : (Lit.int .u8 n).wf = true) : 0 ≤ n ∧ n ≤ 255 := by
  simp [Lit.wf, IntKind.min, IntKind.max, IntKind.signed, IntKind.bits] at h
  omega

theorem rd_byte (xs : List Int) (hx : ∀ x ∈ xs, 0 ≤ x ∧ x ≤ 255) (i : Int) : 0 ≤ rd xs i ∧ rd xs i ≤ 255 := by
  unfold rd
  rw [List.getD_eq_getElem?_getD]
  by_cases h : i.toNat < xs.length
  · rw [List.getElem?_eq_getElem h]
    exact hx _ (List.getElem_mem h)
  · rw [List.getElem?_eq_none (by omega)]
    simp

theorem wrap_in {n : Int} (h0 : -9223372036854775808 ≤ n) (h1 : n ≤ 9223372036854775807) : wrap64 n = n := by
  unfold wrap64
  omega

theorem md (z : Int) : 0 ≤ z % 65521 ∧ z % 65521 < 65521 := ⟨Int.emod_nonneg _ (by decide), Int.emod_lt_of_pos _ (by decide)⟩
theorem stepA (a c : Int) (h0 : 0 ≤ a) (h1 : a < 65521) (h2 : 0 ≤ c) (h3 : c < 65521) : ((a + (c % 4294967296)) % 4294967296) % 65521 = (a + c) % 65521 := by
  rw [Int.emod_eq_of_lt (a := c) h2 (by omega), Int.emod_eq_of_lt (a := a + c) (by omega) (by omega)]
theorem stepB (b m : Int) (h0 : 0 ≤ b) (h1 : b < 65521) (h2 : 0 ≤ m) (h3 : m < 65521) : ((b + m) % 4294967296) % 65521 = (b + m) % 65521 := by
  rw [Int.emod_eq_of_lt (a := b + m) (by omega) (by omega)]
theorem stepC (a c : Int) (h0 : 0 ≤ a) (h1 : a < 65521) (h2 : 0 ≤ c) (h3 : c < 65521) : Int.tmod (wrap64 (a + wrap64 c)) 65521 = (a + c) % 65521 := by
  rw [wrap_in (n := c) (by omega) (by omega), wrap_in (by omega) (by omega), Int.tmod_eq_emod_of_nonneg (by omega)]
theorem stepD (b m : Int) (h0 : 0 ≤ b) (h1 : b < 65521) (h2 : 0 ≤ m) (h3 : m < 65521) : Int.tmod (wrap64 (b + m)) 65521 = (b + m) % 65521 := by
  rw [wrap_in (by omega) (by omega), Int.tmod_eq_emod_of_nonneg (by omega)]

theorem adlers (xs : List Int) (hx : ∀ x ∈ xs, 0 ≤ x ∧ x ≤ 255) (hn : xs.length ≤ 1000000) (d : Nat) :
    ∀ (k : Nat) (i a b : Int), 0 ≤ i → i ≤ xs.length → (xs.length : Int) - i = d → d < k → 0 ≤ a → a < 65521 → 0 ≤ b → b < 65521 →
      ∃ r, gz_Adler.l0 k a b xs (xs.length : Int) i = some r ∧ punnetref48_Adler.l0 k xs a b i = some r ∧ 0 ≤ r ∧ r < 4294967296 := by
  induction d with
  | zero =>
    intro k i a b h0 h1 hd hk ha ha' hb hb'
    obtain ⟨k, rfl⟩ : ∃ m, k = m + 1 := ⟨k - 1, by omega⟩
    refine ⟨b * 65536 + a, ?_, ?_, by omega, by omega⟩
    · simp only [gz_Adler.l0]
      rw [if_neg (by omega), Int.emod_eq_of_lt (a := b * 65536) (by omega) (by omega), Int.emod_eq_of_lt (by omega) (by omega)]
    · simp only [punnetref48_Adler.l0]
      rw [if_neg (by omega), wrap_in (n := b * 65536) (by omega) (by omega), wrap_in (by omega) (by omega)]
  | succ d ih =>
    intro k i a b h0 h1 hd hk ha ha' hb hb'
    obtain ⟨k, rfl⟩ : ∃ m, k = m + 1 := ⟨k - 1, by omega⟩
    have hlt : i < (xs.length : Int) := by omega
    have ew : wrap64 (i + 1) = i + 1 := wrap_in (by omega) (by omega)
    have hr := rd_byte xs hx i
    have hr1 : rd xs i < 65521 := by omega
    have ih1 := ih k (i + 1) ((a + rd xs i) % 65521) ((b + (a + rd xs i) % 65521) % 65521) (by omega) (by omega) (by omega) (by omega)
    obtain ⟨r, g1, g2, g3⟩ := ih1 (md _).1 (md _).2 (md _).1 (md _).2
    refine ⟨r, ?_, ?_, g3⟩
    · simp only [gz_Adler.l0]
      rw [if_pos hlt, if_pos h0, if_pos hlt, stepA a _ ha ha' hr.1 hr1, stepB b _ hb hb' (md _).1 (md _).2, ew]
      exact g1
    · simp only [punnetref48_Adler.l0]
      rw [if_pos hlt, if_pos h0, stepC a _ ha ha' hr.1 hr1, stepD b _ hb hb' (md _).1 (md _).2, ew]
      exact g2

theorem awake_true (k : Nat) (hk : 20 ≤ k) : punnetlaw48_awake.f k = some true :=
  at_rounds (g := fun k => punnetlaw48_awake.f k) (fun k => punnetlaw48_awake.mono k) hk (by decide +kernel)

theorem law_loop (xs : List Int) (hx : ∀ x ∈ xs, 0 ≤ x ∧ x ≤ 255) (hn : xs.length ≤ 300) (t : Int) (ht : 0 ≤ t) (d : Nat) :
    ∀ (k : Nat) (i : Int) (all : List Int), 0 ≤ i → i ≤ t % 64 + 1 → t % 64 + 1 - i = d → d + 30000 < k → (∀ x ∈ all, 0 ≤ x ∧ x ≤ 255) → (all.length : Int) ≤ i * 300 →
      punnetlaw48_GzSums.l0 k xs t all i = some true := by
  have em : wrap64 (Int.tmod t 64) = t % 64 := by
    rw [Int.tmod_eq_emod_of_nonneg ht, wrap_in (by omega) (by omega)]
  induction d with
  | zero =>
    intro k i all h0 h1 hd hk ha hl
    obtain ⟨k, rfl⟩ : ∃ m, k = m + 1 := ⟨k - 1, by omega⟩
    obtain ⟨r, g1, g2, g3, g4⟩ := adlers all ha (by omega) all.length k 0 1 0 (by omega) (by omega) (by omega) (by omega) (by omega) (by omega) (by omega) (by omega)
    simp only [punnetlaw48_GzSums.l0]
    rw [em, if_neg (by omega)]
    unfold gz_Adler.f punnetref48_Adler.f
    rw [g1, g2]
    simp only [Option.bind_some]
    rw [wrap_in (by omega) (by omega)]
    simp
  | succ d ih =>
    intro k i all h0 h1 hd hk ha hl
    obtain ⟨k, rfl⟩ : ∃ m, k = m + 1 := ⟨k - 1, by omega⟩
    simp only [punnetlaw48_GzSums.l0]
    rw [em, if_pos (by omega), if_pos (by omega), wrap_in (by omega) (by omega)]
    refine ih k (i + 1) (all ++ xs) (by omega) (by omega) (by omega) (by omega) ?_ ?_
    · intro x h
      rcases List.mem_append.1 h with h | h
      · exact ha x h
      · exact hx x h
    · rw [List.length_append]
      omega

theorem GzSums : punnetlaw48_GzSums.Pure := by
  intro xs t _ _ hx ht
  have t0 := (u8_bounds ht).1
  refine ⟨40000, ?_⟩
  unfold punnetlaw48_GzSums.f
  rw [awake_true _ (by omega)]
  simp only [Option.bind_some, if_true]
  by_cases h : (xs.length : Int) > 300
  · rw [if_pos h]
  · rw [if_neg h]
    exact law_loop xs (fun x h => u8_bounds (hx x h)) (by omega) t t0 (t % 64 + 1).toNat _ 0 [] (by omega) (by omega) (by omega) (by omega) (by simp) (by simp)

end Go.Proofs.Ytnnekehppkdnfaa.Pure
