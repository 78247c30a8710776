/- The plain side of ChainLocates and ChainCuts: what the reference's functions tell is what the chain's do. Conditions: the spans are Tried, the lists Small. -/
import Derived.Test.YtlgjicjofhmegaaChain3
namespace Go.Proofs.Ytlgjicjofhmegaa.Ch
open Go.RowKit Go.Proofs.Ytlgjicjofhmegaa.PChainLocates Go.Proofs.YtlgjicjofhmegaaW.PrintWords Go.Proofs.YtlgjicjofhmegaaW.PrintLast Go.Proofs.YtlgjicjofhmegaaW.PrintMore

/-- A span as the reference's. -/
def conv (x : S48) : S33 := ⟨x.f0, x.f1⟩

theorem rd48 (l : List S48) (i : Nat) : rd_T48 l (i : Int) = l.getD i z48 := by unfold rd_T48; rw [Int.toNat_natCast]
theorem rd33 (l : List S33) (i : Nat) : rd_T33 l (i : Int) = l.getD i z33 := by unfold rd_T33; rw [Int.toNat_natCast]
theorem getD_conv (l : List S48) (i : Nat) (h : i < l.length) : (l.map conv).getD i z33 = conv (l.getD i z48) := by
  rw [List.getD_eq_getElem?_getD, List.getD_eq_getElem?_getD, List.getElem?_map, List.getElem?_eq_getElem h]
  rfl
theorem rd_conv (l : List S48) (i : Nat) (h : i < l.length) : rd_T33 (l.map conv) (i : Int) = conv (l.getD i z48) := by rw [rd33, getD_conv l i h]

theorem few_loop (l : List S48) (hn : l.length ≤ 30) (d : Nat) : ∀ (k i : Nat), i ≤ l.length → l.length - i = d → d < k → (∀ j, j < i → 0 ≤ (l.getD j z48).f0 ∧ (l.getD j z48).f0 ≤ 1099511627776 ∧ (l.getD j z48).f1 ≤ 200) →
    ∃ b, punnetlaw22_Few.l0 k l i = some b ∧ (b = true → Tried l) := by
  induction d with
  | zero =>
    intro k i hi hd hk hj
    obtain ⟨k, rfl⟩ : ∃ m, k = m + 1 := ⟨k - 1, by omega⟩
    refine ⟨true, by simp only [punnetlaw22_Few.l0]; rw [if_neg (by omega)], fun _ => ⟨hn, fun x hx => ?_⟩⟩
    obtain ⟨j, hjl, rfl⟩ := List.getElem_of_mem hx
    have := hj j (by omega)
    rw [List.getD_eq_getElem?_getD, List.getElem?_eq_getElem hjl] at this
    exact this
  | succ d ih =>
    intro k i hi hd hk hj
    obtain ⟨k, rfl⟩ : ∃ m, k = m + 1 := ⟨k - 1, by omega⟩
    simp only [punnetlaw22_Few.l0]
    rw [if_pos (by omega), if_pos (by omega), rd48]
    by_cases c1 : (l.getD i z48).f0 < 0
    · rw [if_pos c1]
      exact ⟨false, rfl, fun h => by cases h⟩
    · rw [if_neg c1]
      by_cases c2 : (l.getD i z48).f0 > 1099511627776
      · rw [if_pos c2]
        exact ⟨false, rfl, fun h => by cases h⟩
      · rw [if_neg c2]
        by_cases c3 : (l.getD i z48).f1 > 200
        · rw [if_pos c3]
          exact ⟨false, rfl, fun h => by cases h⟩
        · rw [if_neg c3, wrap_in (by omega) (by omega)]
          refine ih k (i + 1) (by omega) (by omega) (by omega) (fun j hji => ?_)
          rcases Nat.lt_or_ge j i with h | h
          · exact hj j h
          · have e : j = i := by omega
            subst e
            omega

theorem few_f (l : List S48) : ∃ b, punnetlaw22_Few.f 1000 l = some b ∧ (b = true → Tried l) := by
  unfold punnetlaw22_Few.f
  by_cases h : (l.length : Int) > 30
  · rw [if_pos h]
    exact ⟨false, rfl, fun h => by cases h⟩
  · rw [if_neg h]
    exact few_loop l (by omega) l.length 1000 0 (by omega) (by omega) (by omega) (fun j hj => by omega)

theorem refs_loop (l : List S48) (hn : l.length ≤ 30) (d : Nat) : ∀ (k i : Nat), i ≤ l.length → l.length - i = d → d < k → punnetlaw22_Refs.l0 k l ((l.take i).map conv) i = some (l.map conv) := by
  induction d with
  | zero =>
    intro k i hi hd hk
    obtain ⟨k, rfl⟩ : ∃ m, k = m + 1 := ⟨k - 1, by omega⟩
    simp only [punnetlaw22_Refs.l0]
    rw [if_neg (by omega), List.take_of_length_le (by omega)]
  | succ d ih =>
    intro k i hi hd hk
    obtain ⟨k, rfl⟩ : ∃ m, k = m + 1 := ⟨k - 1, by omega⟩
    simp only [punnetlaw22_Refs.l0]
    have hlt : i < l.length := by omega
    rw [if_pos (by omega), if_pos (by omega), if_pos (by rw [List.length_map, List.length_take]; omega), wrap_in (by omega) (by omega)]
    have e : (l.take i).map conv ++ [(⟨(rd_T48 l i).f0, (rd_T48 l i).f1⟩ : S33)] = (l.take (i + 1)).map conv := by
      rw [List.take_succ_eq_append_getElem hlt, List.map_append, rd48, List.getD_eq_getElem?_getD, List.getElem?_eq_getElem hlt]
      rfl
    rw [e]
    exact ih k (i + 1) (by omega) (by omega) (by omega)

theorem refs_f (l : List S48) (h : Tried l) : punnetlaw22_Refs.f 1000 l = some (l.map conv) := by
  have := h.1
  exact refs_loop l h.1 l.length 1000 0 (by omega) (by omega) (by omega)

theorem set_conv (xs : List S48) (i : Nat) (x : S48) : (xs.map conv).set i (conv x) = (xs.set i x).map conv := by rw [List.map_set]

theorem join_loop (l : List S48) (h : Tried l) (d : Nat) : ∀ (k i : Nat), i ≤ l.length → l.length - i = d → d < k → punnetref22_Join.l0 k (l.map conv) ((ofS (l.take i)).map conv) i = some ((ofS l).map conv) := by
  have hn := h.1
  induction d with
  | zero =>
    intro k i hi hd hk
    obtain ⟨k, rfl⟩ : ∃ m, k = m + 1 := ⟨k - 1, by omega⟩
    simp only [punnetref22_Join.l0]
    rw [if_neg (by rw [List.length_map]; omega), List.take_of_length_le (by omega)]
  | succ d ih =>
    intro k i hi hd hk
    obtain ⟨k, rfl⟩ : ∃ m, k = m + 1 := ⟨k - 1, by omega⟩
    have hlt : i < l.length := by omega
    have hg := h.good i (by omega)
    have hz := h.2 _ (getD_mem l i hlt)
    have ih' := ih k (i + 1) (by omega) (by omega) (by omega)
    rw [ofS_take l i hlt] at ih'
    generalize ofS (l.take i) = xs at hg ih' ⊢
    simp only [punnetref22_Join.l0]
    rw [if_pos (by rw [List.length_map]; omega), if_pos (by omega), rd_conv l i hlt, wrap_in (n := (i : Int) + 1) (by omega) (by omega), List.length_map]
    generalize l.getD i z48 = x at hz ih' ⊢
    have hxl := hg.1
    unfold app at ih'
    show (if x.f1 < 1 then _ else _) = _
    by_cases c1 : x.f1 < 1
    · rw [if_pos c1] at ih' ⊢
      exact ih'
    · rw [if_neg c1] at ih' ⊢
      by_cases c2 : 0 < xs.length
      · obtain ⟨j, hj⟩ : ∃ j, j + 1 = xs.length := ⟨xs.length - 1, by omega⟩
        have hzj := hg.2 _ (getD_mem xs j (by omega))
        have ew : wrap64 ((xs.length : Int) - 1) = (j : Int) := by rw [wrap_in (by omega) (by omega)]; omega
        have ej : xs.length - 1 = j := by omega
        rw [if_pos (by omega), ew, if_pos (by omega), if_pos (by omega), rd_conv xs j (by omega), Int.toNat_natCast]
        rw [ej] at ih'
        generalize hy : xs.getD j z48 = y at hzj ih' ⊢
        show (if wrap64 (y.f0 + y.f1) = x.f0 then punnetref22_Join.l0 k (l.map conv) ((xs.map conv).set j ⟨y.f0, wrap64 (y.f1 + x.f1)⟩) ((i : Int) + 1) else _) = _
        rw [wrap_in (n := y.f0 + y.f1) (by omega) (by omega), wrap_in (n := y.f1 + x.f1) (by omega) (by omega)]
        by_cases c3 : y.f0 + y.f1 = x.f0
        · rw [if_pos ⟨c2, c3⟩] at ih'
          rw [if_pos c3]
          have e : (⟨y.f0, y.f1 + x.f1⟩ : S33) = conv ⟨y.f0, y.f1 + x.f1⟩ := rfl
          rw [e, set_conv]
          exact ih'
        · rw [if_neg (fun hh => c3 hh.2)] at ih'
          rw [if_neg c3, if_pos (by omega)]
          rw [List.map_append] at ih'
          exact ih'
      · rw [if_neg (fun hh => c2 hh.1)] at ih'
        rw [if_neg (by omega), if_pos (by omega)]
        rw [List.map_append] at ih'
        exact ih'

theorem join_f (l : List S48) (h : Tried l) : punnetref22_Join.f 1000 (l.map conv) = some ((ofS l).map conv) := by
  have := h.1
  exact join_loop l h l.length 1000 0 (by omega) (by omega) (by omega)

theorem same_loop (xs : List S48) (hn : xs.length ≤ 900) (d : Nat) : ∀ (k i : Nat), i ≤ xs.length → xs.length - i = d → d < k → punnetlaw21_Same.l0 k xs (xs.map conv) i = some true := by
  induction d with
  | zero =>
    intro k i hi hd hk
    obtain ⟨k, rfl⟩ : ∃ m, k = m + 1 := ⟨k - 1, by omega⟩
    simp only [punnetlaw21_Same.l0]
    rw [if_neg (by omega)]
  | succ d ih =>
    intro k i hi hd hk
    obtain ⟨k, rfl⟩ : ∃ m, k = m + 1 := ⟨k - 1, by omega⟩
    simp only [punnetlaw21_Same.l0]
    rw [if_pos (by omega), if_pos (by omega), if_pos (by rw [List.length_map]; omega), rd_conv xs i (by omega), rd48, if_pos (show (xs.getD i z48).f0 = (conv (xs.getD i z48)).f0 from rfl), if_pos (show (xs.getD i z48).f1 = (conv (xs.getD i z48)).f1 from rfl), wrap_in (by omega) (by omega)]
    exact ih k (i + 1) (by omega) (by omega) (by omega)
theorem same_f (xs : List S48) (hn : xs.length ≤ 900) : punnetlaw21_Same.f 1000 xs (xs.map conv) = some true := by
  unfold punnetlaw21_Same.f
  rw [if_pos (by rw [List.length_map])]
  exact same_loop xs hn xs.length 1000 0 (by omega) (by omega) (by omega)

/-- Each byte's place. -/
def seg (x : S48) : List Int := (List.range x.f1.toNat).map fun (j : Nat) => x.f0 + (j : Int)
def plc (xs : List S48) : List Int := xs.flatMap seg
theorem seg_len (x : S48) : (seg x).length = x.f1.toNat := by unfold seg; rw [List.length_map, List.length_range]
theorem plc_cons (x : S48) (xs : List S48) : plc (x :: xs) = seg x ++ plc xs := by unfold plc; rw [List.flatMap_cons]
theorem plc_append (xs ys : List S48) : plc (xs ++ ys) = plc xs ++ plc ys := by unfold plc; rw [List.flatMap_append]
theorem plc_take (xs : List S48) (i : Nat) (h : i < xs.length) : plc (xs.take (i + 1)) = plc (xs.take i) ++ seg (xs.getD i z48) := by
  rw [List.take_succ_eq_append_getElem h, plc_append, List.getD_eq_getElem?_getD, List.getElem?_eq_getElem h]
  simp [plc]
theorem plc_len (xs : List S48) (h : ∀ x ∈ xs, 0 ≤ x.f1) : ((plc xs).length : Int) = lenS xs := by
  induction xs with
  | nil => rfl
  | cons x xs ih =>
    have h1 := h x List.mem_cons_self
    rw [plc_cons, List.length_append, seg_len]
    simp only [lenS]
    have := ih (fun y hy => h y (List.mem_cons_of_mem _ hy))
    omega
theorem Small.plc_len {xs : List S48} (h : Small xs) : ((plc xs).length : Int) = lenS xs := Ch.plc_len xs (fun x hx => by have := h.2 x hx; omega)
theorem lenS_drop (xs : List S48) (i : Nat) (h : i < xs.length) : lenS (xs.drop i) = (xs.getD i z48).f1 + lenS (xs.drop (i + 1)) := by
  rw [drop_at xs i h]
  rfl
theorem lenS_split (xs : List S48) (i : Nat) : lenS (xs.take i) + lenS (xs.drop i) = lenS xs := by rw [← lenS_append, List.take_append_drop]
theorem seg_succ (x : S48) (j : Nat) : (List.range (j + 1)).map (fun (t : Nat) => x.f0 + (t : Int)) = (List.range j).map (fun (t : Nat) => x.f0 + (t : Int)) ++ [x.f0 + (j : Int)] := by
  rw [List.range_succ, List.map_append]
  rfl
theorem Small.drop {xs : List S48} (h : Small xs) (i : Nat) : Small (xs.drop i) := ⟨by rw [List.length_drop]; have := h.1; omega, fun x hx => h.2 x (List.mem_of_mem_drop hx)⟩

theorem places_loop (xs : List S48) (h : Small xs) (d : Nat) : ∀ (k i : Nat), i ≤ xs.length → xs.length - i = d → lenS (xs.drop i) + 2 * d < k → punnetref22_Places.l0 k (xs.map conv) (plc (xs.take i)) i = some (plc xs) := by
  induction d with
  | zero =>
    intro k i hi hd hk
    have hl := (h.drop i).len
    obtain ⟨k, rfl⟩ : ∃ m, k = m + 1 := ⟨k - 1, by omega⟩
    simp only [punnetref22_Places.l0]
    rw [if_neg (by rw [List.length_map]; omega), List.take_of_length_le (by omega)]
  | succ d ih =>
    intro k i hi hd hk
    have hn := h.1
    have hlt : i < xs.length := by omega
    have hz := h.2 _ (getD_mem xs i hlt)
    have hld := lenS_drop xs i hlt
    have hl2 := (h.drop (i + 1)).len
    have hl3 := (h.take i).plc_len
    have hl4 := (h.take i).len
    have hpt := plc_take xs i hlt
    have key : ∀ (e : Nat) (k j : Nat), (xs.getD i z48).f1 - j = e → lenS (xs.drop (i + 1)) + 2 * d + e + 1 < k →
        punnetref22_Places.l1 k (xs.map conv) (plc (xs.take i) ++ (List.range j).map (fun (t : Nat) => (xs.getD i z48).f0 + (t : Int))) i j = some (plc xs) := by
      intro e
      induction e with
      | zero =>
        intro k j he hk
        obtain ⟨k, rfl⟩ : ∃ m, k = m + 1 := ⟨k - 1, by omega⟩
        simp only [punnetref22_Places.l1]
        rw [if_pos (by omega), if_pos (by rw [List.length_map]; omega), rd_conv xs i hlt]
        show (if (j : Int) < (xs.getD i z48).f1 then _ else _) = _
        have ej : j = (xs.getD i z48).f1.toNat := by omega
        rw [if_neg (by omega), wrap_in (by omega) (by omega), ej]
        have := ih k (i + 1) (by omega) (by omega) (by omega)
        rw [hpt] at this
        exact this
      | succ e ihe =>
        intro k j he hk
        obtain ⟨k, rfl⟩ : ∃ m, k = m + 1 := ⟨k - 1, by omega⟩
        simp only [punnetref22_Places.l1]
        rw [if_pos (by omega), if_pos (by rw [List.length_map]; omega), rd_conv xs i hlt]
        show (if (j : Int) < (xs.getD i z48).f1 then (if _ then punnetref22_Places.l1 k (xs.map conv) (plc (xs.take i) ++ (List.range j).map (fun (t : Nat) => (xs.getD i z48).f0 + (t : Int)) ++ [wrap64 ((xs.getD i z48).f0 + (j : Int))]) i (wrap64 ((j : Int) + 1)) else none) else _) = _
        rw [if_pos (by omega), if_pos (by rw [List.length_append, List.length_map, List.length_range]; omega), wrap_in (n := (xs.getD i z48).f0 + (j : Int)) (by omega) (by omega), wrap_in (n := (j : Int) + 1) (by omega) (by omega), List.append_assoc, ← seg_succ]
        exact ihe k (j + 1) (by omega) (by omega)
    obtain ⟨k, rfl⟩ : ∃ m, k = m + 1 := ⟨k - 1, by omega⟩
    simp only [punnetref22_Places.l0]
    rw [if_pos (by rw [List.length_map]; omega)]
    have := key (xs.getD i z48).f1.toNat k 0 (by omega) (by omega)
    simpa using this

theorem places_f (xs : List S48) (h : Small xs) : punnetref22_Places.f 2000000000 (xs.map conv) = some (plc xs) := by
  have h1 := h.1
  have h2 := h.len
  exact places_loop xs h xs.length 2000000000 0 (by omega) (by omega) (by simp only [List.drop_zero]; omega)

/-- What Locate has still to take, at a place. -/
def restN (a n at' : Int) : Int := if a + n - at' ≤ 0 then 0 else if at' ≤ a then n else a + n - at'

theorem locS_zero (xs : List S48) (f : Int) : locS xs f 0 = [] := by
  cases xs with
  | nil => rfl
  | cons x xs => simp [locS]

theorem loc_loop (xs : List S48) (h : Small xs) (a n : Int) (ha : 0 ≤ a) (ha' : a ≤ 1000000000) (hn0 : 0 ≤ n) (hn' : n ≤ 1000000000) (d : Nat) :
    ∀ (k i : Nat) (acc : List S33) (at' : Int), i ≤ xs.length → xs.length - i = d → d < k → at' = lenS (xs.take i) → acc.length ≤ i →
      punnetref22_Locate.l0 k (xs.map conv) a n acc at' i = some (acc ++ (locS (xs.drop i) (mx (a - at') 0) (restN a n at')).map conv) := by
  have hn := h.1
  induction d with
  | zero =>
    intro k i acc at' hi hd hk hat hac
    obtain ⟨k, rfl⟩ : ∃ m, k = m + 1 := ⟨k - 1, by omega⟩
    simp only [punnetref22_Locate.l0]
    rw [if_neg (by rw [List.length_map]; omega), List.drop_eq_nil_of_le (by omega)]
    simp [locS]
  | succ d ih =>
    intro k i acc at' hi hd hk hat hac
    have hlt : i < xs.length := by omega
    have hz := h.2 _ (getD_mem xs i hlt)
    have ht := (h.take i).len
    have ht1 := lenS_take xs i hlt
    have ih' := fun acc hac => ih (k - 1) (i + 1) acc (at' + (xs.getD i z48).f1) (by omega) (by omega) (by omega) (by omega) hac
    rw [drop_at xs i hlt]
    obtain ⟨k, rfl⟩ : ∃ m, k = m + 1 := ⟨k - 1, by omega⟩
    have ek : k + 1 - 1 = k := by omega
    rw [ek] at ih'
    simp only [punnetref22_Locate.l0]
    rw [if_pos (by rw [List.length_map]; omega), if_pos (by omega), rd_conv xs i hlt]
    generalize xs.getD i z48 = x at hz ih' ⊢
    show (if mx (wrap64 (a - at')) 0 < mn (wrap64 (wrap64 (a + n) - at')) x.f1 then (if _ then punnetref22_Locate.l0 k (xs.map conv) a n (acc ++ [(⟨wrap64 (x.f0 + mx (wrap64 (a - at')) 0), wrap64 (mn (wrap64 (wrap64 (a + n) - at')) x.f1 - mx (wrap64 (a - at')) 0)⟩ : S33)]) (wrap64 (at' + x.f1)) (wrap64 ((i : Int) + 1)) else none) else punnetref22_Locate.l0 k (xs.map conv) a n acc (wrap64 (at' + x.f1)) (wrap64 ((i : Int) + 1))) = _
    rw [wrap_in (n := a - at') (by omega) (by omega), wrap_in (n := a + n) (by omega) (by omega), wrap_in (n := a + n - at') (by omega) (by omega), wrap_in (n := at' + x.f1) (by omega) (by omega), wrap_in (n := (i : Int) + 1) (by omega) (by omega)]
    have hmx : mx (a - at') 0 = if a - at' < 0 then 0 else a - at' := rfl
    have hmx' : mx (a - (at' + x.f1)) 0 = if a - (at' + x.f1) < 0 then 0 else a - (at' + x.f1) := rfl
    have hmn : mn (a + n - at') x.f1 = if x.f1 < a + n - at' then x.f1 else a + n - at' := rfl
    have hr : restN a n at' = if a + n - at' ≤ 0 then 0 else if at' ≤ a then n else a + n - at' := rfl
    have hr' : restN a n (at' + x.f1) = if a + n - (at' + x.f1) ≤ 0 then 0 else if at' + x.f1 ≤ a then n else a + n - (at' + x.f1) := rfl
    have hq : ∀ f m : Int, mn (x.f1 - f) m = if m < x.f1 - f then m else x.f1 - f := fun f m => rfl
    rw [show ((i : Int) + 1) = ((i + 1 : Nat) : Int) from by omega]
    generalize mx (a - at') 0 = F at *
    generalize restN a n at' = M at *
    generalize mx (a - (at' + x.f1)) 0 = F2 at *
    generalize restN a n (at' + x.f1) = M2 at *
    generalize mn (a + n - at') x.f1 = B at *
    have hF : (a - at' < 0 ∧ F = 0) ∨ (0 ≤ a - at' ∧ F = a - at') := by split at hmx <;> omega
    have hF2 : (a - (at' + x.f1) < 0 ∧ F2 = 0) ∨ (0 ≤ a - (at' + x.f1) ∧ F2 = a - (at' + x.f1)) := by split at hmx' <;> omega
    have hB : (x.f1 < a + n - at' ∧ B = x.f1) ∨ (a + n - at' ≤ x.f1 ∧ B = a + n - at') := by split at hmn <;> omega
    have hM : (a + n - at' ≤ 0 ∧ M = 0) ∨ (0 < a + n - at' ∧ at' ≤ a ∧ M = n) ∨ (0 < a + n - at' ∧ a < at' ∧ M = a + n - at') := by
      split at hr
      · omega
      · split at hr <;> omega
    have hM2 : (a + n - (at' + x.f1) ≤ 0 ∧ M2 = 0) ∨ (0 < a + n - (at' + x.f1) ∧ at' + x.f1 ≤ a ∧ M2 = n) ∨ (0 < a + n - (at' + x.f1) ∧ a < at' + x.f1 ∧ M2 = a + n - (at' + x.f1)) := by
      split at hr'
      · omega
      · split at hr' <;> omega
    clear hmx hmx' hmn hr hr'
    by_cases c0 : M = 0
    · have e2 : M2 = 0 := by omega
      rw [if_neg (by omega), ih' acc (by omega), c0, e2, locS_zero, locS_zero]
    · by_cases c1 : x.f1 ≤ F
      · have e1 : F2 = F - x.f1 := by omega
        have e2 : M2 = M := by omega
        rw [if_neg (by omega), ih' acc (by omega), e1, e2]
        simp only [locS]
        rw [if_neg c0, if_pos c1]
      · have hp := hq F M
        obtain ⟨p, hpe⟩ : ∃ p, mn (x.f1 - F) M = p := ⟨_, rfl⟩
        rw [hpe] at hp
        have hp' : (M < x.f1 - F ∧ p = M) ∨ (x.f1 - F ≤ M ∧ p = x.f1 - F) := by split at hp <;> omega
        have e0 : B - F = p := by omega
        have e1 : F2 = 0 := by omega
        have e2 : M2 = M - p := by omega
        rw [if_pos (by omega), if_pos (by omega), e0, wrap_in (n := x.f0 + F) (by omega) (by omega), wrap_in (n := p) (by omega) (by omega), ih' _ (by rw [List.length_append, List.length_singleton]; omega), e1, e2]
        simp only [locS]
        rw [if_neg c0, if_neg c1, hpe, List.map_cons, List.append_assoc]
        rfl

theorem loc_f (xs : List S48) (h : Small xs) (a n : Int) (ha : 0 ≤ a) (hn0 : 0 ≤ n) (ha' : a ≤ 1000000000) (hn' : n ≤ 1000000000) :
    punnetref22_Locate.f 2000 (xs.map conv) a n = some ((locS xs a n).map conv) := by
  have h1 := h.1
  have := loc_loop xs h a n ha ha' hn0 hn' xs.length 2000 0 [] 0 (by omega) (by omega) (by omega) rfl (by simp)
  unfold punnetref22_Locate.f
  have e1 : mx (a - 0) 0 = a := by unfold mx; split <;> omega
  have e2 : restN a n 0 = n := by unfold restN; split <;> (try split) <;> omega
  rw [e1, e2] at this
  simpa using this
end Go.Proofs.Ytlgjicjofhmegaa.Ch
