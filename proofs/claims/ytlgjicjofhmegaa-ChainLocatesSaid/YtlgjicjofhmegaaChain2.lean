/- What Append, Of, List, Len make of a chain of the call's own: its list as a plain list of spans. Conditions: at most 1000 spans, their places below 2^41, their lengths from 1 to 10^6. -/
import Derived.Test.YtlgjicjofhmegaaChain
import Derived.LoopTactic
namespace Go.Proofs.Ytlgjicjofhmegaa.Ch
open Go.RowKit Go.Proofs.Ytlgjicjofhmegaa.PChainLocates Go.Proofs.YtlgjicjofhmegaaW.PrintWords Go.Proofs.YtlgjicjofhmegaaW.PrintLast Go.Proofs.YtlgjicjofhmegaaW.PrintMore
attribute [local go_sem] max2_int min2_int max_two min_two
set_option linter.unusedVariables false
set_option linter.unusedSimpArgs false

/-- What Append makes of a list of spans. -/
def app (xs : List S48) (x : S48) : List S48 :=
  if x.f1 < 1 then xs
  else if 0 < xs.length ∧ (xs.getD (xs.length - 1) z48).f0 + (xs.getD (xs.length - 1) z48).f1 = x.f0 then
    xs.set (xs.length - 1) ⟨(xs.getD (xs.length - 1) z48).f0, (xs.getD (xs.length - 1) z48).f1 + x.f1⟩
  else xs ++ [x]
/-- Spans small enough. -/
def Good (m : Nat) (xs : List S48) : Prop := xs.length ≤ m ∧ ∀ x ∈ xs, 0 ≤ x.f0 ∧ x.f0 ≤ 1099511627776 ∧ 1 ≤ x.f1 ∧ x.f1 ≤ 200 * m

theorem getD_mem (xs : List S48) (i : Nat) (h : i < xs.length) : xs.getD i z48 ∈ xs := by
  rw [List.getD_eq_getElem?_getD, List.getElem?_eq_getElem h]
  exact List.getElem_mem h

theorem Good.app {m : Nat} {xs : List S48} {x : S48} (h : Good m xs) (h0 : 0 ≤ x.f0) (h1 : x.f0 ≤ 1099511627776) (h2 : x.f1 ≤ 200) : Good (m + 1) (app xs x) := by
  unfold Ch.app
  by_cases c1 : x.f1 < 1
  · rw [if_pos c1]
    exact ⟨by have := h.1; omega, fun y hy => by have := h.2 y hy; omega⟩
  · rw [if_neg c1]
    by_cases c2 : 0 < xs.length ∧ (xs.getD (xs.length - 1) z48).f0 + (xs.getD (xs.length - 1) z48).f1 = x.f0
    · rw [if_pos c2]
      refine ⟨by rw [List.length_set]; have := h.1; omega, fun y hy => ?_⟩
      rcases List.mem_or_eq_of_mem_set hy with hy | hy
      · have := h.2 y hy; omega
      · subst hy
        have := h.2 _ (getD_mem xs (xs.length - 1) (by omega))
        dsimp only
        omega
    · rw [if_neg c2]
      refine ⟨by rw [List.length_append, List.length_singleton]; have := h.1; omega, fun y hy => ?_⟩
      rcases List.mem_append.1 hy with hy | hy
      · have := h.2 y hy; omega
      · have e := List.mem_singleton.1 hy
        subst e
        omega

section
variable {w0 W W1 W' : World} {g : Nat} {v : Value} {xs ys : List S48}
theorem Pushed.chain (hP : Pushed w0 W W' g v ys) (h : Chain w0 W g v xs) : ∃ v', Chain w0 W' g v' ys ∧ Kept W W' (fun k => k = g ∨ v.ownBlock = some k) := by
  obtain ⟨v', W1, W2, hb, hg, hR, hB, rfl⟩ := hP
  have h1 := h.step hb
  have hgb : some g ≠ v.ownBlock := Kd.R_ne h.row h.blk (by decide)
  have h2 : W2.heap[g]? = some (.cells #[v] 51 (0, 0)) := blk_grown h1.blk hg hgb
  refine ⟨v', ⟨by simpa using blk_set h2 0 v', h.new, Kd.R_set hR h2 (by decide) 0 v', below_set hB h.new⟩, ?_⟩
  refine Kept.setCell (Kept.of_grown hg (Kept.of_below hb _) (fun k hk => .inl (.inr hk))) (p := ⟨g, 0, none⟩) (.inl (.inl rfl)) v'

theorem joined_chain {r cap m : Nat} {z : Int} (h : Chain w0 W g (.slice (some ⟨r, 0, none⟩) xs.length cap) xs) (hm : m + 1 = xs.length) (hb : Below W.heap.size W W1) (hW : W' = W1.setCell ⟨r, m * 2 + 1, none⟩ (.int .i64 z)) :
    Chain w0 W' g (.slice (some ⟨r, 0, none⟩) xs.length cap) (xs.set m ⟨(xs.getD m z48).f0, z⟩) ∧ Kept W W' (fun k => k = g ∨ (Value.slice (some ⟨r, 0, none⟩) xs.length cap).ownBlock = some k) := by
  subst hW
  have h1 := h.step hb
  have hgb : some g ≠ (Value.slice (some ⟨r, 0, none⟩) xs.length cap).ownBlock := Kd.R_ne h.row h.blk (by decide)
  have hgr : g ≠ r := fun e => hgb (by rw [e]; simp [Value.ownBlock])
  obtain ⟨c, hcl, hM, hcc, hf⟩ := Kd.R_elem h1.row z48 (m : Int) (by omega) (by omega)
  rw [Int.toNat_natCast] at hM hcc hf
  obtain rfl := k48_openM hM
  have hs := Kd.R_seg h1.row (m : Int) (by omega) (by omega) (seg := [.int .i64 z]) (j := 1) hcl (by rw [Int.toNat_natCast]; exact hcc) (show 2 ≤ 2 from by decide) (x' := ⟨(xs.getD m z48).f0, z⟩) (okp := fun k => True ∧ k ≠ r) (k48_mkM W1 _ _ ⟨(xs.getD m z48).f0, z⟩) (fun k hk => hk)
  rw [Int.toNat_natCast] at hs
  obtain ⟨hR, hg⟩ := hs
  have hbr : w0.heap.size ≤ r := Kd.R_base h1.row r (by simp [Value.ownBlock])
  exact ⟨⟨blk_far (p := ⟨r, m * 2 + 1, none⟩) h1.blk hgr _, h.new, hR, below_set h1.below hbr⟩, Kept.setCell (Kept.of_below hb _) (p := ⟨r, m * 2 + 1, none⟩) (.inl (.inr (by simp [Value.ownBlock]))) _⟩
end

theorem append_any (g : Nat) (v : Value) (xs : List S48) (x : S48) (w0 W : World) (h : Chain w0 W g v xs) (m : Nat) (hm : m ≤ 1000) (hG : Good m xs) (h2 : x.f1 ≤ 200) :
    Calls Try.prog 21 #[.pointer (some ⟨g, 0, none⟩), .agg #[.int .i64 x.f0, .int .i64 x.f1]] W fun e w' => e = .returned (.tuple #[]) ∧ ∃ v', Chain w0 w' g v' (app xs x) ∧ Kept W w' (fun k => k = g ∨ v.ownBlock = some k) := by
  by_cases c1 : x.f1 < 1
  · refine (append_skip (some ⟨g, 0, none⟩) x.f0 x.f1 W c1).mono fun e w' ⟨he, hb⟩ => ⟨he, v, ?_, Kept.of_below hb _⟩
    unfold app
    rw [if_pos c1]
    exact h.step hb
  · by_cases c0 : xs.length = 0
    · obtain ⟨A, cap, hv⟩ := Kd.R_slice h.row
      rw [c0] at hv
      rw [hv] at h ⊢
      refine (append_first g A cap x.f0 x.f1 xs w0 W h (by omega)).mono fun e w' ⟨he, hP⟩ => ⟨he, ?_⟩
      unfold app
      rw [if_neg c1, if_neg (by omega)]
      exact hP.chain h
    · obtain ⟨r, cap, hv⟩ := h.form (by omega)
      subst hv
      obtain ⟨i, hi⟩ : ∃ i, i + 1 = xs.length := ⟨xs.length - 1, by omega⟩
      obtain ⟨a0, a1, a2⟩ := row_at h.row i (by omega)
      have hz := hG.2 _ (getD_mem xs i (by omega))
      have hl := hG.1
      have ei : xs.length - 1 = i := by omega
      by_cases c2 : (xs.getD i z48).f0 + (xs.getD i z48).f1 = x.f0
      · refine (append_join g r i xs.length cap _ _ x.f0 x.f1 W h.cell.1 a0 a1 a2 hi (by omega) (by omega) (by omega) (by omega) (by omega) (by omega) (by omega) c2).mono fun e w' ⟨he, W1, hb, hW⟩ => ⟨he, .slice (some ⟨r, 0, none⟩) xs.length cap, ?_⟩
        unfold app
        rw [if_neg c1, ei, if_pos ⟨by omega, c2⟩]
        exact joined_chain h hi hb hW
      · refine (append_more g r i xs.length cap _ _ x.f0 x.f1 xs w0 W h a0 a1 hi (by omega) (by omega) (by omega) (by omega) (by omega) (by omega) c2).mono fun e w' ⟨he, hP⟩ => ⟨he, ?_⟩
        unfold app
        rw [if_neg c1, ei, if_neg (fun hh => c2 hh.2)]
        exact hP.chain h

/-- List: a copy of the spans. -/
theorem list_any (g : Nat) (v : Value) (xs : List S48) (w0 W : World) (h : Chain w0 W g v xs) (hl : xs.length ≤ 100000) :
    Calls Try.prog 13 #[.pointer (some ⟨g, 0, none⟩)] W fun e w' => ∃ u, e = .returned u ∧ Kd.R k48 48 w' W.heap.size (fun _ => True) u xs ∧ Below W.heap.size W w' := by
  obtain ⟨A, cap, hv, hlc, hC⟩ := Kd.R_reads h.row
  subst hv
  have hc := h.cell.1
  have HC := Aside0.mk hC
  clear hC h
  go_enter Try.func13, Try.ntmps13
  go_wp2_with (at_builtin; refine Kd.R_append_rows k48 (Rr := k48.K W) (w0 := W) W.heap.size rfl (.const (.slice none 0 0)) (.tmp 6) 22 48 (.agg #[.int .i64 0, .int .i64 0]) 16 rfl Try.underlying22 info48 rfl (by decide) (by decide) (.slice none 0 0) [] xs A xs.length cap (fun _ => True) (fun _ => False) (by rfl) (by rfl) (Kd.R_nil _ _ _ _ _) HC.out (fun x cs hx => by obtain rfl := k48_open hx; exact k48_mkM _ _ _ _) (fun _ hk => hk.elim) (fun _ _ => trivial) (Below.refl _ _) (Nat.le_refl _) (by simp only [List.length_nil]; omega) ?_; intro v1 w1 hR1 hB1 hg1 hat1)
  go_ret
  exact ⟨v1, rfl, hR1, hB1⟩

/-- Len's sum. -/
def lenS : List S48 → Int
  | [] => 0
  | x :: xs => x.f1 + lenS xs
theorem lenS_append (xs ys : List S48) : lenS (xs ++ ys) = lenS xs + lenS ys := by
  induction xs with
  | nil => simp [lenS]
  | cons x xs ih => simp only [List.cons_append, lenS, ih]; omega
theorem lenS_take (xs : List S48) (i : Nat) (h : i < xs.length) : lenS (xs.take (i + 1)) = lenS (xs.take i) + (xs.getD i z48).f1 := by
  rw [List.take_succ_eq_append_getElem h, lenS_append, List.getD_eq_getElem?_getD, List.getElem?_eq_getElem h]
  simp [lenS]
theorem lenS_bound (xs : List S48) (B : Int) (h : ∀ x ∈ xs, 1 ≤ x.f1 ∧ x.f1 ≤ B) : xs.length ≤ lenS xs ∧ lenS xs ≤ B * xs.length := by
  induction xs with
  | nil => simp [lenS]
  | cons x xs ih =>
    have h1 := h x List.mem_cons_self
    have h2 := ih (fun y hy => h y (List.mem_cons_of_mem _ hy))
    simp only [lenS, List.length_cons]
    rw [Int.natCast_add, Int.mul_add]
    omega
/-- A list's lengths are small. -/
def Small (xs : List S48) : Prop := xs.length ≤ 1000 ∧ ∀ x ∈ xs, 0 ≤ x.f0 ∧ x.f0 + x.f1 ≤ 1099512627776 ∧ 1 ≤ x.f1 ∧ x.f1 ≤ 1000000
theorem Small.len {xs : List S48} (h : Small xs) : 0 ≤ lenS xs ∧ lenS xs ≤ 1000000000 := by
  have h1 := lenS_bound xs 1000000 (fun x hx => ⟨(h.2 x hx).2.2.1, (h.2 x hx).2.2.2⟩)
  have h2 := h.1
  omega
theorem Small.take {xs : List S48} (h : Small xs) (i : Nat) : Small (xs.take i) := ⟨by rw [List.length_take]; have := h.1; omega, fun x hx => h.2 x (List.mem_of_mem_take hx)⟩

set_option maxRecDepth 100000 in
theorem len_any (g : Nat) (v : Value) (xs : List S48) (w0 W : World) (h : Chain w0 W g v xs) (hS : Small xs) :
    Calls Try.prog 14 #[.pointer (some ⟨g, 0, none⟩)] W fun e w' => e = .returned (.int .i64 (lenS xs)) ∧ Below W.heap.size W w' := by
  obtain ⟨A, cap, hv, hlc, hC⟩ := Kd.R_reads h.row
  subst hv
  have hc := h.cell.1
  have HC := Aside0.mk hC
  have HS := Aside0.mk hS
  have hl := hS.1
  clear hC h hS
  go_enter Try.func14, Try.ntmps14
  go_wp2_with fail
  go_loopw [3, 11] (fun t i wr => ∃ k : Nat, k ≤ xs.length ∧ i = .int .i64 k ∧ t = .int .i64 (lenS (xs.take k)) ∧ Hid (Below W.heap.size W wr)) (fun _ i _ => xs.length - (intOf i).toNat)
  case atStart => exact ⟨0, Nat.zero_le _, rfl, rfl, Below.refl _ _⟩
  case round =>
    obtain ⟨k, hk, rfl, rfl, HB⟩ := hrel
    by_cases hlt : k < xs.length
    · obtain ⟨ad, e1, c0, c1⟩ := at_T48 HC.out (k : Int) (by omega) (by omega)
      subst e1
      unfold rd_T48 at c0 c1
      rw [Int.toNat_natCast] at c0 c1
      replace c0 := (HB.out.cell (World.block_lt_of_cell? _ _ c0)).trans c0
      replace c1 := (HB.out.cell (World.block_lt_of_cell? _ _ c1)).trans c1
      have ht := (HS.out.take k).len
      have HT : Hid (lenS (xs.take (k + 1)) = lenS (xs.take k) + (xs.getD k z48).f1) := lenS_take xs k hlt
      have hz := HS.out.2 _ (getD_mem xs k hlt)
      obtain ⟨f1, hf1⟩ : ∃ f1, (xs.getD k z48).f1 = f1 := ⟨_, rfl⟩
      obtain ⟨f0, hf0⟩ : ∃ f0, (xs.getD k z48).f0 = f0 := ⟨_, rfl⟩
      rw [hf1] at c1 hz HT
      rw [hf0] at c0 hz
      clear hf1 hf0 hc
      go_wp2_with fail
      go_roundw
      case rel => exact ⟨k + 1, by omega, by go_num, by rw [HT.out], below_alloc HB.out _⟩
      case measure => simp [intOf]; omega
    · have hkx : k = xs.length := by omega
      have HK := Aside0.mk hkx
      clear hkx
      go_wp2
      go_ret
      exact ⟨congrArg (fun z => Ending.returned (.int .i64 z)) (by rw [HK.out, List.take_length]), HB.out⟩

/-- Clone: another chain, alike. -/
theorem clone_any (g : Nat) (v : Value) (xs : List S48) (w0 W : World) (h : Chain w0 W g v xs) (hl : xs.length ≤ 100000) :
    Calls Try.prog 19 #[.pointer (some ⟨g, 0, none⟩)] W fun e w' => ∃ g' u, e = .returned (.pointer (some ⟨g', 0, none⟩)) ∧ Chain W w' g' u xs := by
  go_enter Try.func19, Try.ntmps19
  go_wp2_with fail
  refine (list_any g v xs w0 _ h hl).mono ?_
  rintro e w1 ⟨u, rfl, hR, hB⟩
  obtain ⟨A, n, rfl⟩ := Kd.R_slice hR
  have HR := Aside0.mk hR
  have HB := Aside0.mk hB
  clear hR hB h
  go_wp2
  go_ret
  exact ⟨w1.heap.size, _, rfl, ⟨heap_alloc_new w1 _, HB.out.size, Kd.R_below HR.out (below_alloc (Below.refl _ _) _), below_alloc HB.out _⟩⟩

/-- Of's fold. -/
def ofS (l : List S48) : List S48 := l.foldl app []
theorem ofS_take (l : List S48) (k : Nat) (h : k < l.length) : ofS (l.take (k + 1)) = app (ofS (l.take k)) (l.getD k z48) := by
  unfold ofS
  rw [List.take_succ_eq_append_getElem h, List.foldl_append, List.getD_eq_getElem?_getD, List.getElem?_eq_getElem h]
  rfl
/-- Spans as the law lets them be. -/
def Tried (l : List S48) : Prop := l.length ≤ 30 ∧ ∀ x ∈ l, 0 ≤ x.f0 ∧ x.f0 ≤ 1099511627776 ∧ x.f1 ≤ 200
theorem Tried.good {l : List S48} (h : Tried l) (k : Nat) (hk : k ≤ l.length) : Good k (ofS (l.take k)) := by
  induction k with
  | zero => exact ⟨by simp [ofS], by simp [ofS]⟩
  | succ k ih =>
    rw [ofS_take l k (by omega)]
    have hz := h.2 _ (getD_mem l k (by omega))
    exact (ih (by omega)).app hz.1 hz.2.1 hz.2.2

set_option maxRecDepth 100000 in
theorem of_any (A : Option Addr) (cap : Nat) (l : List S48) (W : World) (hC : Kd.C k48 W A l.length l) (hT : Tried l) :
    Calls Try.prog 7 #[.slice A l.length cap] W fun e w' => ∃ g v, e = .returned (.pointer (some ⟨g, 0, none⟩)) ∧ Chain W w' g v (ofS l) := by
  have HC := Aside0.mk hC
  have HT := Aside0.mk hT
  have hl := hT.1
  clear hC hT
  go_enter Try.func7, Try.ntmps7
  go_wp2_with fail
  have HS : Hid (∃ v, Chain W (W.alloc (.cells #[.slice none 0 0] 51)) W.heap.size v (ofS (l.take 0))) := ⟨.slice none 0 0, heap_alloc_new W _, Nat.le_refl _, Kd.R_nil _ _ _ _ _, below_alloc (Below.refl _ _) _⟩
  go_loopw [10] (fun i wr => ∃ k : Nat, k ≤ l.length ∧ i = .int .i64 k ∧ Hid (∃ v, Chain W wr W.heap.size v (ofS (l.take k)))) (fun i _ => l.length - (intOf i).toNat)
  case atStart => exact ⟨0, Nat.zero_le _, rfl, HS⟩
  case round =>
    obtain ⟨k, hk, rfl, HS1⟩ := hrel
    clear HS
    by_cases hlt : k < l.length
    · obtain ⟨ad, e1, c0, c1⟩ := at_T48 HC.out (k : Int) (by omega) (by omega)
      subst e1
      unfold rd_T48 at c0 c1
      rw [Int.toNat_natCast] at c0 c1
      obtain ⟨v, hCh⟩ := HS1.out
      replace c0 := (hCh.below.cell (World.block_lt_of_cell? _ _ c0)).trans c0
      replace c1 := (hCh.below.cell (World.block_lt_of_cell? _ _ c1)).trans c1
      have hz := HT.out.2 _ (getD_mem l k hlt)
      have HO : Hid (ofS (l.take (k + 1)) = app (ofS (l.take k)) (l.getD k z48)) := ofS_take l k hlt
      have HG := Aside0.mk (HT.out.good k (by omega))
      have HCh := Aside0.mk hCh
      clear hCh HS1
      obtain ⟨x, hx⟩ : ∃ x, l.getD k z48 = x := ⟨_, rfl⟩
      rw [hx] at c0 c1 hz HO
      clear hx
      go_wp2_with fail
      refine (append_any W.heap.size v _ x W _ (HCh.out.step (below_alloc (Below.refl _ _) _)) k (by omega) HG.out hz.2.2).mono ?_
      rintro e w1 ⟨rfl, v1, hC1, _⟩
      have HS2 : Hid (∃ v, Chain W w1 W.heap.size v (ofS (l.take (k + 1)))) := ⟨v1, by rw [HO.out]; exact hC1⟩
      clear hC1 c0 c1 HCh
      go_wp2
      go_roundw
      case rel => exact ⟨k + 1, by omega, by go_num, HS2⟩
      case measure => simp [intOf]; omega
    · have hkx : k = l.length := by omega
      have HK := Aside0.mk hkx
      clear hkx
      go_wp2
      go_ret
      obtain ⟨v, hv⟩ := HS1.out
      rw [HK.out, List.take_length] at hv
      exact ⟨_, v, rfl, hv⟩
end Go.Proofs.Ytlgjicjofhmegaa.Ch
