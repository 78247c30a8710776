/- The calls that the laws ChainLocates and ChainCuts make, each over the lists that the law holds. Conditions: the lists are Small, the spans Tried. -/
import Derived.Test.YtlgjicjofhmegaaPlain
namespace Go.Proofs.Ytlgjicjofhmegaa.Ch
open Go.RowKit Go.Proofs.Ytlgjicjofhmegaa.PChainLocates Go.Proofs.YtlgjicjofhmegaaW.PrintWords Go.Proofs.YtlgjicjofhmegaaW.PrintLast Go.Proofs.YtlgjicjofhmegaaW.PrintMore
set_option linter.unusedVariables false
set_option linter.unusedSimpArgs false

/-- A list of spans, of the reference's spans, of numbers, made by the call. -/
def L48 (W : World) (v : Value) (xs : List S48) : Prop := ∃ b, Kd.R k48 48 W b (fun _ => True) v xs
def L33 (W : World) (v : Value) (xs : List S33) : Prop := ∃ b, Kd.R k33 33 W b (fun _ => True) v xs
def LI (W : World) (v : Value) (xs : List Int) : Prop := ∃ b, Kd.R (Kd.int .i64) 3 W b (fun _ => True) v xs
section
variable {W W1 : World} {v u : Value} {xs : List S48} {g : Nat} {a n : Int}
theorem L48.step {xs : List S48} (h : L48 W v xs) (hb : Below W.heap.size W W1) : L48 W1 v xs := by obtain ⟨b, h⟩ := h; exact ⟨b, Kd.R_below h hb⟩
theorem L33.step {xs : List S33} (h : L33 W v xs) (hb : Below W.heap.size W W1) : L33 W1 v xs := by obtain ⟨b, h⟩ := h; exact ⟨b, Kd.R_below h hb⟩
theorem LI.step {xs : List Int} (h : LI W v xs) (hb : Below W.heap.size W W1) : LI W1 v xs := by obtain ⟨b, h⟩ := h; exact ⟨b, Kd.R_below h hb⟩
theorem L48.shape {xs : List S48} (h : L48 W v xs) : ∃ A c, v = .slice A xs.length c := by obtain ⟨b, h⟩ := h; exact Kd.R_slice h
theorem L33.shape {xs : List S33} (h : L33 W v xs) : ∃ A c, v = .slice A xs.length c := by obtain ⟨b, h⟩ := h; exact Kd.R_slice h
theorem LI.shape {xs : List Int} (h : LI W v xs) : ∃ A c, v = .slice A xs.length c := by obtain ⟨b, h⟩ := h; exact Kd.R_slice h
theorem L33.shape' {xs : List S48} (h : L33 W v (xs.map conv)) : ∃ A c, v = .slice A xs.length c := by
  obtain ⟨A, c, e⟩ := h.shape
  rw [List.length_map] at e
  exact ⟨A, c, e⟩
theorem Chain.lower {w0 w1 : World} (h : Chain w1 W g v xs) (hb : Below w0.heap.size w0 w1) : Chain w0 W g v xs :=
  ⟨h.blk, Nat.le_trans hb.size h.new, Kd.R_lower h.row hb.size, hb.trans (h.below.mono hb.size)⟩
theorem keepBut (hk : Kept W W1 (fun k => k = g)) : KeepBut W W1 g none := ⟨hk.1, fun i hi hg _ => hk.2 i hi hg⟩
/-- Only a chain's own block has turned. -/
theorem L48.past {xs : List S48} {cs : Array Value} (h : L48 W v xs) (hb : W.heap[g]? = some (.cells cs 51 (0, 0))) (hk : Kept W W1 (fun k => k = g)) : L48 W1 v xs := by
  obtain ⟨b, h⟩ := h
  exact ⟨b, Kd.R_mono (Kd.R_keep (Kd.R_types h hb (by decide)) (keepBut hk) (fun _ hk => hk.2)) (fun _ _ => trivial)⟩
theorem L33.past {xs : List S33} {cs : Array Value} (h : L33 W v xs) (hb : W.heap[g]? = some (.cells cs 51 (0, 0))) (hk : Kept W W1 (fun k => k = g)) : L33 W1 v xs := by
  obtain ⟨b, h⟩ := h
  exact ⟨b, Kd.R_mono (Kd.R_keep (Kd.R_types h hb (by decide)) (keepBut hk) (fun _ hk => hk.2)) (fun _ _ => trivial)⟩
theorem LI.past {xs : List Int} {cs : Array Value} (h : LI W v xs) (hb : W.heap[g]? = some (.cells cs 51 (0, 0))) (hk : Kept W W1 (fun k => k = g)) : LI W1 v xs := by
  obtain ⟨b, h⟩ := h
  exact ⟨b, Kd.R_mono (Kd.R_keep (Kd.R_types h hb (by decide)) (keepBut hk) (fun _ hk => hk.2)) (fun _ _ => trivial)⟩
/-- Another chain's block has turned. -/
theorem Chain.past {w0 : World} {g' : Nat} {cs : Array Value} (h : Chain w0 W g v xs) (hne : g ≠ g') (hb : W.heap[g']? = some (.cells cs 51 (0, 0))) (hk : Kept W W1 (fun k => k = g')) (hB : Below w0.heap.size w0 W1) : Chain w0 W1 g v xs :=
  ⟨blk_kept h.blk hk hne, h.new, Kd.R_mono (Kd.R_keep (Kd.R_types h.row hb (by decide)) (keepBut hk) (fun _ hk => hk.2)) (fun _ _ => trivial), hB⟩

theorem same_calls (h0 : L48 W v xs) (h1 : L33 W u (xs.map conv)) (hl : xs.length ≤ 900) :
    Calls Try.prog 12 #[v, u] W fun e w' => e = .returned (.bool true) ∧ Below W.heap.size W w' := by
  obtain ⟨b, h0⟩ := h0
  obtain ⟨b', h1⟩ := h1
  obtain ⟨A, c, rfl, hl0, hC0⟩ := Kd.R_reads h0
  obtain ⟨A', c', rfl, hl1, hC1⟩ := Kd.R_reads h1
  exact (punnetlaw21_Same.calls 1000 A c xs A' c' (xs.map conv) true W hC0 hl0 hC1 hl1 (same_f xs hl)).mono fun _ _ ⟨he, hd⟩ => ⟨he, hd.below⟩
theorem places_calls (h1 : L33 W u (xs.map conv)) (hS : Small xs) :
    Calls Try.prog 10 #[u] W fun e w' => ∃ p, e = .returned p ∧ LI w' p (plc xs) ∧ Below W.heap.size W w' := by
  obtain ⟨b', h1⟩ := h1
  obtain ⟨A', c', rfl, hl1, hC1⟩ := Kd.R_reads h1
  exact (punnetref22_Places.calls 2000000000 A' c' (xs.map conv) (plc xs) W hC1 hl1 (places_f xs hS)).mono fun _ _ ⟨p, he, hR, hB⟩ => ⟨p, he, ⟨_, hR⟩, hB⟩
theorem locref_calls (h1 : L33 W u (xs.map conv)) (hS : Small xs) (a n : Int) (ha : 0 ≤ a) (hn0 : 0 ≤ n) (ha' : a ≤ 1000000000) (hn' : n ≤ 1000000000) :
    Calls Try.prog 18 #[u, .int .i64 a, .int .i64 n] W fun e w' => ∃ p, e = .returned p ∧ L33 w' p ((locS xs a n).map conv) ∧ Below W.heap.size W w' := by
  obtain ⟨b', h1⟩ := h1
  obtain ⟨A', c', rfl, hl1, hC1⟩ := Kd.R_reads h1
  exact (punnetref22_Locate.calls 2000 A' c' (xs.map conv) a n _ W hC1 hl1 (loc_f xs hS a n ha hn0 ha' hn')).mono fun _ _ ⟨p, he, hR, hB⟩ => ⟨p, he, ⟨_, hR⟩, hB⟩
theorem refs_calls {A : Option Addr} {c : Nat} {l : List S48} (hC : Kd.C k48 W A l.length l) (hc : l.length ≤ c) (hT : Tried l) :
    Calls Try.prog 9 #[.slice A l.length c] W fun e w' => ∃ p, e = .returned p ∧ L33 w' p (l.map conv) ∧ Below W.heap.size W w' :=
  (punnetlaw22_Refs.calls 1000 A c l _ W hC hc (refs_f l hT)).mono fun _ _ ⟨p, he, hR, hB⟩ => ⟨p, he, ⟨_, hR⟩, hB⟩
theorem join_calls {l : List S48} (h1 : L33 W u (l.map conv)) (hT : Tried l) :
    Calls Try.prog 8 #[u] W fun e w' => ∃ p, e = .returned p ∧ L33 w' p ((ofS l).map conv) ∧ Below W.heap.size W w' := by
  obtain ⟨b', h1⟩ := h1
  obtain ⟨A', c', rfl, hl1, hC1⟩ := Kd.R_reads h1
  exact (punnetref22_Join.calls 1000 A' c' (l.map conv) _ W hC1 hl1 (join_f l hT)).mono fun _ _ ⟨p, he, hR, hB⟩ => ⟨p, he, ⟨_, hR⟩, hB⟩
theorem few_calls {A : Option Addr} {c : Nat} {l : List S48} (hC : Kd.C k48 W A l.length l) (hc : l.length ≤ c) :
    Calls Try.prog 6 #[.slice A l.length c] W fun e w' => ∃ b, e = .returned (.bool b) ∧ (b = true → Tried l) ∧ Below W.heap.size W w' := by
  obtain ⟨b, hb, ht⟩ := few_f l
  exact (punnetlaw22_Few.calls 1000 A c l b W hC hc hb).mono fun _ _ ⟨he, hd⟩ => ⟨b, he, ht, hd.below⟩
theorem list_calls {w0 : World} (h : Chain w0 W g v xs) (hl : xs.length ≤ 100000) :
    Calls Try.prog 13 #[.pointer (some ⟨g, 0, none⟩)] W fun e w' => ∃ u, e = .returned u ∧ L48 w' u xs ∧ Below W.heap.size W w' :=
  (list_any g v xs w0 W h hl).mono fun _ _ ⟨u, he, hR, hB⟩ => ⟨u, he, ⟨_, hR⟩, hB⟩
end

theorem Tried.small {l : List S48} (h : Tried l) : Small (ofS l) := by
  have hg := h.good l.length (Nat.le_refl _)
  rw [List.take_length] at hg
  have hn := h.1
  exact ⟨by have := hg.1; omega, fun x hx => by have := hg.2 x hx; omega⟩
theorem locS_len (xs : List S48) : ∀ (a n : Int), (locS xs a n).length ≤ xs.length := by
  induction xs with
  | nil => intro a n; simp [locS]
  | cons x xs ih =>
    intro a n
    simp only [locS]
    split
    · simp
    · split
      · have := ih (a - x.f1) n
        simp only [List.length_cons]
        omega
      · have := ih 0 (n - mn (x.f1 - a) n)
        simp only [List.length_cons]
        omega

set_option maxHeartbeats 400000 in
theorem awake_any (w : World) : Calls Try.prog 5 #[] w fun e w' => e = .returned (.bool true) ∧ Below w.heap.size w w' := by
  have hC : Aside0 (∀ W : World, Kd.C k48 (W.alloc (.cells #[.int .i64 0, .int .i64 3, .int .i64 3, .int .i64 2, .int .i64 9, .int .i64 1] 48)) (some ⟨W.heap.size, 0, none⟩) ([⟨0, 3⟩, ⟨3, 2⟩, ⟨9, 1⟩] : List S48).length [⟨0, 3⟩, ⟨3, 2⟩, ⟨9, 1⟩]) := by
    refine ⟨fun W => ⟨rfl, by simp, fun _ => ⟨_, rfl, fun j p hj => ⟨[.int .i64 p.f0, .int .i64 p.f1], rfl, k48_mk _ p, fun i u hu => ?_⟩⟩⟩⟩
    rw [add_plain]
    have hb := cell_of_row _ W.heap.size (j * k48.sz + i) _ _ _ (heap_alloc_new W (.cells #[.int .i64 0, .int .i64 3, .int .i64 3, .int .i64 2, .int .i64 9, .int .i64 1] 48))
    rw [hb, show j * k48.sz + i = j * 2 + i from rfl]
    match j, i, hj, hu with
    | 0, 0, hj, hu => simp at hj; subst hj; simp at hu; subst hu; rfl
    | 0, 1, hj, hu => simp at hj; subst hj; simp at hu; subst hu; rfl
    | 1, 0, hj, hu => simp at hj; subst hj; simp at hu; subst hu; rfl
    | 1, 1, hj, hu => simp at hj; subst hj; simp at hu; subst hu; rfl
    | 2, 0, hj, hu => simp at hj; subst hj; simp at hu; subst hu; rfl
    | 2, 1, hj, hu => simp at hj; subst hj; simp at hu; subst hu; rfl
    | _, n + 2, hj, hu => simp at hu
    | n + 3, _, hj, hu => simp at hj
  have hD : Aside0 (∀ W : World, Kd.C k33 (W.alloc (.cells #[.int .i64 0, .int .i64 5, .int .i64 9, .int .i64 1] 33)) (some ⟨W.heap.size, 0, none⟩) ([⟨0, 5⟩, ⟨9, 1⟩] : List S33).length [⟨0, 5⟩, ⟨9, 1⟩]) := by
    refine ⟨fun W => ⟨rfl, by simp, fun _ => ⟨_, rfl, fun j p hj => ⟨[.int .i64 p.f0, .int .i64 p.f1], rfl, k33_mk _ p, fun i u hu => ?_⟩⟩⟩⟩
    rw [add_plain]
    have hb := cell_of_row _ W.heap.size (j * k33.sz + i) _ _ _ (heap_alloc_new W (.cells #[.int .i64 0, .int .i64 5, .int .i64 9, .int .i64 1] 33))
    rw [hb, show j * k33.sz + i = j * 2 + i from rfl]
    match j, i, hj, hu with
    | 0, 0, hj, hu => simp at hj; subst hj; simp at hu; subst hu; rfl
    | 0, 1, hj, hu => simp at hj; subst hj; simp at hu; subst hu; rfl
    | 1, 0, hj, hu => simp at hj; subst hj; simp at hu; subst hu; rfl
    | 1, 1, hj, hu => simp at hj; subst hj; simp at hu; subst hu; rfl
    | _, n + 2, hj, hu => simp at hu
    | n + 2, _, hj, hu => simp at hj
  have hT : Tried [⟨0, 3⟩, ⟨3, 2⟩, ⟨9, 1⟩] := ⟨by decide, by intro x hx; simp at hx; rcases hx with rfl | rfl | rfl <;> decide⟩
  have HT := Aside0.mk hT
  clear hT
  go_enter Try.func5, Try.ntmps5
  go_wp2_with fail
  refine (of_any _ 3 _ _ (hC.out w) HT.out).mono ?_
  rintro e w1 ⟨g, v, rfl, hCh⟩
  have HB1 : Aside0 (Below w.heap.size w w1) := ⟨(below_alloc (Below.refl _ _) _).trans (hCh.below.mono (by simp))⟩
  have HCh := Aside0.mk hCh
  clear hCh
  go_wp2_with fail
  refine (list_calls HCh.out (by decide)).mono ?_
  rintro e w2 ⟨u, rfl, hL, hB⟩
  have HB2 : Aside0 (Below w.heap.size w w2) := ⟨HB1.out.trans (hB.mono HB1.out.size)⟩
  have HL := Aside0.mk hL
  clear hL hB
  go_wp2_with fail
  obtain ⟨b, hR⟩ := HL.out.step (below_alloc (Below.refl w2.heap.size w2) (.cells #[.int .i64 0, .int .i64 5, .int .i64 9, .int .i64 1] 33))
  obtain ⟨A, c, rfl, hlc, hC2⟩ := Kd.R_reads hR
  refine (punnetlaw21_Same.calls 1000 A c _ _ 2 _ true _ hC2 hlc (hD.out w2) (by decide) (by decide +kernel)).mono ?_
  rintro e w3 ⟨rfl, hd⟩
  have HB3 : Aside0 (Below w.heap.size w w3) := ⟨(below_alloc HB2.out _).trans (hd.below.mono (by have := HB2.out.size; simp; omega))⟩
  clear hR hC2 hd
  go_wp2
  go_ret
  exact ⟨rfl, HB3.out⟩
end Go.Proofs.Ytlgjicjofhmegaa.Ch
