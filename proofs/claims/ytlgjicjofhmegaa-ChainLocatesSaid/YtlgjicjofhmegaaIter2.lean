/- Places' iterator, gone over by the law's own places: every byte's place, in order. Conditions: the list is Small, most is the number of places. -/
import Derived.Test.YtlgjicjofhmegaaIter
namespace Go.Proofs.Ytlgjicjofhmegaa.Ch
open Go.RowKit Go.Shelf Go.Proofs.Ytlgjicjofhmegaa.PChainLocates Go.Proofs.YtlgjicjofhmegaaW.PrintWords
attribute [local go_sem] Oper.semAt_some
set_option linter.unusedVariables false
set_option linter.unusedSimpArgs false

set_option maxHeartbeats 1000000 in
theorem places_in (n : Nat) (p : Option Addr) (w : World) :
    CallsIn Fence.wide n Try.prog 22 #[.pointer p] w fun e w' => e = .returned (.func (.func 24) #[] #[.pointer (some ⟨w.heap.size, 0, none⟩)]) ∧ w' = w.alloc (.cells #[.pointer p] 25) := by
  refine callsIn_of_wp Try.func22 rfl trivial ?_ rfl
  simp only [Try.ntmps22, List.size_toArray, List.length_cons, List.length_nil, Nat.reduceAdd, Nat.reduceSub, Array.replicate_succ, Array.replicate_zero, List.push_toArray, List.append_toArray, List.nil_append, List.cons_append]
  gi_wp2
  go_ret
  exact ⟨rfl, rfl⟩

theorem places_stops (n : Nat) (hn : 1 ≤ n) (bc g : Nat) (v : Value) (xs : List S48) (hS : Small xs) (w0 w : World)
    (hbl : bc < w.heap.size) (hbc : w.cell? ⟨bc, 0, none⟩ = some (.pointer (some ⟨g, 0, none⟩))) (hCh : Chain w0 w g v xs) :
    SeqStopsK Fence.wide n Try.prog 24 #[.pointer (some ⟨bc, 0, none⟩)] (fun x : Int => #[Value.int .i64 x]) Kp48 (fun ys => ys = plc xs) (fun pre => pre <+: plc xs) (plc xs).length w :=
  fun l J Jx W hW hJ _ hY h0 => places1_in n hn l bc g v xs hS w0 J Jx W hJ hY ((hW.cell (p := ⟨bc, 0, none⟩) hbl).trans hbc) (hCh.step hW) h0

theorem boxed_own {β : Type} (B : Nat) (t : TypeId) (v : Value) : Own (fun (_ : β) W => Boxed W B t v) := by
  rintro s X Y row hv hg hrow
  refine hv.kept hg (fun e' => ?_)
  obtain ⟨o, ho, hc⟩ := hrow B e'.symm
  rw [show X.heap[B]? = _ from hv] at ho
  cases ho
  cases hc

theorem row_low {w : World} {base : Nat} {e : TypeId} {size : Nat} {v : Value} {n : Nat} {xs : List Value} (h : w.ownsRow base e size v n xs) {b : Nat} (hb : b < base) : some b ≠ v.ownBlock := fun e1 => by
  rcases h.2 with ⟨rfl, _⟩ | ⟨g, cap, cur, rfl, hg, hh, r⟩
  · simp [Value.ownBlock] at e1
  · have : b = g := by simpa [Value.ownBlock] using e1
    omega
theorem row_raise {w : World} {base base' : Nat} {e : TypeId} {size : Nat} {v : Value} {n : Nat} {xs : List Value} (h : w.ownsRow base e size v n xs) (hb : ∀ k, v.ownBlock = some k → base' ≤ k) : w.ownsRow base' e size v n xs := by
  obtain ⟨h1, h2⟩ := h
  refine ⟨h1, ?_⟩
  rcases h2 with h2 | ⟨g, cap, cur, rfl, hg, r⟩
  · exact .inl h2
  · exact .inr ⟨g, cap, cur, rfl, hb g (by simp [Value.ownBlock]), r⟩
theorem row_base {w : World} {base : Nat} {e : TypeId} {size : Nat} {v : Value} {n : Nat} {xs : List Value} (h : w.ownsRow base e size v n xs) : ∀ k, v.ownBlock = some k → base ≤ k := fun k hk => by
  rcases h.2 with ⟨rfl, _⟩ | ⟨g, cap, cur, rfl, hg, hh, r⟩
  · simp [Value.ownBlock] at hk
  · have : g = k := by simpa [Value.ownBlock] using hk
    omega
theorem row_slice {w : World} {base : Nat} {e : TypeId} {size : Nat} {v : Value} {n : Nat} {xs : List Value} (h : w.ownsRow base e size v n xs) : ∃ A c, v = .slice A n c := by
  rcases h.2 with ⟨rfl, rfl⟩ | ⟨g, cap, cur, rfl, hg, r⟩
  · exact ⟨_, _, rfl⟩
  · exact ⟨_, _, rfl⟩
theorem set_box {W : World} {B O : Nat} {t : TypeId} {u v' : Value} (h : Boxed W B t u) (hO : B ≠ O) : Boxed (W.setCell ⟨O, 0, none⟩ v') B t u := by
  show (W.heap.modify O _)[B]? = _
  rw [Array.getElem?_modify, if_neg (Ne.symm hO)]
  exact h
theorem results_cell_cell {fn : Func} {p q : Tmp} {ty tz : TypeId} (h : fn.results = #[.cell p ty, .cell q tz]) (tmps : Array Value) (P : Program) (w : World) :
    (results fn tmps).run P w =
      ((asAddr (tmps.getD p undef)).run P w).andThen fun a w₁ => ((loadVar ty a).run P w₁).andThen fun v w₂ => ((asAddr (tmps.getD q undef)).run P w₂).andThen fun b w₃ => ((loadVar tz b).run P w₃).andThen fun u w₄ => .ok (.tuple #[v, u]) w₄ := by
  simp only [results, h]
  simp [Sem.run_bind, Result.andThen]
theorem set_other {W : World} {B O : Nat} {v' : Value} (hO : B ≠ O) : (W.setCell ⟨O, 0, none⟩ v').heap[B]? = W.heap[B]? := by
  show (W.heap.modify O _)[B]? = _
  rw [Array.getElem?_modify, if_neg (Ne.symm hO)]
theorem put_box {W : World} {B D : Nat} {t : TypeId} {u : Value} {o : Obj} (h : Boxed W B t u) (hD : B ≠ D) : Boxed (W.putObj D o) B t u := (World.putObj_heap_other hD).trans h
theorem past_box {W w1 : World} {tmp : Obj} {B O : Nat} {t : TypeId} {u v' : Value} {row : Option Nat} (h : Boxed W B t u) (hg : (W.alloc tmp).grownBy w1 row) (hne : some B ≠ row) (hO : B ≠ O) : Boxed (w1.setCell ⟨O, 0, none⟩ v') B t u := by
  have h1 := (h.alloc tmp).kept hg hne
  show (w1.heap.modify O _)[B]? = _
  rw [Array.getElem?_modify, if_neg (Ne.symm hO)]
  exact h1
theorem past_rows {W w1 : World} {tmp : Obj} {base O n : Nat} {u v v' : Value} {ys : List Value} (hrow : W.ownsRow base 3 1 v n ys) (hO : Boxed W O 30 u) (hg : (W.alloc tmp).grownBy w1 v.ownBlock) : Kp48 W (w1.setCell ⟨O, 0, none⟩ v') := by
  intro i cs hi
  have hne : some i ≠ v.ownBlock := fun e => by
    obtain ⟨cells, hc⟩ := own_typed hrow i e.symm
    rw [hi] at hc
    injection hc with hc
    injection hc with _ hc _
    cases hc
  have hiO : i ≠ O := fun e => by
    subst e
    rw [show W.heap[i]? = _ from hO] at hi
    injection hi with hc
    injection hc with _ hc _
    cases hc
  have h1 : w1.heap[i]? = some (.cells cs 48 (0, 0)) := (hg.block i (by have := blk_lt hi; simp; omega) hne).trans ((Below.heap_alloc _ _ _ (blk_lt hi)).trans hi)
  show (w1.heap.modify O _)[i]? = _
  rw [Array.getElem?_modify, if_neg (Ne.symm hiO)]
  exact h1

set_option maxRecDepth 100000 in
set_option maxHeartbeats 2000000 in
theorem over_in (n : Nat) (hn : 3 ≤ n) (g : Nat) (v : Value) (xs : List S48) (hS : Small xs) (w0 w : World) (hCh : Chain w0 w g v xs) (most : Int) (hmost : most = (plc xs).length) :
    CallsIn Fence.wide n Try.prog 11 #[.pointer (some ⟨g, 0, none⟩), .int .i64 most] w fun e W' => ∃ u, e = .returned (.tuple #[u, .bool true]) ∧ W'.ownsRow w.heap.size 3 1 u (plc xs).length ((plc xs).map (Value.int .i64)) ∧ Below w.heap.size w W' := by
  have h1 : 1 ≤ n := by omega
  have HCh := Aside0.mk hCh
  clear hCh
  have hnf : ∀ (lb : Array Value) (W : World), Sem.run Try.prog (binOp BinOp.eql 53 (.func (.func 24) #[] lb) .nilFunc) W = .ok (.bool false) W := fun lb W => by rfl
  obtain ⟨i0, hi, hz0, hz1, hz2⟩ := info_parts info3
  refine callsIn_of_wp_marks Try.func11 rfl trivial ?_ rfl
  simp only [Try.ntmps11, List.size_toArray, List.length_cons, List.length_nil, Nat.reduceAdd, Nat.reduceSub, Array.replicate_succ, Array.replicate_zero, List.push_toArray, List.append_toArray, List.nil_append, List.cons_append]
  gi_wp2_with (refine ⟨trivial, ?_⟩; gi_at_call 22; refine (places_in (n - 1) _ _).mono ?_; rintro e w' ⟨rfl, rfl⟩)
  obtain ⟨w5, hw5⟩ : ∃ w5, (((((w.alloc (Obj.cells #[Value.int IntKind.i64 ↑(plc xs).length] 3)).alloc (Obj.cells #[Value.slice none 0 0] 30)).alloc (Obj.cells #[Value.bool false] 4)).alloc
          (Obj.cells #[Value.pointer (some { block := g, off := 0 })] 25)).alloc (Obj.cells #[Value.slice none 0 0] 30)) = w5 := ⟨_, rfl⟩
  have hs5 : w5.heap.size = w.heap.size + 1 + 1 + 1 + 1 + 1 := by rw [← hw5]; simp
  have bm : Boxed w5 w.heap.size 3 (.int .i64 (plc xs).length) := by
    rw [← hw5]; exact ((((Boxed.new w 3 _).alloc _).alloc _).alloc _).alloc _
  have br : Boxed w5 (w.heap.size + 1) 30 (.slice none 0 0) := by
    have h := Boxed.new (w.alloc (Obj.cells #[Value.int IntKind.i64 ↑(plc xs).length] 3)) 30 (.slice none 0 0)
    rw [World.size_alloc] at h
    rw [← hw5]; exact ((h.alloc _).alloc _).alloc _
  have bk : Boxed w5 (w.heap.size + 1 + 1) 4 (.bool false) := by
    have h := Boxed.new ((w.alloc (Obj.cells #[Value.int IntKind.i64 ↑(plc xs).length] 3)).alloc (Obj.cells #[Value.slice none 0 0] 30)) 4 (.bool false)
    rw [World.size_alloc, World.size_alloc] at h
    rw [← hw5]; exact (h.alloc _).alloc _
  have bc : Boxed w5 (w.heap.size + 1 + 1 + 1) 25 (.pointer (some ⟨g, 0, none⟩)) := by
    have h := Boxed.new (((w.alloc (Obj.cells #[Value.int IntKind.i64 ↑(plc xs).length] 3)).alloc (Obj.cells #[Value.slice none 0 0] 30)).alloc (Obj.cells #[Value.bool false] 4)) 25 (.pointer (some ⟨g, 0, none⟩))
    rw [World.size_alloc, World.size_alloc, World.size_alloc] at h
    rw [← hw5]; exact h.alloc _
  have bo : Boxed w5 (w.heap.size + 1 + 1 + 1 + 1) 30 (.slice none 0 0) := by
    have h := Boxed.new ((((w.alloc (Obj.cells #[Value.int IntKind.i64 ↑(plc xs).length] 3)).alloc (Obj.cells #[Value.slice none 0 0] 30)).alloc (Obj.cells #[Value.bool false] 4)).alloc (Obj.cells #[Value.pointer (some { block := g, off := 0 })] 25)) 30 (.slice none 0 0)
    rw [World.size_alloc, World.size_alloc, World.size_alloc, World.size_alloc] at h
    rw [← hw5]; exact h
  have hB5 : Below w.heap.size w w5 := by
    rw [← hw5]; exact below_alloc (below_alloc (below_alloc (below_alloc (below_alloc (Below.refl _ _) _) _) _) _) _
  rw [hw5]
  have hps : (plc xs).length ≤ 1000000000 := by
    have h1 := hS.plc_len
    have h2 := hS.len
    omega
  refine wpIn_rangeFunc_ownG rfl h1 (gf := 24) (lb := #[.pointer (some ⟨w.heap.size + 1 + 1 + 1, 0, none⟩)]) rfl trivial (enters_of Try.func24 (by kernel_rfl) rfl)
    (places_stops (n - 1) (by omega) (w.heap.size + 1 + 1 + 1) g v xs hS w0 w5 (by omega) bc.cell (HCh.out.step hB5)) Kp48.trans_ (fun W l o o' _ h hc _ => Kp48.put W l o o' h hc) (Below.refl _ _) (fun _ => rfl)
    (fun (pre : List Int) W => ((∃ u, Boxed W (w.heap.size + 1 + 1 + 1 + 1) 30 u ∧ W.ownsRow w5.heap.size 3 1 u pre.length (pre.map (Value.int .i64)) ∧ True) ∧ Boxed W w.heap.size 3 (.int .i64 (plc xs).length)) ∧ (Boxed W (w.heap.size + 1) 30 (.slice none 0 0) ∧ Boxed W (w.heap.size + 1 + 1) 4 (.bool false)) ∧ Below w.heap.size w5 W)
    (fun _ _ _ => False)
    (OwnFrom.and (OwnFrom.and (Own.from (holdsRow_own w5.heap.size (w.heap.size + 1 + 1 + 1 + 1) 30 3 1 (fun pre : List Int => pre.length) (fun pre => pre.map (Value.int .i64)) (fun pre v => True)) _) (Own.from (boxed_own _ _ _) _)) (OwnFrom.and (OwnFrom.and (Own.from (boxed_own _ _ _) _) (Own.from (boxed_own _ _ _) _)) (ownFrom_below (by omega) (by omega))))
    (fun _ _ _ _ _ hs _ _ => hs)
    ⟨⟨⟨_, bo, World.ownsRow_nil _ _ _ _, trivial⟩, bm⟩, ⟨br, bk⟩, Below.refl _ _⟩
    (fun x => { tmps := #[.pointer (some ⟨g, 0, none⟩), .int .i64 (plc xs).length, undef, .pointer (some ⟨w.heap.size, 0, none⟩), .pointer (some ⟨w.heap.size + 1, 0, none⟩), .pointer (some ⟨w.heap.size + 1 + 1, 0, none⟩),
      .func (.func 24) #[] #[.pointer (some ⟨w.heap.size + 1 + 1 + 1, 0, none⟩)], .pointer (some ⟨w.heap.size + 1 + 1 + 1 + 1, 0, none⟩), .int .i64 x, .pointer (some ⟨g, 0, none⟩),
      .func (.func 24) #[] #[.pointer (some ⟨w.heap.size + 1 + 1 + 1, 0, none⟩)], .func (.func 24) #[] #[.pointer (some ⟨w.heap.size + 1 + 1 + 1, 0, none⟩)], .bool false,
      .func (.func 24) #[] #[.pointer (some ⟨w.heap.size + 1 + 1 + 1, 0, none⟩)], .int .i64 x, undef, undef, undef, undef, undef, undef, undef, undef, undef, undef], defers := [] }) ?assign ?body ?done ?stop
  case assign =>
    intro l x W K hK
    gi_wp2
    exact hK
  case body =>
    rintro l pre x W ⟨⟨⟨v, hv, hrow, -⟩, hm⟩, ⟨hr, hk⟩, hB⟩ hlt
    have hc := hv.cell
    have hml : 1000000001 ≤ Go.maxLen := by decide
    have hb0 : w5.heap.size ≤ W.heap.size := hB.size
    have HM := Aside0.mk hm
    have HR := Aside0.mk hr
    have HK := Aside0.mk hk
    clear hr hk hm hB5 bm br bk bc bo hw5
    gi_wp2_with (gi_at_builtin; go_loud (refine wpListIn_append_own _ rfl _ _ 30 rfl w5.heap.size 3 i0 (.int .i64 0) 1 8 Try.underlying30 hi hz0 hz1 hz2 rfl (by decide) _ _ _ rfl (hrow.alloc _) ⟨W.heap.size, 0, none⟩ 1 1 [.int .i64 x] rfl rfl (cell_one_new _ _ _) (by simp [Value.oneCell']) (by omega) (by omega) (by have := hB.size; simp; omega) ?_; intro v' w1 hown' hgrow _; obtain ⟨g', cap', rfl⟩ := ownsRow_succ hown'; obtain ⟨hv1, hv2, hr2, hk2, hb2⟩ := hv.appended (by decide) (own_weaken hrow (show w.heap.size ≤ _ by omega)) (by omega) (by omega) (own_weaken hown' (show w.heap.size ≤ _ by omega)) hgrow; have hc1 := hv1.cell; have hf1 := hv1.frozen; have HM2 := Aside0.mk (past_box (O := w.heap.size + 1 + 1 + 1 + 1) (v' := .slice (some ⟨g', 0, none⟩) (pre.length + 1) cap') HM.out hgrow (row_low hrow (by omega)) (by omega)); have hmc := HM2.out.cell))
    have hbv := row_base hown'
    have hrx := row_raise hr2 hbv
    refine ⟨hk2.from _, past_rows hrow hv hgrow, ⟨⟨_, hv2, ?_, trivial⟩, HM2.out⟩, ⟨past_box HR.out hgrow (row_low hrow (by omega)) (by omega), past_box HK.out hgrow (row_low hrow (by omega)) (by omega)⟩, hB.trans hb2⟩
    rw [List.length_append, List.map_append]
    exact hrx
  case done =>
    rintro D ys W hD rfl ⟨⟨⟨v, hv, hrow, -⟩, hm⟩, ⟨hr, hk⟩, hB⟩ hK
    have hc := hv.cell
    have hfr := hr.frozen
    have hcr := hr.cell
    obtain ⟨A, cap, rfl⟩ := row_slice hrow
    have hk1 := set_box (O := w.heap.size + 1) (v' := .slice A (plc xs).length cap) hk (by omega)
    have HB5 := Aside0.mk hB5
    have hr1 := hr.set (.slice A (plc xs).length cap)
    have hr2 := set_box (O := w.heap.size + 1 + 1) (v' := .bool true) hr1 (by omega)
    have hk2 := hk1.set (.bool true)
    have hfk := hk1.frozen
    have hck := hk1.cell
    have HR2 := Aside0.mk hr2
    have HK2 := Aside0.mk hk2
    have HHK := Aside0.mk hK
    clear hr2 hk2 hr1 hk1 hr hk hm hv hK hB5 bm br bk bc bo hw5
    gi_wp2
    have hne1 : D ≠ w.heap.size + 1 := by omega
    have hne2 : D ≠ w.heap.size + 1 + 1 := by omega
    obtain ⟨W3, hW3⟩ : ∃ W3, ((W.setCell ⟨w.heap.size + 1, 0, none⟩ (Value.slice A (plc xs).length cap)).setCell ⟨w.heap.size + 1 + 1, 0, none⟩ (Value.bool true)) = W3 := ⟨_, rfl⟩
    have hK3 : W3.heap[D]? = some (.deferred (some [])) := by
      rw [← hW3]
      rw [set_other hne2, set_other hne1]
      exact HHK.out
    have hbW := hB.size
    have hb3 : Below w.heap.size w W3 := by
      rw [← hW3]
      refine HB5.out.trans ((hB.grown (grownBy_setCell' W (w.heap.size + 1) _) (by omega) (fun k e => by cases e; omega)).grown (grownBy_setCell' _ (w.heap.size + 1 + 1) _) (by rw [World.size_setCell]; omega) (fun k e => by cases e; omega))
    have hr3 : W3.ownsRow w.heap.size 3 1 (.slice A (plc xs).length cap) (plc xs).length ((plc xs).map (Value.int .i64)) := by
      rw [← hW3]
      exact own_weaken ((hrow.kept (grownBy_setCell' W (w.heap.size + 1) _) (.inr (Ne.symm (row_low hrow (by omega))))).kept (grownBy_setCell' _ (w.heap.size + 1 + 1) _) (.inr (Ne.symm (row_low hrow (by omega))))) (by omega)
    have HRR := HR2.out
    have HKK := HK2.out
    rw [hW3] at HRR HKK ⊢
    refine ⟨by simp, .inl ⟨_, _, rfl, run_takeDeferred hK3, ?_⟩⟩
    refine ⟨.tuple #[.slice A (plc xs).length cap, .bool true], ?_, _, rfl, ownsRow_putObj hr3 _ hK3 rfl, hb3.trans (belowK_b (w := w) (Nat.le_refl _) W3 D _ _ (by omega) hK3 rfl rfl)⟩
    have e1 := (put_box (o := Obj.deferred none) HRR (Ne.symm hne1)).cell
    have e2 := (put_box (o := Obj.deferred none) HKK (Ne.symm hne2)).cell
    rw [results_cell_cell rfl]
    go_simp
  case stop =>
    rintro D c pre W _ _ h _
    exact h.elim

theorem LI.of_own {W : World} {b : Nat} {v : Value} {ys : List Int} (h : W.ownsRow b 3 1 v ys.length (ys.map (Value.int .i64))) : LI W v ys := by
  refine ⟨b, fun _ _ => trivial, _, h, by rw [List.length_map]; exact (Nat.mul_one _).symm, fun j p hj => ?_⟩
  show ((ys.map (Value.int .i64)).drop (j * 1)).take 1 = [Value.int .i64 p]
  obtain ⟨hl, hp⟩ := List.getElem?_eq_some_iff.1 hj
  rw [Nat.mul_one, List.drop_eq_getElem_cons (by rw [List.length_map]; exact hl), List.take_succ_cons, List.take_zero, List.getElem_map, hp]

theorem over_calls {g : Nat} {v : Value} {xs : List S48} {w0 W : World} (hCh : Chain w0 W g v xs) (hS : Small xs) :
    Calls Try.prog 11 #[.pointer (some ⟨g, 0, none⟩), .int .i64 (plc xs).length] W fun e w' => ∃ p, e = .returned (.tuple #[p, .bool true]) ∧ LI w' p (plc xs) ∧ Below W.heap.size W w' :=
  (callsIn_wide.1 (over_in 3 (by decide) g v xs hS w0 W hCh _ rfl)).mono fun _ _ ⟨p, he, hR, hB⟩ => ⟨p, he, LI.of_own hR, hB⟩
end Go.Proofs.Ytlgjicjofhmegaa.Ch
