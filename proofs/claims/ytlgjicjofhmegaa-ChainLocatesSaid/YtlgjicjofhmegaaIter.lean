/- Places' iterator over a chain of the call's own: it yields each byte's place, in order, for every loop body that keeps the spans' cells. Conditions: the list is Small. -/
import Derived.RangeFuncNested
import Derived.RangeFuncBound
import Derived.RangeFuncCalls
import Derived.RangeFuncLeaves
import Derived.RangeFuncBox
import Derived.Shelf.Abstract
import Derived.WalkKit
import Derived.OwnWalkIn
import Derived.TacticsInMore
import Derived.LoopNIn
import Derived.LoopIn
import Derived.Outline
import Derived.Test.YtlgjicjofhmegaaCalls
namespace Go.Proofs.Ytlgjicjofhmegaa.Ch
open Go.RowKit Go.Shelf Go.Proofs.Ytlgjicjofhmegaa.PChainLocates Go.Proofs.YtlgjicjofhmegaaW.PrintWords
attribute [local go_sem] Oper.semAt_some
set_option linter.unusedVariables false
set_option linter.unusedSimpArgs false

/-- What a round keeps: every row of spans lies as it lay. -/
def Kp48 (W W' : World) : Prop := ∀ (i : Nat) (cs : Array Value), W.heap[i]? = some (Obj.cells cs 48 (0, 0)) → W'.heap[i]? = some (Obj.cells cs 48 (0, 0))
theorem Kp48.trans_ {A B C : World} (h : Kp48 A B) (k : Kp48 B C) : Kp48 A C := fun i cs hi => k i cs (h i cs hi)
theorem Kp48.of_below {A B : World} (h : Below A.heap.size A B) : Kp48 A B := fun i cs hi => (h.block i (blk_lt hi)).trans hi
theorem Kp48.put (W : World) (l : Nat) (o o' : Obj) (h : W.heap[l]? = some o) (hc : o.isCells = false) : Kp48 W (W.putObj l o') := fun i cs hi => by
  refine (World.putObj_heap_other (fun e => ?_)).trans hi
  subst e
  rw [h] at hi
  have e2 := Option.some.inj hi
  rw [e2] at hc
  cases hc
theorem row_kept {W W' : World} {b : Nat} {v : Value} {xs : List S48} (h : Kd.R k48 48 W b (fun _ => True) v xs) (hk : Kp48 W W') : Kd.R k48 48 W' b (fun _ => True) v xs := by
  refine Kd.R_mono (Kd.R_move (Kd.R_bound h) (fun k hok => ?_)) (fun _ _ => trivial)
  obtain ⟨_, _, _, q, hq, cells, hc⟩ := hok
  have e : q = 48 := by simpa [k48, Kd.iso, Kd.pair, Kd.int, Kd.scalar] using hq
  subst e
  rw [hk _ _ hc, hc]

/-- What has come when i spans are over, and j bytes of the next one. -/
def come (xs : List S48) (i j : Nat) : List Int := plc (xs.take i) ++ (List.range j).map fun (t : Nat) => (xs.getD i z48).f0 + (t : Int)
theorem come_zero (xs : List S48) (i : Nat) : come xs i 0 = plc (xs.take i) := by simp [come]
theorem come_succ (xs : List S48) (i j : Nat) : come xs i (j + 1) = come xs i j ++ [(xs.getD i z48).f0 + (j : Int)] := by
  unfold come
  rw [seg_succ, List.append_assoc]
theorem come_full (xs : List S48) (i : Nat) (h : i < xs.length) : come xs i (xs.getD i z48).f1.toNat = plc (xs.take (i + 1)) := by
  rw [plc_take xs i h]
  rfl
theorem come_len (xs : List S48) (hS : Small xs) (i j : Nat) (h : i < xs.length) (hj : (j : Int) < (xs.getD i z48).f1) : (come xs i j).length < (plc xs).length := by
  have h1 := (hS.take i).plc_len
  have h2 := hS.plc_len
  have h3 := lenS_split xs i
  have h4 := lenS_drop xs i h
  have h5 := (hS.drop (i + 1)).len
  unfold come
  rw [List.length_append, List.length_map, List.length_range]
  omega

theorem plc_app (xs ys : List S48) : plc (xs ++ ys) = plc xs ++ plc ys := by simp [plc]
theorem range_pre {α : Type} (f : Nat → α) (a b : Nat) (h : a ≤ b) : (List.range a).map f <+: (List.range b).map f := by
  have h1 : List.range a = (List.range b).take a := by rw [List.take_range, Nat.min_eq_left h]
  rw [h1, List.map_take]
  exact List.take_prefix _ _
theorem come_pre (xs : List S48) (k j : Nat) (h : k < xs.length) (hj : j ≤ (xs.getD k z48).f1.toNat) : come xs k j <+: plc xs := by
  have h1 : come xs k j <+: come xs k (xs.getD k z48).f1.toNat := List.prefix_append_right_inj (plc (xs.take k)) |>.2 (range_pre _ _ _ hj)
  rw [come_full xs k h] at h1
  refine h1.trans ?_
  conv => rhs; rw [← List.take_append_drop (k + 1) xs, plc_app]
  exact List.prefix_append _ _

set_option maxRecDepth 100000 in
set_option maxHeartbeats 2000000 in
theorem places1_in (n : Nat) (hn : 1 ≤ n) (l bc g : Nat) (v : Value) (xs : List S48) (hS : Small xs) (w0 : World) (J Jx : List Int → World → Prop)
    (W : World) (hJ : AbidesFrom W.heap.size J)
    (hY : ∀ pre x W1, J pre W1 → pre.length < (plc xs).length → YieldAt Fence.wide (n - 1) Try.prog l #[.int .i64 x] W1 fun e W' =>
      (e = .returned (.bool true) ∧ J (pre ++ [x]) W' ∧ Kp48 W1 W') ∨ (e = .returned (.bool false) ∧ Jx (pre ++ [x]) W'))
    (hbc : W.cell? ⟨bc, 0, none⟩ = some (.pointer (some ⟨g, 0, none⟩))) (hCh : Chain w0 W g v xs) (h0 : J [] W) :
    CallsIn Fence.wide n Try.prog 24 #[.func (.yield l) #[] #[], .pointer (some ⟨bc, 0, none⟩)] W fun e W' => (∃ u, e = .returned u) ∧
      ((∃ ys, ys = plc xs ∧ J ys W') ∨ (∃ pre, pre <+: plc xs ∧ Jx pre W')) := by
  have HJ : Aside0 (∀ (s : List Int) (A B : World), J s A → Below A.heap.size A B → J s B) := ⟨fun s A B hs hb => hJ s A B none hs (grown_of_below hb none) (fun r e => by cases e)⟩
  have HY := Aside0.mk hY
  have HS := Aside0.mk hS
  have HCh := Aside0.mk hCh
  have H0 := Aside0.mk h0
  have hxl := hS.1
  clear hJ hY hS hCh h0
  refine callsIn_of_wp Try.func24 rfl trivial ?_ rfl
  simp only [Try.ntmps24, List.size_toArray, List.length_cons, List.length_nil, Nat.reduceAdd, Nat.reduceSub, Array.replicate_succ, Array.replicate_zero, List.push_toArray, List.append_toArray, List.nil_append, List.cons_append]
  gi_wp2_with (refine ⟨trivial, ?_⟩; gi_at_call 13; refine (callsIn_wide.2 (list_any g v xs w0 _ HCh.out (by omega))).mono ?_; rintro e w2 ⟨u, rfl, hR, hB⟩; obtain ⟨A, c, rfl⟩ := Kd.R_slice hR; have HR := Aside0.mk hR; have HJ2 := Aside0.mk (HJ.out _ _ _ H0.out hB); clear hR hB)

  gi_loopw [9] (fun i wr => ∃ k : Nat, k ≤ xs.length ∧ i = .int .i64 k ∧ Hid (J (plc (xs.take k)) wr) ∧ Hid (Kd.R k48 48 wr W.heap.size (fun _ => True) (.slice A xs.length c) xs))
    (fun i _ => xs.length - (intOf i).toNat)
  case atStart => exact ⟨0, Nat.zero_le _, rfl, HJ2.out, HR.out⟩
  case round =>
    obtain ⟨k, hk, rfl, HJs, HRs⟩ := hrel
    by_cases hlt : k < xs.length
    · obtain ⟨g2, c2, he2, _, _, _⟩ := Kd.R_form HRs.out (by omega)
      injection he2 with he2 _ hcc
      subst he2
      subst hcc
      obtain ⟨a0, a1, a2⟩ := row_at HRs.out k hlt
      obtain ⟨wo, ewo⟩ : ∃ wo : World, wo = wr := ⟨_, rfl⟩
      subst ewo
      have hz := HS.out.2 _ (getD_mem xs k hlt)
      obtain ⟨f1, hf1⟩ : ∃ f1, (xs.getD k z48).f1 = f1 := ⟨_, rfl⟩
      obtain ⟨f0, hf0⟩ : ∃ f0, (xs.getD k z48).f0 = f0 := ⟨_, rfl⟩
      rw [hf1] at a1 hz
      rw [hf0] at a0 hz
      have HF := Aside0.mk hf1
      have HF0 := Aside0.mk hf0
      clear hf1 hf0 a2
      gi_wp2
      have HXb : Hid ((wo.alloc (.cells #[.int .i64 f0, .int .i64 f1] 48)).heap[wo.heap.size]? = some (.cells #[.int .i64 f0, .int .i64 f1] 48 (0, 0))) := World.alloc_heap_new _ _
      have HRb : Hid (Kd.R k48 48 (wo.alloc (.cells #[.int .i64 f0, .int .i64 f1] 48)) W.heap.size (fun _ => True) (.slice (some ⟨g2, 0, none⟩) xs.length c) xs) := Kd.R_below HRs.out (below_alloc (Below.refl _ _) _)
      have HJb : Hid (J (come xs k 0) (wo.alloc (.cells #[.int .i64 f0, .int .i64 f1] 48))) := by
        show J _ _
        rw [come_zero]
        exact HJ.out _ _ _ HJs.out (below_alloc (Below.refl _ _) _)
      generalize hwb : wo.alloc (.cells #[.int .i64 f0, .int .i64 f1] 48) = wb at HXb HRb HJb ⊢
      obtain ⟨B, hB⟩ : ∃ B, wo.heap.size = B := ⟨_, rfl⟩
      simp only [hB] at HXb ⊢
      clear hwb hB a0 a1 HJs HRs
      gi_loopw [15] (fun i wr => ∃ j : Nat, (j : Int) ≤ f1 ∧ i = .int .i64 j ∧ Hid (J (come xs k j) wr) ∧ Hid (Kd.R k48 48 wr W.heap.size (fun _ => True) (.slice (some ⟨g2, 0, none⟩) xs.length c) xs) ∧ Hid (wr.heap[B]? = some (.cells #[.int .i64 f0, .int .i64 f1] 48 (0, 0))))
        (fun i _ => f1.toNat - (intOf i).toNat)
      case atStart => exact ⟨0, by omega, rfl, HJb, HRb, HXb⟩
      case round =>
        obtain ⟨j, hj, rfl, HJi, HRi, HXi⟩ := hrel
        obtain ⟨wi, ewi⟩ : ∃ wi : World, wi = wr := ⟨_, rfl⟩
        subst ewi
        by_cases hlj : (j : Int) < f1
        · have HS' := Aside0.mk (come_succ xs k j)
          obtain ⟨fn, tmps, assign, body, hy, hRr⟩ := HY.out (come xs k j) (f0 + (j : Int)) wi HJi.out (come_len xs HS.out k j hlt (by rw [HF.out]; exact hlj))
          have b0 : wi.cell? ⟨B, 0, none⟩ = some (.int .i64 f0) := by simp [World.cell?, HXi.out]
          gi_wp2
          refine hRr.mono ?_
          rintro e W3 (⟨rfl, hJ3, hk3⟩ | ⟨rfl, hJx3⟩)
          · gi_wp2
            go_roundw
            case rel => exact ⟨j + 1, by omega, by simp, by show J _ _; rw [HS'.out, HF0.out]; exact hJ3, row_kept HRi.out hk3, hk3 _ _ HXi.out⟩
            case measure => simp [intOf]; omega
          · gi_wp2
            refine bodyPost_ret (results_none rfl _ _ _) rfl ?_
            exact ⟨⟨_, rfl⟩, .inr ⟨_, by rw [← HF0.out, ← come_succ]; exact come_pre xs k (j + 1) hlt (by have := HF.out; omega), hJx3⟩⟩
        · have hje : (j : Int) = f1 := by omega
          have HJE := Aside0.mk hje
          gi_wp2
          refine ⟨⟨k + 1, by omega, by simp, ?_, ?_⟩, by simp [intOf]; omega⟩
          · show J _ _
            rw [← come_full xs k hlt, HF.out, ← HJE.out, Int.toNat_natCast]
            exact HJi.out
          · exact HRi
    · have hkx : k = xs.length := by omega
      have HK := Aside0.mk hkx
      gi_wp2
      go_end0
      exact ⟨⟨_, rfl⟩, .inl ⟨_, rfl, by have h1 := HJs.out; rw [HK.out, List.take_length] at h1; exact h1⟩⟩
end Go.Proofs.Ytlgjicjofhmegaa.Ch
