/- ChainLocates: for every input the law returns true, and its arguments read behind the call as they read before. No condition. -/
import Derived.Test.YtlgjicjofhmegaaRows
import Derived.Test.YtlgjicjofhmegaaLocates
import Derived.WalkKit
import Derived.ProofKit
import Derived.OpenShut
import Derived.ShutString
import Derived.ChangeOld
import Derived.Below
import Derived.SizedLaws
import Derived.Deep.Slices
import Derived.Lib.SmallJoins
namespace Go.Proofs.Ytlgjicjofhmegaa.chainLocates
open Go.ChangeShapes Go.WideShapes Go.ChangeAt Go.RowKit Go.Joins Go.Deep Go.Proofs.Ytlgjicjofhmegaa.Ch Go.Proofs.Ytlgjicjofhmegaa.PChainLocates Go.Proofs.YtlgjicjofhmegaaW.PrintWords
set_option linter.unusedVariables false
theorem own : ownKnob Try.prog.godebug = none := by kernel_rfl
theorem laidOut : laidOutB Try.prog = true := by kernel_rfl
theorem cells48 : Try.prog.cellsOf 48 = 2 := by kernel_rfl
theorem cells3 : Try.prog.cellsOf 3 = 1 := by kernel_rfl

section
variable {H : Type} {enc : TypeId × Value → H} {W : World} {base : Nat} {spare : Nat → Bool} {held : Bool} {fuel : Nat}
/-- A slice of spans that came in: its list. -/
theorem open_spans {A : Option Addr} {len cap : Nat} {x : DataW H × List MemPlace} (h : DataW.trod enc Try.prog W base spare held fuel 22 [.slice A len cap] = some x) :
    ∃ l : List S48, l.length = len ∧ len ≤ cap ∧ Kd.C k48 W A l.length l := by
  rcases open_slice Try.underlying22 h with ⟨hcs, _⟩ | ⟨a, ln, c, m, n, D, Pl, hcs, hb, hl, hm, hmm, hx, hi⟩
  · simp only [List.cons.injEq, Value.slice.injEq, and_true] at hcs
    obtain ⟨rfl, rfl, rfl⟩ := hcs
    exact ⟨[], rfl, Nat.le_refl _, Kd.C_nil _ _⟩
  · simp only [List.cons.injEq, Value.slice.injEq, and_true] at hcs
    obtain ⟨rfl, rfl, rfl⟩ := hcs
    have hlm : len ≤ m := by rw [hmm]; split <;> omega
    have hall : ∀ i, i < len → ∃ p : Int × Int, W.cell? (a.add (i * 2 + 0)) = some (.int .i64 p.1) ∧ W.cell? (a.add (i * 2 + 1)) = some (.int .i64 p.2) := by
      intro i hil
      obtain ⟨cs', hc, ht⟩ := hi i (by omega)
      rw [cells48] at hc
      obtain ⟨_, hcl, hat⟩ := World.cells?_some hc
      obtain ⟨y0, y1, n', _, _, f0, f1⟩ := trod_struct2 Try.underlying48 ht
      match cs', hcl with
      | [c0, c1], _ =>
        obtain ⟨u, hu, _, _⟩ := DataW.trod_int Try.underlying3 f0
        obtain ⟨v, hv, _, _⟩ := DataW.trod_int Try.underlying3 f1
        have hu' : c0 = .int .i64 u := by simpa [cells3] using hu
        have hv' : c1 = .int .i64 v := by simpa [cells3] using hv
        subst hu' hv'
        have h0 := hat 0 (by omega)
        have h1 := hat 1 (by omega)
        rw [Deep.add_add] at h0 h1
        exact ⟨(u, v), h0, h1⟩
    obtain ⟨f, hf⟩ := choose_lt hall
    refine ⟨(List.range len).map fun i => ⟨(f i).1, (f i).2⟩, by simp, by omega, ?_⟩
    refine ⟨by simp, by simp; unfold maxLen at hm; omega, fun _ => ⟨a, rfl, fun j p hj => ?_⟩⟩
    rw [List.getElem?_map] at hj
    obtain ⟨j', hj', rfl⟩ := Option.map_eq_some_iff.1 hj
    obtain ⟨hjl, rfl⟩ : j < len ∧ j = j' := by
      have h1 := List.getElem?_eq_some_iff.1 hj'
      obtain ⟨h2, h3⟩ := h1
      rw [List.length_range] at h2
      rw [List.getElem_range] at h3
      exact ⟨h2, h3⟩
    obtain ⟨h0, h1⟩ := hf j hjl
    refine ⟨[.int .i64 (f j).1, .int .i64 (f j).2], rfl, k48_mk _ ⟨(f j).1, (f j).2⟩, fun i u hu => ?_⟩
    match i, hu with
    | 0, hu => have e : u = .int .i64 (f j).1 := by simpa using hu.symm
               subst e; exact h0
    | 1, hu => have e : u = .int .i64 (f j).2 := by simpa using hu.symm
               subst e; exact h1
    | n + 2, hu => simp at hu
end

set_option maxRecDepth 100000 in
theorem lifted (os : Os) (started : os.Started) (H : Type) (enc : TypeId × Value → H) :
    ReturnsInHanded {} Try.checked os 3 .any (Rows.chainLocatesSpec.pre6 enc Try.prog Try.f3 Rows.chainLocatesRow.domain false) (Rows.chainLocatesSpec.post enc Try.prog Try.f3 false true false false) := by
  refine returnsInHanded_of_change_sized (C := Try.checked) own started (by kernel_rfl) Try.func3
    (ChangeSpec.witness6 (enc := enc) (C := Try.checked) false ⟨#[], #[.slice none 0 0, .int .i64 0, .int .i64 0], []⟩ 8 (by kernel_rfl) (by kernel_rfl) (by kernel_rfl) (by kernel_rfl)) ?_
  intro W base args ds gs before hval0 hW hcnd hsz0 _
  have hval : ∀ (j : Nat) t v, Try.f3.params[j]? = some t → args[j]? = some v → Value.okWide Try.prog W .any base t v := hval0
  have hW' := hW
  obtain ⟨p, q, hA0, hV, rfl, hfz, hnd⟩ := hW
  have hA : DataW.TrodAll enc Try.prog W 0 (fun _ => true) true Try.f3.params.toList args.toList ds p := hA0
  rw [Try.params3] at hA hval
  obtain ⟨v0, vs0, d0, ds0, p0, q0, hargs, rfl, rfl, h0, r0⟩ := trodAll_cons hA
  obtain ⟨v1, vs1, d1, ds1, p1, q1, rfl, rfl, rfl, h1, r1⟩ := trodAll_cons r0
  obtain ⟨v2, vs2, d2, ds2, p2, q2, rfl, rfl, rfl, h2, r2⟩ := trodAll_cons r1
  obtain ⟨rfl, rfl, rfl⟩ := trodAll_nil r2
  obtain rfl : args = #[v0, v1, v2] := by cases args; simp_all
  obtain ⟨rfl, rfl⟩ := trodVars_none hV
  have k0 := h0
  have lt0 : ∀ x ∈ p0, x.block < W.heap.size := by obtain ⟨m, hm⟩ := k0; exact DataW.trod_lt m _ _ _ hm
  obtain ⟨A, len, cap, rfl⟩ := okWide_slice Try.underlying22 (hval 0 22 v0 rfl rfl)
  obtain ⟨l, hl, hlc, hC⟩ : ∃ l : List S48, l.length = len ∧ len ≤ cap ∧ Kd.C k48 W A l.length l := by
    obtain ⟨fuel, hf⟩ := h0
    exact open_spans (by simpa [Value.cells] using hf)
  obtain ⟨a1, rfl, rfl, rfl, w1⟩ := open_int Try.underlying3 (hval 1 3 v1 rfl rfl) h1
  obtain ⟨a2, rfl, rfl, rfl, w2⟩ := open_int Try.underlying3 (hval 2 3 v2 rfl rfl) h2
  clear hA0 hval0 hsz0
  subst hl
  refine (locates_law A cap l a1 a2 W hC hlc).mono fun e W' ⟨he, bel⟩ => ?_
  subst he
  exact ⟨_, rfl, _, _, _, [], _, [], hW', trodAll_mk1 (shut_bool Try.underlying4 _), (trodAll_cons_mk (Below.trod laidOut (by kernel_rfl) (of_decide_eq_true (by kernel_rfl)) k0 bel lt0) (trodAll_cons_mk (shut_int Try.underlying3 w1) (trodAll_cons_mk (shut_int Try.underlying3 w2) trodAll_mk0))), rfl, bel.frame _, fun h => by cases h⟩
theorem over : Rows.chainLocatesRow.holds Try.pinned (OpenSpec.ofChange Rows.chainLocatesSpec) :=
  OpenClaim.holds_of_wide 3 Try.f3 rfl rfl rfl rfl rfl rfl rfl ⟨rfl, rfl, rfl, rfl, rfl⟩ rfl rfl rfl rfl rfl (by kernel_rfl) Try.func3 (by kernel_rfl)
    (of_decide_eq_true (by kernel_rfl)) (by unfold Func.isWrapper; first | (rw [if_pos (by decide +kernel)]; kernel_rfl) | (rw [if_neg (by decide +kernel)]; exact ⟨rfl, rfl⟩))
    (fun os started H enc _ => lifted os started H enc)
theorem proved : Rows.ChainLocatesSaid := over
end Go.Proofs.Ytlgjicjofhmegaa.chainLocates
namespace Go.Proofs.Ytlgjicjofhmegaa
/-- The row, under a short name, for the claim. -/
theorem chainLocates_holds : Rows.ChainLocatesSaid := chainLocates.proved
#print axioms chainLocates_holds
end Go.Proofs.Ytlgjicjofhmegaa
