/- Contracts of package chain's methods over a chain that the call itself made: End, Append. Conditions: as each theorem says (places and lengths small enough that no sum wraps). -/
import Derived.Test.YtlgjicjofhmegaaFns1
import Derived.Test.YtlgjicjofhmegaaFns2
import Derived.Test.YtlgjicjofhmegaaFns3
import Derived.RegionTactic
import Derived.BigRegion
import Derived.Deep.RegionHeld3
import Derived.Lib.Hide
namespace Go.Proofs.Ytlgjicjofhmegaa.Ch
open Go.RowKit Go.Proofs.Ytlgjicjofhmegaa.PChainLocates Go.Proofs.YtlgjicjofhmegaaW.PrintWords Go.Proofs.YtlgjicjofhmegaaW.PrintLast Go.Proofs.YtlgjicjofhmegaaW.PrintMore
attribute [local go_sem] max2_int min2_int max_two min_two
set_option linter.unusedVariables false
set_option linter.unusedSimpArgs false

theorem wrap_in {n : Int} (h0 : -9223372036854775808 ≤ n) (h1 : n ≤ 9223372036854775807) : wrap64 n = n := by
  unfold wrap64
  omega
theorem info48 : (Try.prog.info? 48).map (fun i => (i.zero, i.size, i.bytes)) = some (some (.agg #[.int .i64 0, .int .i64 0]), 2, 16) := by kernel_rfl

/-- A chain of the call's own at block g: its list is v, which holds xs. -/
structure Chain (w0 W : World) (g : Nat) (v : Value) (xs : List S48) : Prop where
  blk : W.heap[g]? = some (.cells #[v] 51 (0, 0))
  new : w0.heap.size ≤ g
  row : Kd.R k48 48 W w0.heap.size (fun _ => True) v xs
  below : Below w0.heap.size w0 W

section
variable {w0 W W1 : World} {g : Nat} {v : Value} {xs : List S48}
theorem Chain.step (h : Chain w0 W g v xs) (hb : Below W.heap.size W W1) : Chain w0 W1 g v xs :=
  ⟨(hb.block _ (blk_lt h.blk)).trans h.blk, h.new, Kd.R_below h.row hb, h.below.trans (hb.mono h.below.size)⟩
theorem Chain.cell (h : Chain w0 W g v xs) : W.cell? ⟨g, 0, none⟩ = some v ∧ W.frozen? ⟨g, 0, none⟩ = false := ⟨blk_cell h.blk 0, blk_frozen h.blk 0⟩
/-- Element i of an owned row, in memory. -/
theorem row_at {r n cap : Nat} {b : Nat} {ok : Nat → Prop} (h : Kd.R k48 48 W b ok (.slice (some ⟨r, 0, none⟩) n cap) xs) (i : Nat) (hi : i < n) :
    W.cell? ⟨r, i * 2, none⟩ = some (.int .i64 (xs.getD i z48).f0) ∧ W.cell? ⟨r, i * 2 + 1, none⟩ = some (.int .i64 (xs.getD i z48).f1) ∧ W.frozen? ⟨r, i * 2 + 1, none⟩ = false := by
  obtain ⟨c, _, hM, hc, hf⟩ := Kd.R_elem h z48 (i : Int) (by omega) (by omega)
  rw [Int.toNat_natCast] at hM hc hf
  obtain rfl := k48_openM hM
  exact ⟨hc 0 _ rfl, hc 1 _ rfl, hf 1⟩
/-- A chain that is not empty: its list lies in a row. -/
theorem Chain.form (h : Chain w0 W g v xs) (hp : 0 < xs.length) : ∃ r cap, v = .slice (some ⟨r, 0, none⟩) xs.length cap := by
  obtain ⟨r, cap, he, _⟩ := Kd.R_form h.row hp
  exact ⟨r, cap, he⟩
end

theorem end_nil (g : Nat) (A : Option Addr) (cap : Nat) (W : World) (hc : W.cell? ⟨g, 0, none⟩ = some (.slice A 0 cap)) :
    Calls Try.prog 15 #[.pointer (some ⟨g, 0, none⟩)] W fun e w' => e = .returned (.int .i64 (-1)) ∧ Below W.heap.size W w' := by
  go_enter Try.func15, Try.ntmps15
  go_wp2
  go_ret
  exact ⟨rfl, Below.refl _ _⟩

theorem span_end (a b : Int) (W : World) (h0 : 0 ≤ a) (h1 : a ≤ 4398046511104) (h2 : 0 ≤ b) (h3 : b ≤ 4398046511104) :
    Calls Try.prog 23 #[.agg #[.int .i64 a, .int .i64 b]] W fun e w' => e = .returned (.int .i64 (a + b)) ∧ Below W.heap.size W w' := by
  refine spans_Span_End.calls a b _ W ?_
  unfold spans_Span_End.f
  rw [wrap_in (by omega) (by omega)]

set_option maxRecDepth 100000 in
theorem end_some (g r m L cap : Nat) (a b : Int) (W : World) (hc : W.cell? ⟨g, 0, none⟩ = some (.slice (some ⟨r, 0, none⟩) L cap)) (hx0 : W.cell? ⟨r, m * 2, none⟩ = some (.int .i64 a)) (hx1 : W.cell? ⟨r, m * 2 + 1, none⟩ = some (.int .i64 b))
    (hL : m + 1 = L) (hm : m ≤ 1000000) (h0 : 0 ≤ a) (h1 : a ≤ 4398046511104) (h2 : 0 ≤ b) (h3 : b ≤ 4398046511104) :
    Calls Try.prog 15 #[.pointer (some ⟨g, 0, none⟩)] W fun e w' => e = .returned (.int .i64 (a + b)) ∧ Below W.heap.size W w' := by
  have hw : IntKind.i64.wrap ((L : Int) - 1) = (m : Int) := by rw [IntWalk.i64_in _ (by omega)]; omega
  have hm0 : (0 : Int) ≤ (m : Int) := by omega
  have hm1 : (m : Int) < (L : Int) := by omega
  have hl0 : ((L : Int) == 0) = false := by rw [beq_eq_false_iff_ne]; omega
  clear hL
  go_enter Try.func15, Try.ntmps15
  go_wp2_with fail
  go_region_held3 (fun w' => w'.cell? ⟨g, 0, none⟩ = some (.slice (some ⟨r, 0, none⟩) L cap) ∧ w'.cell? ⟨r, m * 2, none⟩ = some (.int .i64 a) ∧ w'.cell? ⟨r, m * 2 + 1, none⟩ = some (.int .i64 b))
    (first | go_keep)
    (first | (go_at_call 23; refine (span_end a b _ h0 h1 h2 h3).mono ?_; rintro e w5 ⟨rfl, hb⟩; have t0 := (hb.cell (World.block_lt_of_cell? _ _ hc)).trans hc; have t1 := (hb.cell (World.block_lt_of_cell? _ _ hx0)).trans hx0; have t2 := (hb.cell (World.block_lt_of_cell? _ _ hx1)).trans hx1; have HB := Aside0.mk hb; clear hb))
  go_wp2
  go_ret
  exact ⟨rfl, (below_drew (Below.refl _ _)).trans HB.out⟩

theorem append_skip (p : Option Addr) (x0 x1 : Int) (W : World) (h : x1 < 1) :
    Calls Try.prog 21 #[.pointer p, .agg #[.int .i64 x0, .int .i64 x1]] W fun e w' => e = .returned (.tuple #[]) ∧ Below W.heap.size W w' := by
  go_enter Try.func21, Try.ntmps21
  go_wp2
  refine bodyPost_ret (results_none rfl _ _ _) rfl ?_
  exact ⟨rfl, below_alloc (Below.refl _ _) _⟩

set_option maxRecDepth 100000 in
set_option maxHeartbeats 1000000 in
theorem append_join (g r m L cap : Nat) (z0 z1 x0 x1 : Int) (W : World) (hc : W.cell? ⟨g, 0, none⟩ = some (.slice (some ⟨r, 0, none⟩) L cap)) (hz0 : W.cell? ⟨r, m * 2, none⟩ = some (.int .i64 z0)) (hz1 : W.cell? ⟨r, m * 2 + 1, none⟩ = some (.int .i64 z1)) (hf1 : W.frozen? ⟨r, m * 2 + 1, none⟩ = false)
    (hL : m + 1 = L) (hm : m ≤ 1000000) (h0 : 0 ≤ z0) (h1 : z0 ≤ 4398046511104) (h2 : 0 ≤ z1) (h3 : z1 ≤ 1000000) (h4 : 1 ≤ x1) (h5 : x1 ≤ 1000000) (hx : z0 + z1 = x0) :
    Calls Try.prog 21 #[.pointer (some ⟨g, 0, none⟩), .agg #[.int .i64 x0, .int .i64 x1]] W fun e w' => e = .returned (.tuple #[]) ∧ ∃ W1, Below W.heap.size W W1 ∧ w' = W1.setCell ⟨r, m * 2 + 1, none⟩ (.int .i64 (z1 + x1)) := by
  have hw : IntKind.i64.wrap ((L : Int) - 1) = (m : Int) := by rw [IntWalk.i64_in _ (by omega)]; omega
  have hm0 : (0 : Int) ≤ (m : Int) := by omega
  have hm1 : (m : Int) < (L : Int) := by omega
  have hl0 : decide (0 < (L : Int)) = true := decide_eq_true (by omega)
  have hl1 : decide (0 < L) = true := decide_eq_true (by omega)
  have hw2 : IntKind.i64.wrap (z1 + x1) = z1 + x1 := IntWalk.i64_in _ (by omega)
  have he : (z0 + z1 == x0) = true := beq_iff_eq.mpr hx
  have HL := Aside0.mk hL
  clear hL hx
  go_enter Try.func21, Try.ntmps21
  go_wp2_with fail
  have HB1 : Aside0 (Below W.heap.size W (W.alloc (.cells #[.int .i64 x0, .int .i64 x1] 48))) := ⟨below_alloc (Below.refl _ _) _⟩
  have hx0 : (W.alloc (.cells #[.int .i64 x0, .int .i64 x1] 48)).cell? ⟨W.heap.size, 0, none⟩ = some (.int .i64 x0) := blk_cell (heap_alloc_new W _) 0
  have hx1 : (W.alloc (.cells #[.int .i64 x0, .int .i64 x1] 48)).cell? ⟨W.heap.size, 1, none⟩ = some (.int .i64 x1) := blk_cell (heap_alloc_new W _) 1
  replace hc := (HB1.out.cell (World.block_lt_of_cell? _ _ hc)).trans hc
  replace hf1 := (HB1.out.frozen (World.block_lt_of_cell? _ _ hz1)).trans hf1
  replace hz0 := (HB1.out.cell (World.block_lt_of_cell? _ _ hz0)).trans hz0
  replace hz1 := (HB1.out.cell (World.block_lt_of_cell? _ _ hz1)).trans hz1
  obtain ⟨b, hb⟩ : ∃ b, W.heap.size = b := ⟨_, rfl⟩
  obtain ⟨W1, hW1⟩ : ∃ W1, W.alloc (.cells #[.int .i64 x0, .int .i64 x1] 48) = W1 := ⟨_, rfl⟩
  rw [hW1] at HB1 hx0 hx1 hc hf1 hz0 hz1 ⊢
  rw [hb] at hx0 hx1 ⊢
  have HHB := Aside0.mk hb
  clear hW1 hb
  go_region_held3 (fun w' => w'.cell? ⟨g, 0, none⟩ = some (.slice (some ⟨r, 0, none⟩) L cap) ∧ w'.cell? ⟨b, 0, none⟩ = some (.int .i64 x0))
    (first | go_keep)
    (first | (go_at_call 15; refine (end_some g r m L cap z0 z1 W1.drew hc hz0 hz1 HL.out hm h0 h1 h2 (by omega)).mono ?_; rintro e w5 ⟨rfl, hb⟩; have t0 := (hb.cell (World.block_lt_of_cell? _ _ hc)).trans hc; have t1 := (hb.cell (World.block_lt_of_cell? _ _ hx0)).trans hx0; have HB := Aside0.mk ((below_drew (Below.refl W1.heap.size W1)).trans hb); clear hb))
  replace hx1 := (HB.out.cell (World.block_lt_of_cell? _ _ hx1)).trans hx1
  replace hf1 := (HB.out.frozen (World.block_lt_of_cell? _ _ hz1)).trans hf1
  replace hz1 := (HB.out.cell (World.block_lt_of_cell? _ _ hz1)).trans hz1
  clear hc hx0 hz0
  have hc := t0
  have hx0 := t1
  clear t0 t1
  go_wp2_with fail
  refine start_ (n := 19) (S := fun w' => w'.cell? ⟨g, 0, none⟩ = some (.slice (some ⟨r, 0, none⟩) L cap) ∧ w'.cell? ⟨r, m * 2 + 1, none⟩ = some (.int .i64 z1) ∧ w'.cell? ⟨b, 1, none⟩ = some (.int .i64 x1)) (ds := [18]) #[false, false, false, false, false, false, false, false, false, false, false, false, false, false, false, false, false, false, false] (by kernel_rfl) rfl rfl ⟨hc, hz1, hx1⟩ (fun hHeld => ?_)
  refine pure_ (i := 0) (N := some 20) (v := ?_) (a' := ?_) #[true, false, false, false, false, false, false, false, false, false, false, false, false, false, false, false, false, false, false] rfl rfl (by kernel_rfl) (fun _ _ _ h => h) (Or.inl ⟨by rfl, ?_⟩) ?_ ?_
  rotate_left
  · intro w'
    go_simp
    with_reducible rfl
  rotate_left
  · simp only [Act.put, List.setIfInBounds_toArray, List.set_cons_zero, List.set_cons_succ, i64_w, i32_w]
    rfl
  refine pure_ (i := 1) (N := some 21) (v := ?_) (a' := ?_) #[true, true, false, false, false, false, false, false, false, false, false, false, false, false, false, false, false, false, false] rfl rfl (by kernel_rfl) (fun _ _ _ h => h) (Or.inl ⟨by rfl, ?_⟩) ?_ ?_
  rotate_left
  · intro w'
    go_simp
    with_reducible rfl
  rotate_left
  · simp only [Act.put, List.setIfInBounds_toArray, List.set_cons_zero, List.set_cons_succ, i64_w, i32_w]
    rfl
  refine pure_ (i := 2) (N := some 22) (v := ?_) (a' := ?_) #[true, true, true, false, false, false, false, false, false, false, false, false, false, false, false, false, false, false, false] rfl rfl (by kernel_rfl) (fun _ _ _ h => h) (Or.inl ⟨by rfl, ?_⟩) ?_ ?_
  rotate_left
  · intro w'
    go_simp
    with_reducible rfl
  rotate_left
  · simp only [Act.put, List.setIfInBounds_toArray, List.set_cons_zero, List.set_cons_succ, i64_w, i32_w]
    rfl
  refine pure_ (i := 4) (N := some 24) (v := ?_) (a' := ?_) #[true, true, true, false, true, false, false, false, false, false, false, false, false, false, false, false, false, false, false] rfl rfl (by kernel_rfl) (fun _ _ _ h => h) (Or.inl ⟨by rfl, ?_⟩) ?_ ?_
  rotate_left
  · intro w'
    go_simp
    with_reducible rfl
  rotate_left
  · simp only [Act.put, List.setIfInBounds_toArray, List.set_cons_zero, List.set_cons_succ, i64_w, i32_w]
    rfl
  refine pure_ (i := 5) (N := some 25) (v := ?_) (a' := ?_) #[true, true, true, false, true, true, false, false, false, false, false, false, false, false, false, false, false, false, false] rfl rfl (by kernel_rfl) (fun _ _ _ h => h) (Or.inl ⟨by rfl, ?_⟩) ?_ ?_
  rotate_left
  · intro w'
    go_simp
    with_reducible rfl
  rotate_left
  · simp only [Act.put, List.setIfInBounds_toArray, List.set_cons_zero, List.set_cons_succ, i64_w, i32_w]
    rfl
  refine pure_ (i := 6) (N := some 26) (v := ?_) (a' := ?_) #[true, true, true, false, true, true, true, false, false, false, false, false, false, false, false, false, false, false, false] rfl rfl (by kernel_rfl) (fun _ _ _ h => h) (Or.inl ⟨by rfl, ?_⟩) ?_ ?_
  rotate_left
  · intro w'
    go_simp
    with_reducible rfl
  rotate_left
  · simp only [Act.put, List.setIfInBounds_toArray, List.set_cons_zero, List.set_cons_succ, i64_w, i32_w]
    rfl
  refine pure_ (i := 13) (N := some 33) (v := ?_) (a' := ?_) #[true, true, true, false, true, true, true, false, false, false, false, false, false, true, false, false, false, false, false] rfl rfl (by kernel_rfl) (fun _ _ _ h => h) (Or.inl ⟨by rfl, ?_⟩) ?_ ?_
  rotate_left
  · intro w'
    go_simp
    with_reducible rfl
  rotate_left
  · simp only [Act.put, List.setIfInBounds_toArray, List.set_cons_zero, List.set_cons_succ, i64_w, i32_w]
    rfl
  refine take_ (i := 3) (N := some 23) (v := ?_) (a' := ?_) #[true, true, true, true, true, true, true, false, false, false, false, false, false, true, false, false, false, false, false] rfl rfl (by kernel_rfl) (fun _ _ _ h => h) (Or.inl ⟨by rfl, ?_⟩) hHeld ?_ ?_
  rotate_left
  · rintro w' ⟨s0, s1, s2⟩
    go_simp
    with_reducible rfl
  rotate_left
  · simp only [Act.put, List.setIfInBounds_toArray, List.set_cons_zero, List.set_cons_succ, i64_w, i32_w]
    rfl
  refine take_ (i := 7) (N := some 27) (v := ?_) (a' := ?_) #[true, true, true, true, true, true, true, true, false, false, false, false, false, true, false, false, false, false, false] rfl rfl (by kernel_rfl) (fun _ _ _ h => h) (Or.inl ⟨by rfl, ?_⟩) hHeld ?_ ?_
  rotate_left
  · rintro w' ⟨s0, s1, s2⟩
    go_simp
    with_reducible rfl
  rotate_left
  · simp only [Act.put, List.setIfInBounds_toArray, List.set_cons_zero, List.set_cons_succ, i64_w, i32_w]
    rfl
  refine pure_ (i := 8) (N := some 28) (v := ?_) (a' := ?_) #[true, true, true, true, true, true, true, true, true, false, false, false, false, true, false, false, false, false, false] rfl rfl (by kernel_rfl) (fun _ _ _ h => h) (Or.inl ⟨by rfl, ?_⟩) ?_ ?_
  rotate_left
  · intro w'
    go_simp
    with_reducible rfl
  rotate_left
  · simp only [Act.put, List.setIfInBounds_toArray, List.set_cons_zero, List.set_cons_succ, i64_w, i32_w]
    rfl
  refine pure_ (i := 9) (N := some 29) (v := ?_) (a' := ?_) #[true, true, true, true, true, true, true, true, true, true, false, false, false, true, false, false, false, false, false] rfl rfl (by kernel_rfl) (fun _ _ _ h => h) (Or.inl ⟨by rfl, ?_⟩) ?_ ?_
  rotate_left
  · intro w'
    go_simp
    with_reducible rfl
  rotate_left
  · simp only [Act.put, List.setIfInBounds_toArray, List.set_cons_zero, List.set_cons_succ, i64_w, i32_w]
    rfl
  refine pure_ (i := 10) (N := some 30) (v := ?_) (a' := ?_) #[true, true, true, true, true, true, true, true, true, true, true, false, false, true, false, false, false, false, false] rfl rfl (by kernel_rfl) (fun _ _ _ h => h) (Or.inl ⟨by rfl, ?_⟩) ?_ ?_
  rotate_left
  · intro w'
    go_simp
    with_reducible rfl
  rotate_left
  · simp only [Act.put, List.setIfInBounds_toArray, List.set_cons_zero, List.set_cons_succ, i64_w, i32_w]
    rfl
  refine pure_ (i := 11) (N := some 31) (v := ?_) (a' := ?_) #[true, true, true, true, true, true, true, true, true, true, true, true, false, true, false, false, false, false, false] rfl rfl (by kernel_rfl) (fun _ _ _ h => h) (Or.inl ⟨by rfl, ?_⟩) ?_ ?_
  rotate_left
  · intro w'
    go_simp
    with_reducible rfl
  rotate_left
  · simp only [Act.put, List.setIfInBounds_toArray, List.set_cons_zero, List.set_cons_succ, i64_w, i32_w]
    rfl
  refine take_ (i := 12) (N := some 32) (v := ?_) (a' := ?_) #[true, true, true, true, true, true, true, true, true, true, true, true, true, true, false, false, false, false, false] rfl rfl (by kernel_rfl) (fun _ _ _ h => h) (Or.inl ⟨by rfl, ?_⟩) hHeld ?_ ?_
  rotate_left
  · rintro w' ⟨s0, s1, s2⟩
    go_simp
    with_reducible rfl
  rotate_left
  · simp only [Act.put, List.setIfInBounds_toArray, List.set_cons_zero, List.set_cons_succ, i64_w, i32_w]
    rfl
  refine take_ (i := 14) (N := some 34) (v := ?_) (a' := ?_) #[true, true, true, true, true, true, true, true, true, true, true, true, true, true, true, false, false, false, false] rfl rfl (by kernel_rfl) (fun _ _ _ h => h) (Or.inl ⟨by rfl, ?_⟩) hHeld ?_ ?_
  rotate_left
  · rintro w' ⟨s0, s1, s2⟩
    go_simp
    with_reducible rfl
  rotate_left
  · simp only [Act.put, List.setIfInBounds_toArray, List.set_cons_zero, List.set_cons_succ, i64_w, i32_w]
    rfl
  refine pure_ (i := 15) (N := some 35) (v := ?_) (a' := ?_) #[true, true, true, true, true, true, true, true, true, true, true, true, true, true, true, true, false, false, false] rfl rfl (by kernel_rfl) (fun _ _ _ h => h) (Or.inl ⟨by rfl, ?_⟩) ?_ ?_
  rotate_left
  · intro w'
    go_simp
    with_reducible rfl
  rotate_left
  · simp only [Act.put, List.setIfInBounds_toArray, List.set_cons_zero, List.set_cons_succ, i64_w, i32_w]
    rfl
  refine pure_ (i := 16) (N := some 36) (v := ?_) (a' := ?_) #[true, true, true, true, true, true, true, true, true, true, true, true, true, true, true, true, true, false, false] rfl rfl (by kernel_rfl) (fun _ _ _ h => h) (Or.inl ⟨by rfl, ?_⟩) ?_ ?_
  rotate_left
  · intro w'
    go_simp
    with_reducible rfl
  rotate_left
  · simp only [Act.put, List.setIfInBounds_toArray, List.set_cons_zero, List.set_cons_succ, i64_w, i32_w]
    rfl
  refine pure_ (i := 17) (N := some 37) (v := ?_) (a' := ?_) #[true, true, true, true, true, true, true, true, true, true, true, true, true, true, true, true, true, true, false] rfl rfl (by kernel_rfl) (fun _ _ _ h => h) (Or.inl ⟨by rfl, ?_⟩) ?_ ?_
  rotate_left
  · intro w'
    go_simp
    with_reducible rfl
  rotate_left
  · simp only [Act.put, List.setIfInBounds_toArray, List.set_cons_zero, List.set_cons_succ, i64_w, i32_w]
    rfl
  refine last_ (i := 18) (N := none) #[true, true, true, true, true, true, true, true, true, true, true, true, true, true, true, true, true, true, true] rfl rfl (by kernel_rfl) (by decide) (fun K hK => ?_)
  refine skip_ (w1 := ?_) (by rfl) rfl ?_ ?_
  rotate_left
  · go_simp
    rfl
  refine hK.out _ _ ?_
  clear hK K
  refine done_ (by kernel_rfl) ?_

  go_wp2
  refine bodyPost_ret (results_none rfl _ _ _) rfl ?_
  exact ⟨rfl, w5.drew, below_drew (HB1.out.trans (HB.out.mono HB1.out.size)), rfl⟩

/-- What an append that makes a span more leaves. -/
def Pushed (w0 W W' : World) (g : Nat) (v : Value) (ys : List S48) : Prop :=
  ∃ v' W1 W2, Below W.heap.size W W1 ∧ W1.grownBy W2 v.ownBlock ∧ Kd.R k48 48 W2 w0.heap.size (fun _ => True) v' ys ∧ Below w0.heap.size w0 W2 ∧ W' = W2.setCell ⟨g, 0, none⟩ v'

set_option maxRecDepth 100000 in
set_option maxHeartbeats 2000000 in
theorem append_more (g r m L cap : Nat) (z0 z1 x0 x1 : Int) (xs : List S48) (w0 W : World) (h : Chain w0 W g (.slice (some ⟨r, 0, none⟩) L cap) xs) (hz0 : W.cell? ⟨r, m * 2, none⟩ = some (.int .i64 z0)) (hz1 : W.cell? ⟨r, m * 2 + 1, none⟩ = some (.int .i64 z1))
    (hL : m + 1 = L) (hm : m ≤ 1000000) (h0 : 0 ≤ z0) (h1 : z0 ≤ 4398046511104) (h2 : 0 ≤ z1) (h3 : z1 ≤ 1000000) (h4 : 1 ≤ x1) (hx : z0 + z1 ≠ x0) :
    Calls Try.prog 21 #[.pointer (some ⟨g, 0, none⟩), .agg #[.int .i64 x0, .int .i64 x1]] W fun e w' => e = .returned (.tuple #[]) ∧ Pushed w0 W w' g (.slice (some ⟨r, 0, none⟩) L cap) (xs ++ [⟨x0, x1⟩]) := by
  obtain ⟨hc, hcf⟩ := h.cell
  have hlen := (Kd.R_reads' h.row).1
  have hxl : xs.length ≤ 1000001 := by omega
  have hgb : some g ≠ (Value.slice (some ⟨r, 0, none⟩) L cap).ownBlock := Kd.R_ne h.row h.blk (by decide)
  have hrl := Kd.R_lt h.row r (by simp [Value.ownBlock])
  have HG := Aside0.mk hgb
  have HC := Aside0.mk h
  clear h hgb hlen
  have hl0 : decide (0 < (L : Int)) = true := decide_eq_true (by omega)
  have hl1 : decide (0 < L) = true := decide_eq_true (by omega)
  have he : (z0 + z1 == x0) = false := beq_eq_false_iff_ne.mpr hx
  have HL := Aside0.mk hL
  clear hL hx
  go_enter Try.func21, Try.ntmps21
  go_wp2_with fail
  have HB1 : Aside0 (Below W.heap.size W (W.alloc (.cells #[.int .i64 x0, .int .i64 x1] 48))) := ⟨below_alloc (Below.refl _ _) _⟩
  have hx0 : (W.alloc (.cells #[.int .i64 x0, .int .i64 x1] 48)).cell? ⟨W.heap.size, 0, none⟩ = some (.int .i64 x0) := blk_cell (heap_alloc_new W _) 0
  have hx1 : (W.alloc (.cells #[.int .i64 x0, .int .i64 x1] 48)).cell? ⟨W.heap.size, 1, none⟩ = some (.int .i64 x1) := blk_cell (heap_alloc_new W _) 1
  replace hcf := (HB1.out.frozen (World.block_lt_of_cell? _ _ hc)).trans hcf
  replace hc := (HB1.out.cell (World.block_lt_of_cell? _ _ hc)).trans hc
  replace hz0 := (HB1.out.cell (World.block_lt_of_cell? _ _ hz0)).trans hz0
  replace hz1 := (HB1.out.cell (World.block_lt_of_cell? _ _ hz1)).trans hz1
  obtain ⟨b, hb⟩ : ∃ b, W.heap.size = b := ⟨_, rfl⟩
  obtain ⟨W1, hW1⟩ : ∃ W1, W.alloc (.cells #[.int .i64 x0, .int .i64 x1] 48) = W1 := ⟨_, rfl⟩
  rw [hW1] at HB1 hx0 hx1 hc hcf hz0 hz1 ⊢
  rw [hb] at hx0 hx1 ⊢
  have HHB := Aside0.mk hb
  clear hW1 hb
  go_region_held3 (fun w' => w'.cell? ⟨g, 0, none⟩ = some (.slice (some ⟨r, 0, none⟩) L cap) ∧ w'.cell? ⟨b, 0, none⟩ = some (.int .i64 x0))
    (first | go_keep)
    (first | (go_at_call 15; refine (end_some g r m L cap z0 z1 W1.drew hc hz0 hz1 HL.out hm h0 h1 h2 (by omega)).mono ?_; rintro e w5 ⟨rfl, hb⟩; have t0 := (hb.cell (World.block_lt_of_cell? _ _ hc)).trans hc; have t1 := (hb.cell (World.block_lt_of_cell? _ _ hx0)).trans hx0; have HB := Aside0.mk ((below_drew (Below.refl W1.heap.size W1)).trans hb); clear hb))
  replace hx1 := (HB.out.cell (World.block_lt_of_cell? _ _ hx1)).trans hx1
  replace hcf := (HB.out.frozen (World.block_lt_of_cell? _ _ hc)).trans hcf
  clear hc hx0 hz0 hz1
  have hc := t0
  have hx0 := t1
  clear t0 t1
  have HB5 : Aside0 (Below W.heap.size W w5) := ⟨HB1.out.trans (HB.out.mono HB1.out.size)⟩
  have HC5 := Aside0.mk (HC.out.step HB5.out)
  have hbr : some b ≠ (Value.slice (some ⟨r, 0, none⟩) L cap).ownBlock := by
    intro e
    have h1 : b = r := by simpa [Value.ownBlock] using e
    have h2 := HHB.out
    omega
  have HBR := Aside0.mk hbr
  clear hbr
  go_wp2_with fail
  have HC6 : Aside0 (Chain w0 w5.drew g (.slice (some ⟨r, 0, none⟩) L cap) xs) := ⟨HC5.out.step (below_drew (Below.refl _ _))⟩
  have HB6 : Aside0 (Below W.heap.size W w5.drew) := ⟨below_drew HB5.out⟩
  replace hc : w5.drew.cell? ⟨g, 0, none⟩ = some (.slice (some ⟨r, 0, none⟩) L cap) := hc
  replace hx0 : w5.drew.cell? ⟨b, 0, none⟩ = some (.int .i64 x0) := hx0
  replace hx1 : w5.drew.cell? ⟨b, 1, none⟩ = some (.int .i64 x1) := hx1
  replace hcf : w5.drew.frozen? ⟨g, 0, none⟩ = false := hcf
  refine start_ (n := 11) (S := fun w' => w'.cell? ⟨g, 0, none⟩ = some (.slice (some ⟨r, 0, none⟩) L cap) ∧ w'.cell? ⟨b, 0, none⟩ = some (.int .i64 x0) ∧ w'.cell? ⟨b, 1, none⟩ = some (.int .i64 x1)) (ds := [10]) #[false, false, false, false, false, false, false, false, false, false, false] (by kernel_rfl) rfl rfl ⟨hc, hx0, hx1⟩ (fun hHeld => ?_)
  generalize w5.drew = w6 at hc hx0 hx1 hcf HC6 HB6 hHeld ⊢
  refine pure_ (i := 0) (N := some 38) (v := ?_) (a' := ?_) #[true, false, false, false, false, false, false, false, false, false, false] rfl rfl (by kernel_rfl) (fun _ _ _ h => h) (Or.inl ⟨by rfl, ?_⟩) ?_ ?_
  rotate_left
  · intro w'
    go_simp
    with_reducible rfl
  rotate_left
  · simp only [Act.put, List.setIfInBounds_toArray, List.set_cons_zero, List.set_cons_succ, i64_w, i32_w]
    rfl
  refine pure_ (i := 1) (N := some 39) (v := ?_) (a' := ?_) #[true, true, false, false, false, false, false, false, false, false, false] rfl rfl (by kernel_rfl) (fun _ _ _ h => h) (Or.inl ⟨by rfl, ?_⟩) ?_ ?_
  rotate_left
  · intro w'
    go_simp
    with_reducible rfl
  rotate_left
  · simp only [Act.put, List.setIfInBounds_toArray, List.set_cons_zero, List.set_cons_succ, i64_w, i32_w]
    rfl
  refine pure_ (i := 2) (N := some 40) (v := ?_) (a' := ?_) #[true, true, true, false, false, false, false, false, false, false, false] rfl rfl (by kernel_rfl) (fun _ _ _ h => h) (Or.inl ⟨by rfl, ?_⟩) ?_ ?_
  rotate_left
  · intro w'
    go_simp
    with_reducible rfl
  rotate_left
  · simp only [Act.put, List.setIfInBounds_toArray, List.set_cons_zero, List.set_cons_succ, i64_w, i32_w]
    rfl
  refine pure_ (i := 3) (N := some 41) (v := ?_) (a' := ?_) #[true, true, true, true, false, false, false, false, false, false, false] rfl rfl (by kernel_rfl) (fun _ _ _ h => h) (Or.inl ⟨by rfl, ?_⟩) ?_ ?_
  rotate_left
  · intro w'
    go_simp
    with_reducible rfl
  rotate_left
  · simp only [Act.put, List.setIfInBounds_toArray, List.set_cons_zero, List.set_cons_succ, i64_w, i32_w]
    rfl
  refine take_ (i := 4) (N := some 42) (v := ?_) (a' := ?_) #[true, true, true, true, true, false, false, false, false, false, false] rfl rfl (by kernel_rfl) (fun _ _ _ h => h) (Or.inl ⟨by rfl, ?_⟩) hHeld ?_ ?_
  rotate_left
  · rintro w' ⟨s0, s1, s2⟩
    go_simp
    with_reducible rfl
  rotate_left
  · simp only [Act.put, List.setIfInBounds_toArray, List.set_cons_zero, List.set_cons_succ, i64_w, i32_w]
    rfl
  refine take_ (i := 5) (N := some 43) (v := ?_) (a' := ?_) #[true, true, true, true, true, true, false, false, false, false, false] rfl rfl (by kernel_rfl) (fun _ _ _ h => h) (Or.inl ⟨by rfl, ?_⟩) hHeld ?_ ?_
  rotate_left
  · rintro w' ⟨s0, s1, s2⟩
    go_simp
    with_reducible rfl
  rotate_left
  · simp only [Act.put, List.setIfInBounds_toArray, List.set_cons_zero, List.set_cons_succ, i64_w, i32_w]
    rfl
  refine one_ (i := 6) (N := some 44) #[true, true, true, true, true, true, true, false, false, false, false] rfl rfl (by kernel_rfl) (by decide) (fun K hK => ?_)
  refine value_ (w1 := ?_) (v := ?_) (by rfl) rfl ?_ ?_
  rotate_left 2
  · go_simp
    constructor
    · rfl
    · rfl
  refine hK.out _ _ ⟨((below_alloc (Below.refl w6.heap.size w6) (.cells #[.int .i64 x0, .int .i64 x1] 48)).cell (World.block_lt_of_cell? _ _ hc)).trans hc, ((below_alloc (Below.refl w6.heap.size w6) (.cells #[.int .i64 x0, .int .i64 x1] 48)).cell (World.block_lt_of_cell? _ _ hx0)).trans hx0, ((below_alloc (Below.refl w6.heap.size w6) (.cells #[.int .i64 x0, .int .i64 x1] 48)).cell (World.block_lt_of_cell? _ _ hx1)).trans hx1⟩ (fun hHeld => ?_)
  clear hK K
  refine norm_ (a' := ?_) ?_ ?_
  rotate_left
  · show Act.put _ (some 44) _ = _
    simp only [Act.put, List.setIfInBounds_toArray, List.set_cons_zero, List.set_cons_succ, i64_w, i32_w]
    rfl
  refine one_ (i := 7) (N := some 45) #[true, true, true, true, true, true, true, true, false, false, false] rfl rfl (by kernel_rfl) (by decide) (fun K hK => ?_)
  refine Kd.R_append_step k48 (w0 := w0) w0.heap.size (by rfl) (.tmp 42) (.tmp 44) 22 48 (.agg #[.int .i64 0, .int .i64 0]) 16 rfl Try.underlying22 info48 rfl (by decide) (by decide) (.slice (some ⟨r, 0, none⟩) L cap) xs ⟨x0, x1⟩ [.int .i64 x0, .int .i64 x1] (fun _ => True) (fun _ => False) (by rfl) (by rfl) (k48_mkM w6 _ _ _) (fun _ h => h.elim) (fun _ _ => trivial) HC6.out.row HC6.out.below HC6.out.below.size (by omega) ?_
  intro v1 w1 hR1 hB1 hg1 hat1
  obtain ⟨A1, n1, rfl⟩ := Kd.R_slice hR1
  have k0 := (hg1.cell_far (a := ⟨g, 0, none⟩) (World.block_lt_of_cell? _ _ hc) HG.out).trans hc
  have k1 := (hg1.cell_far (a := ⟨b, 0, none⟩) (World.block_lt_of_cell? _ _ hx0) HBR.out).trans hx0
  have k2 := (hg1.cell_far (a := ⟨b, 1, none⟩) (World.block_lt_of_cell? _ _ hx1) HBR.out).trans hx1
  have k3 := (hg1.frozen_far (a := ⟨g, 0, none⟩) (World.block_lt_of_cell? _ _ hc) HG.out).trans hcf
  refine hK.out _ _ ⟨k0, k1, k2⟩ (fun hHeld => ?_)
  clear hK K
  refine norm_ (a' := ?_) ?_ ?_
  rotate_left
  · show Act.put _ (some 45) _ = _
    simp only [Act.put, List.setIfInBounds_toArray, List.set_cons_zero, List.set_cons_succ, i64_w, i32_w]
    rfl
  refine pure_ (i := 8) (N := some 46) (v := ?_) (a' := ?_) #[true, true, true, true, true, true, true, true, true, false, false] rfl rfl (by kernel_rfl) (fun _ _ _ h => h) (Or.inl ⟨by rfl, ?_⟩) ?_ ?_
  rotate_left
  · intro w'
    go_simp
    with_reducible rfl
  rotate_left
  · simp only [Act.put, List.setIfInBounds_toArray, List.set_cons_zero, List.set_cons_succ, i64_w, i32_w]
    rfl
  refine pure_ (i := 9) (N := some 47) (v := ?_) (a' := ?_) #[true, true, true, true, true, true, true, true, true, true, false] rfl rfl (by kernel_rfl) (fun _ _ _ h => h) (Or.inl ⟨by rfl, ?_⟩) ?_ ?_
  rotate_left
  · intro w'
    go_simp
    with_reducible rfl
  rotate_left
  · simp only [Act.put, List.setIfInBounds_toArray, List.set_cons_zero, List.set_cons_succ, i64_w, i32_w]
    rfl
  refine last_ (i := 10) (N := none) #[true, true, true, true, true, true, true, true, true, true, true] rfl rfl (by kernel_rfl) (by decide) (fun K hK => ?_)
  refine skip_ (w1 := ?_) (by rfl) rfl ?_ ?_
  rotate_left
  · go_simp
    rfl
  refine hK.out _ _ ?_
  clear hK K
  refine done_ (by kernel_rfl) ?_

  go_wp2
  go_end0
  exact ⟨rfl, .slice A1 (xs ++ [(⟨x0, x1⟩ : S48)]).length n1, w6, w1, HB6.out, hg1, hR1, hB1, by rw [List.length_append]; rfl⟩

set_option maxRecDepth 100000 in
set_option maxHeartbeats 2000000 in
theorem append_first (g : Nat) (A : Option Addr) (cap : Nat) (x0 x1 : Int) (xs : List S48) (w0 W : World) (h : Chain w0 W g (.slice A 0 cap) xs) (h4 : 1 ≤ x1) :
    Calls Try.prog 21 #[.pointer (some ⟨g, 0, none⟩), .agg #[.int .i64 x0, .int .i64 x1]] W fun e w' => e = .returned (.tuple #[]) ∧ Pushed w0 W w' g (.slice A 0 cap) (xs ++ [⟨x0, x1⟩]) := by
  have hxl : xs.length ≤ 1000001 := by have := (Kd.R_reads' h.row).1; omega
  obtain ⟨hc, hcf⟩ := h.cell
  have hgb : some g ≠ (Value.slice A 0 cap).ownBlock := Kd.R_ne h.row h.blk (by decide)
  have hrl := Kd.R_lt h.row
  have HG := Aside0.mk hgb
  have HC := Aside0.mk h
  have HRL := Aside0.mk hrl
  clear h hgb hrl
  go_enter Try.func21, Try.ntmps21
  go_wp2_with fail
  have HB1 : Aside0 (Below W.heap.size W (W.alloc (.cells #[.int .i64 x0, .int .i64 x1] 48))) := ⟨below_alloc (Below.refl _ _) _⟩
  have hx0 : (W.alloc (.cells #[.int .i64 x0, .int .i64 x1] 48)).cell? ⟨W.heap.size, 0, none⟩ = some (.int .i64 x0) := blk_cell (heap_alloc_new W _) 0
  have hx1 : (W.alloc (.cells #[.int .i64 x0, .int .i64 x1] 48)).cell? ⟨W.heap.size, 1, none⟩ = some (.int .i64 x1) := blk_cell (heap_alloc_new W _) 1
  replace hcf := (HB1.out.frozen (World.block_lt_of_cell? _ _ hc)).trans hcf
  replace hc := (HB1.out.cell (World.block_lt_of_cell? _ _ hc)).trans hc
  obtain ⟨b, hb⟩ : ∃ b, W.heap.size = b := ⟨_, rfl⟩
  obtain ⟨W1, hW1⟩ : ∃ W1, W.alloc (.cells #[.int .i64 x0, .int .i64 x1] 48) = W1 := ⟨_, rfl⟩
  rw [hW1] at HB1 hx0 hx1 hc hcf ⊢
  rw [hb] at hx0 hx1 ⊢
  have HHB := Aside0.mk hb
  clear hW1 hb
  go_quiet (fail)
  obtain ⟨w5, hw5⟩ : ∃ w5, W1.drewN nq = w5 := ⟨_, rfl⟩
  have HB : Aside0 (Below W1.heap.size W1 w5) := ⟨by rw [← hw5]; exact pw_below_drewN (Below.refl _ _) _⟩
  rw [hw5]
  clear hw5
  replace hcf := (HB.out.frozen (World.block_lt_of_cell? _ _ hc)).trans hcf
  replace hc := (HB.out.cell (World.block_lt_of_cell? _ _ hc)).trans hc
  replace hx0 := (HB.out.cell (World.block_lt_of_cell? _ _ hx0)).trans hx0
  replace hx1 := (HB.out.cell (World.block_lt_of_cell? _ _ hx1)).trans hx1
  have HB5 : Aside0 (Below W.heap.size W w5) := ⟨HB1.out.trans (HB.out.mono HB1.out.size)⟩
  have HC5 := Aside0.mk (HC.out.step HB5.out)
  have hbr : some b ≠ (Value.slice A 0 cap).ownBlock := fun e => by
    have h1 := HRL.out b e.symm
    have h2 := HHB.out
    omega
  have HBR := Aside0.mk hbr
  clear hbr
  go_wp2_with fail
  have HC6 : Aside0 (Chain w0 w5.drew g (.slice A 0 cap) xs) := ⟨HC5.out.step (below_drew (Below.refl _ _))⟩
  have HB6 : Aside0 (Below W.heap.size W w5.drew) := ⟨below_drew HB5.out⟩
  replace hc : w5.drew.cell? ⟨g, 0, none⟩ = some (.slice A 0 cap) := hc
  replace hx0 : w5.drew.cell? ⟨b, 0, none⟩ = some (.int .i64 x0) := hx0
  replace hx1 : w5.drew.cell? ⟨b, 1, none⟩ = some (.int .i64 x1) := hx1
  replace hcf : w5.drew.frozen? ⟨g, 0, none⟩ = false := hcf
  refine start_ (n := 11) (S := fun w' => w'.cell? ⟨g, 0, none⟩ = some (.slice A 0 cap) ∧ w'.cell? ⟨b, 0, none⟩ = some (.int .i64 x0) ∧ w'.cell? ⟨b, 1, none⟩ = some (.int .i64 x1)) (ds := [10]) #[false, false, false, false, false, false, false, false, false, false, false] (by kernel_rfl) rfl rfl ⟨hc, hx0, hx1⟩ (fun hHeld => ?_)
  generalize w5.drew = w6 at hc hx0 hx1 hcf HC6 HB6 hHeld ⊢
  refine pure_ (i := 0) (N := some 38) (v := ?_) (a' := ?_) #[true, false, false, false, false, false, false, false, false, false, false] rfl rfl (by kernel_rfl) (fun _ _ _ h => h) (Or.inl ⟨by rfl, ?_⟩) ?_ ?_
  rotate_left
  · intro w'
    go_simp
    with_reducible rfl
  rotate_left
  · simp only [Act.put, List.setIfInBounds_toArray, List.set_cons_zero, List.set_cons_succ, i64_w, i32_w]
    rfl
  refine pure_ (i := 1) (N := some 39) (v := ?_) (a' := ?_) #[true, true, false, false, false, false, false, false, false, false, false] rfl rfl (by kernel_rfl) (fun _ _ _ h => h) (Or.inl ⟨by rfl, ?_⟩) ?_ ?_
  rotate_left
  · intro w'
    go_simp
    with_reducible rfl
  rotate_left
  · simp only [Act.put, List.setIfInBounds_toArray, List.set_cons_zero, List.set_cons_succ, i64_w, i32_w]
    rfl
  refine pure_ (i := 2) (N := some 40) (v := ?_) (a' := ?_) #[true, true, true, false, false, false, false, false, false, false, false] rfl rfl (by kernel_rfl) (fun _ _ _ h => h) (Or.inl ⟨by rfl, ?_⟩) ?_ ?_
  rotate_left
  · intro w'
    go_simp
    with_reducible rfl
  rotate_left
  · simp only [Act.put, List.setIfInBounds_toArray, List.set_cons_zero, List.set_cons_succ, i64_w, i32_w]
    rfl
  refine pure_ (i := 3) (N := some 41) (v := ?_) (a' := ?_) #[true, true, true, true, false, false, false, false, false, false, false] rfl rfl (by kernel_rfl) (fun _ _ _ h => h) (Or.inl ⟨by rfl, ?_⟩) ?_ ?_
  rotate_left
  · intro w'
    go_simp
    with_reducible rfl
  rotate_left
  · simp only [Act.put, List.setIfInBounds_toArray, List.set_cons_zero, List.set_cons_succ, i64_w, i32_w]
    rfl
  refine take_ (i := 4) (N := some 42) (v := ?_) (a' := ?_) #[true, true, true, true, true, false, false, false, false, false, false] rfl rfl (by kernel_rfl) (fun _ _ _ h => h) (Or.inl ⟨by rfl, ?_⟩) hHeld ?_ ?_
  rotate_left
  · rintro w' ⟨s0, s1, s2⟩
    go_simp
    with_reducible rfl
  rotate_left
  · simp only [Act.put, List.setIfInBounds_toArray, List.set_cons_zero, List.set_cons_succ, i64_w, i32_w]
    rfl
  refine take_ (i := 5) (N := some 43) (v := ?_) (a' := ?_) #[true, true, true, true, true, true, false, false, false, false, false] rfl rfl (by kernel_rfl) (fun _ _ _ h => h) (Or.inl ⟨by rfl, ?_⟩) hHeld ?_ ?_
  rotate_left
  · rintro w' ⟨s0, s1, s2⟩
    go_simp
    with_reducible rfl
  rotate_left
  · simp only [Act.put, List.setIfInBounds_toArray, List.set_cons_zero, List.set_cons_succ, i64_w, i32_w]
    rfl
  refine one_ (i := 6) (N := some 44) #[true, true, true, true, true, true, true, false, false, false, false] rfl rfl (by kernel_rfl) (by decide) (fun K hK => ?_)
  refine value_ (w1 := ?_) (v := ?_) (by rfl) rfl ?_ ?_
  rotate_left 2
  · go_simp
    constructor
    · rfl
    · rfl
  refine hK.out _ _ ⟨((below_alloc (Below.refl w6.heap.size w6) (.cells #[.int .i64 x0, .int .i64 x1] 48)).cell (World.block_lt_of_cell? _ _ hc)).trans hc, ((below_alloc (Below.refl w6.heap.size w6) (.cells #[.int .i64 x0, .int .i64 x1] 48)).cell (World.block_lt_of_cell? _ _ hx0)).trans hx0, ((below_alloc (Below.refl w6.heap.size w6) (.cells #[.int .i64 x0, .int .i64 x1] 48)).cell (World.block_lt_of_cell? _ _ hx1)).trans hx1⟩ (fun hHeld => ?_)
  clear hK K
  refine norm_ (a' := ?_) ?_ ?_
  rotate_left
  · show Act.put _ (some 44) _ = _
    simp only [Act.put, List.setIfInBounds_toArray, List.set_cons_zero, List.set_cons_succ, i64_w, i32_w]
    rfl
  refine one_ (i := 7) (N := some 45) #[true, true, true, true, true, true, true, true, false, false, false] rfl rfl (by kernel_rfl) (by decide) (fun K hK => ?_)
  refine Kd.R_append_step k48 (w0 := w0) w0.heap.size (by rfl) (.tmp 42) (.tmp 44) 22 48 (.agg #[.int .i64 0, .int .i64 0]) 16 rfl Try.underlying22 info48 rfl (by decide) (by decide) (.slice A 0 cap) xs ⟨x0, x1⟩ [.int .i64 x0, .int .i64 x1] (fun _ => True) (fun _ => False) (by rfl) (by rfl) (k48_mkM w6 _ _ _) (fun _ h => h.elim) (fun _ _ => trivial) HC6.out.row HC6.out.below HC6.out.below.size (by omega) ?_
  intro v1 w1 hR1 hB1 hg1 hat1
  obtain ⟨A1, n1, rfl⟩ := Kd.R_slice hR1
  have k0 := (hg1.cell_far (a := ⟨g, 0, none⟩) (World.block_lt_of_cell? _ _ hc) HG.out).trans hc
  have k1 := (hg1.cell_far (a := ⟨b, 0, none⟩) (World.block_lt_of_cell? _ _ hx0) HBR.out).trans hx0
  have k2 := (hg1.cell_far (a := ⟨b, 1, none⟩) (World.block_lt_of_cell? _ _ hx1) HBR.out).trans hx1
  have k3 := (hg1.frozen_far (a := ⟨g, 0, none⟩) (World.block_lt_of_cell? _ _ hc) HG.out).trans hcf
  refine hK.out _ _ ⟨k0, k1, k2⟩ (fun hHeld => ?_)
  clear hK K
  refine norm_ (a' := ?_) ?_ ?_
  rotate_left
  · show Act.put _ (some 45) _ = _
    simp only [Act.put, List.setIfInBounds_toArray, List.set_cons_zero, List.set_cons_succ, i64_w, i32_w]
    rfl
  refine pure_ (i := 8) (N := some 46) (v := ?_) (a' := ?_) #[true, true, true, true, true, true, true, true, true, false, false] rfl rfl (by kernel_rfl) (fun _ _ _ h => h) (Or.inl ⟨by rfl, ?_⟩) ?_ ?_
  rotate_left
  · intro w'
    go_simp
    with_reducible rfl
  rotate_left
  · simp only [Act.put, List.setIfInBounds_toArray, List.set_cons_zero, List.set_cons_succ, i64_w, i32_w]
    rfl
  refine pure_ (i := 9) (N := some 47) (v := ?_) (a' := ?_) #[true, true, true, true, true, true, true, true, true, true, false] rfl rfl (by kernel_rfl) (fun _ _ _ h => h) (Or.inl ⟨by rfl, ?_⟩) ?_ ?_
  rotate_left
  · intro w'
    go_simp
    with_reducible rfl
  rotate_left
  · simp only [Act.put, List.setIfInBounds_toArray, List.set_cons_zero, List.set_cons_succ, i64_w, i32_w]
    rfl
  refine last_ (i := 10) (N := none) #[true, true, true, true, true, true, true, true, true, true, true] rfl rfl (by kernel_rfl) (by decide) (fun K hK => ?_)
  refine skip_ (w1 := ?_) (by rfl) rfl ?_ ?_
  rotate_left
  · go_simp
    rfl
  refine hK.out _ _ ?_
  clear hK K
  refine done_ (by kernel_rfl) ?_

  go_wp2
  go_end0
  exact ⟨rfl, .slice A1 (xs ++ [(⟨x0, x1⟩ : S48)]).length n1, w6, w1, HB6.out, hg1, hR1, hB1, by rw [List.length_append]; rfl⟩
end Go.Proofs.Ytlgjicjofhmegaa.Ch
