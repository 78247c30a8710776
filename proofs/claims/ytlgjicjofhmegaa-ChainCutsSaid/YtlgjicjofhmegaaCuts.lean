/- The walk of the law ChainCuts: it returns true, and what was there is as it was. Condition: the argument reads as a list of spans. -/
import Derived.Test.YtlgjicjofhmegaaCalls
namespace Go.Proofs.Ytlgjicjofhmegaa.Ch
open Go.RowKit Go.Proofs.Ytlgjicjofhmegaa.PChainLocates Go.Proofs.YtlgjicjofhmegaaW.PrintWords Go.Proofs.YtlgjicjofhmegaaW.PrintLast Go.Proofs.YtlgjicjofhmegaaW.PrintMore
set_option linter.unusedVariables false
set_option linter.unusedSimpArgs false

set_option maxRecDepth 100000 in
set_option maxHeartbeats 2000000 in
theorem cuts_law (A : Option Addr) (cap : Nat) (l : List S48) (n : Int) (w : World) (hC : Kd.C k48 w A l.length l) (hc : l.length ≤ cap) :
    Calls Try.prog 4 #[.slice A l.length cap, .int .i64 n] w fun e w' => e = .returned (.bool true) ∧ Below w.heap.size w w' := by
  have HC := Aside0.mk hC
  have HL := Aside0.mk hc
  clear hC hc
  go_enter Try.func4, Try.ntmps4
  go_wp2_with fail
  refine (awake_any _).mono ?_
  rintro e w1 ⟨rfl, hb⟩
  have HB1 := Aside0.mk hb
  clear hb
  go_wp2_with fail
  refine (few_calls (Kd.C_below HC.out HB1.out) HL.out).mono ?_
  rintro e w2 ⟨b, rfl, hT, hb⟩
  have HB2 : Aside0 (Below w.heap.size w w2) := ⟨HB1.out.trans (hb.mono HB1.out.size)⟩
  have HT0 := Aside0.mk hT
  clear hb hT HB1
  cases b with
  | false =>
    go_wp2
    go_ret
    exact ⟨rfl, HB2.out⟩
  | true =>
    have HT := Aside0.mk (HT0.out rfl)
    clear HT0
    have HS := Aside0.mk HT.out.small
    go_wp2_with fail
    refine (of_any A cap l _ (Kd.C_below HC.out HB2.out) HT.out).mono ?_
    rintro e w3 ⟨g, v, rfl, hCh⟩
    have HB3 : Aside0 (Below w.heap.size w w3) := ⟨HB2.out.trans (hCh.below.mono HB2.out.size)⟩
    have HC3 := Aside0.mk hCh
    clear hCh
    go_wp2_with fail
    refine (clone_any g v (ofS l) _ _ HC3.out (by have := HS.out.1; omega)).mono ?_
    rintro e w4 ⟨g2, u, rfl, hCh⟩
    have HB4 : Aside0 (Below w.heap.size w w4) := ⟨HB3.out.trans (hCh.below.mono HB3.out.size)⟩
    have HC4 := Aside0.mk (HC3.out.step hCh.below)
    have HD4 := Aside0.mk (hCh.lower HC3.out.below)
    have HN : Aside0 (g2 ≠ g) := ⟨by have h1 := hCh.new; have h2 := blk_lt HC3.out.blk; omega⟩
    clear hCh HC3
    go_wp2_with fail
    refine (refs_calls (Kd.C_below HC.out HB4.out) HL.out HT.out).mono ?_
    rintro e w5 ⟨r, rfl, hr, hb⟩
    have HB5 : Aside0 (Below w.heap.size w w5) := ⟨HB4.out.trans (hb.mono HB4.out.size)⟩
    have HC5 := Aside0.mk (HC4.out.step hb)
    have HD5 := Aside0.mk (HD4.out.step hb)
    obtain ⟨Ar, cr, rfl⟩ := hr.shape'
    have HR := Aside0.mk hr
    clear hr hb HC4 HD4
    go_wp2_with fail
    refine (join_calls HR.out HT.out).mono ?_
    rintro e w6 ⟨r, rfl, hr, hb⟩
    have HB6 : Aside0 (Below w.heap.size w w6) := ⟨HB5.out.trans (hb.mono HB5.out.size)⟩
    have HC6 := Aside0.mk (HC5.out.step hb)
    have HD6 := Aside0.mk (HD5.out.step hb)
    obtain ⟨Aw, cw, rfl⟩ := hr.shape'
    have HW6 := Aside0.mk hr
    clear hr hb HC5 HD5 HR
    go_wp2_with fail
    refine (places_calls HW6.out HS.out).mono ?_
    rintro e w7 ⟨p, rfl, hp, hb⟩
    have HB7 : Aside0 (Below w.heap.size w w7) := ⟨HB6.out.trans (hb.mono HB6.out.size)⟩
    have HC7 := Aside0.mk (HC6.out.step hb)
    have HD7 := Aside0.mk (HD6.out.step hb)
    have HW7 := Aside0.mk (HW6.out.step hb)
    obtain ⟨Ap, cp, rfl⟩ := hp.shape
    clear hp hb HC6 HD6 HW6
    have hpl := HS.out.plc_len
    obtain ⟨pl, hple⟩ : ∃ pl, (plc (ofS l)).length = pl := ⟨_, rfl⟩
    have hlen := HS.out.len
    rw [hple] at hpl
    have HPL : Aside0 (lenS (ofS l) = (pl : Int)) := ⟨hpl.symm⟩
    have hpb : (pl : Int) ≤ 1000000000 := by omega
    rw [hple]
    clear hple hlen hpl
    by_cases hno : n < 0 ∨ (pl : Int) < n
    · go_wp2_with fail
      refine (cut_no g v (ofS l) n _ _ HC7.out HS.out (by rw [HPL.out]; exact hno)).mono ?_
      rintro e w8 ⟨rfl, hb⟩
      have HB8 : Aside0 (Below w.heap.size w w8) := ⟨HB7.out.trans (hb.mono HB7.out.size)⟩
      have HC8 := Aside0.mk (HC7.out.step hb)
      have HW8 := Aside0.mk (HW7.out.step hb)
      clear hb HC7 HW7 HD7
      have hcs : n < 0 ∨ (0 ≤ n ∧ (pl : Int) < n) := by omega
      clear hno
      rcases hcs with h | ⟨h, h'⟩
      all_goals
        go_wp2_with fail
        refine (list_calls HC8.out (by have := HS.out.1; omega)).mono ?_
        rintro e w9 ⟨u9, rfl, hu, hb⟩
        have HB9 : Aside0 (Below w.heap.size w w9) := ⟨HB8.out.trans (hb.mono HB8.out.size)⟩
        have HW9 := Aside0.mk (HW8.out.step hb)
        obtain ⟨Au, cu, rfl⟩ := hu.shape
        have HU := Aside0.mk hu
        clear hu hb HC8 HW8
        go_wp2_with fail
        refine (same_calls HU.out HW9.out (by have := HS.out.1; have h2 := HT.out.good l.length (Nat.le_refl _); rw [List.take_length] at h2; have := h2.1; have := HT.out.1; omega)).mono ?_
        rintro e w10 ⟨rfl, hb⟩
        have HB10 : Aside0 (Below w.heap.size w w10) := ⟨HB9.out.trans (hb.mono HB9.out.size)⟩
        clear hb
        go_wp2
        go_ret
        exact ⟨rfl, HB10.out⟩
    · have hn0 : 0 ≤ n := by omega
      have hn1 : n ≤ (pl : Int) := by omega
      clear hno
      have hlast : decide ((pl : Int) < n) = false := decide_eq_false (by omega)
      go_wp2_with fail
      refine (cut_yes g v (ofS l) n _ _ HC7.out HS.out hn0 (by rw [HPL.out]; exact hn1)).mono ?_
      rintro e w8 ⟨x, v2, rfl, hC8, hx, hk, _⟩
      have HB8 : Aside0 (Below w.heap.size w w8) := ⟨HB2.out.trans (hC8.below.mono HB2.out.size)⟩
      have HC8 := Aside0.mk hC8
      have HD8 := Aside0.mk (HD7.out.past HN.out HC7.out.blk hk hC8.below)
      have HW8 := Aside0.mk (HW7.out.past HC7.out.blk hk)
      obtain ⟨Ax, cx, rfl⟩ := Kd.R_slice hx
      have HX8 : Aside0 (L48 w8 (.slice Ax (locS (ofS l) n (lenS (ofS l) - n)).length cx) (locS (ofS l) n (lenS (ofS l) - n))) := ⟨_, hx⟩
      rw [HPL.out] at HX8 ⊢
      clear hC8 hx hk HC7 HD7 HW7
      go_wp2_with fail
      refine (append_skip _ 0 0 _ (by decide)).mono ?_
      rintro e w9 ⟨rfl, hb⟩
      have HB9 : Aside0 (Below w.heap.size w w9) := ⟨HB8.out.trans (hb.mono HB8.out.size)⟩
      have HC9 := Aside0.mk (HC8.out.step hb)
      have HD9 := Aside0.mk (HD8.out.step hb)
      have HW9 := Aside0.mk (HW8.out.step hb)
      have HX9 := Aside0.mk (HX8.out.step hb)
      clear hb HC8 HD8 HW8 HX8
      go_wp2_with fail
      refine (locref_calls HW9.out HS.out n ((pl : Int) - n) hn0 (by omega) (by omega) (by omega)).mono ?_
      rintro e w10 ⟨y, rfl, hy, hb⟩
      have HB10 : Aside0 (Below w.heap.size w w10) := ⟨HB9.out.trans (hb.mono HB9.out.size)⟩
      have HC10 := Aside0.mk (HC9.out.step hb)
      have HD10 := Aside0.mk (HD9.out.step hb)
      have HW10 := Aside0.mk (HW9.out.step hb)
      have HX10 := Aside0.mk (HX9.out.step hb)
      obtain ⟨Ay, cy, rfl⟩ := hy.shape'
      have HY := Aside0.mk hy
      clear hb HC9 HD9 HW9 HX9 hy
      have hln : ∀ a m : Int, (locS (ofS l) a m).length ≤ 30 := fun a m => by
        have h1 := locS_len (ofS l) a m
        have h2 := HT.out.good l.length (Nat.le_refl _)
        rw [List.take_length] at h2
        have h3 := h2.1
        have h4 := HT.out.1
        omega
      have HLN := Aside0.mk hln
      clear hln
      go_wp2_with fail
      refine (same_calls HX10.out HY.out (by have := HLN.out n ((pl : Int) - n); omega)).mono ?_
      rintro e w11 ⟨rfl, hb⟩
      have HB11 : Aside0 (Below w.heap.size w w11) := ⟨HB10.out.trans (hb.mono HB10.out.size)⟩
      have HC11 := Aside0.mk (HC10.out.step hb)
      have HD11 := Aside0.mk (HD10.out.step hb)
      have HW11 := Aside0.mk (HW10.out.step hb)
      clear hb HC10 HD10 HW10 HX10 HY
      go_wp2_with fail
      refine (list_calls HC11.out (by have := HLN.out 0 n; omega)).mono ?_
      rintro e w12 ⟨u12, rfl, hu, hb⟩
      have HB12 : Aside0 (Below w.heap.size w w12) := ⟨HB11.out.trans (hb.mono HB11.out.size)⟩
      have HD12 := Aside0.mk (HD11.out.step hb)
      have HW12 := Aside0.mk (HW11.out.step hb)
      obtain ⟨Au, cu, rfl⟩ := hu.shape
      have HU := Aside0.mk hu
      clear hb HC11 HD11 HW11 hu
      go_wp2_with fail
      refine (locref_calls HW12.out HS.out 0 n (by omega) (by omega) (by omega) (by omega)).mono ?_
      rintro e w13 ⟨y, rfl, hy, hb⟩
      have HB13 : Aside0 (Below w.heap.size w w13) := ⟨HB12.out.trans (hb.mono HB12.out.size)⟩
      have HD13 := Aside0.mk (HD12.out.step hb)
      have HW13 := Aside0.mk (HW12.out.step hb)
      have HU13 := Aside0.mk (HU.out.step hb)
      obtain ⟨Az, cz, rfl⟩ := hy.shape'
      have HY := Aside0.mk hy
      clear hb HD12 HW12 HU hy
      go_wp2_with fail
      refine (same_calls HU13.out HY.out (by have := HLN.out 0 n; omega)).mono ?_
      rintro e w14 ⟨rfl, hb⟩
      have HB14 : Aside0 (Below w.heap.size w w14) := ⟨HB13.out.trans (hb.mono HB13.out.size)⟩
      have HD14 := Aside0.mk (HD13.out.step hb)
      have HW14 := Aside0.mk (HW13.out.step hb)
      clear hb HD13 HW13 HU13 HY
      go_wp2_with fail
      refine (list_calls HD14.out (by have := HS.out.1; omega)).mono ?_
      rintro e w15 ⟨u15, rfl, hu, hb⟩
      have HB15 : Aside0 (Below w.heap.size w w15) := ⟨HB14.out.trans (hb.mono HB14.out.size)⟩
      have HW15 := Aside0.mk (HW14.out.step hb)
      obtain ⟨Av, cv, rfl⟩ := hu.shape
      have HU := Aside0.mk hu
      clear hb HD14 HW14 hu
      go_wp2_with fail
      refine (same_calls HU.out HW15.out (by have := HS.out.1; have h2 := HT.out.good l.length (Nat.le_refl _); rw [List.take_length] at h2; have := h2.1; have := HT.out.1; omega)).mono ?_
      rintro e w16 ⟨rfl, hb⟩
      have HB16 : Aside0 (Below w.heap.size w w16) := ⟨HB15.out.trans (hb.mono HB15.out.size)⟩
      clear hb
      go_wp2
      go_ret
      exact ⟨rfl, HB16.out⟩
end Go.Proofs.Ytlgjicjofhmegaa.Ch
