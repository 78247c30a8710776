/- The walk of the law ChainLocates: it returns true, and what was there is as it was. Condition: the argument reads as a list of spans. -/
import Derived.Test.YtlgjicjofhmegaaLoc
namespace Go.Proofs.Ytlgjicjofhmegaa.Ch
open Go.RowKit Go.Proofs.Ytlgjicjofhmegaa.PChainLocates Go.Proofs.YtlgjicjofhmegaaW.PrintWords Go.Proofs.YtlgjicjofhmegaaW.PrintLast Go.Proofs.YtlgjicjofhmegaaW.PrintMore
set_option linter.unusedVariables false
set_option linter.unusedSimpArgs false

set_option maxRecDepth 100000 in
set_option maxHeartbeats 2000000 in
theorem locates_law (A : Option Addr) (cap : Nat) (l : List S48) (a n : Int) (w : World) (hC : Kd.C k48 w A l.length l) (hc : l.length ≤ cap) :
    Calls Try.prog 3 #[.slice A l.length cap, .int .i64 a, .int .i64 n] w fun e w' => e = .returned (.bool true) ∧ Below w.heap.size w w' := by
  have HC := Aside0.mk hC
  have HL := Aside0.mk hc
  clear hC hc
  go_enter Try.func3, Try.ntmps3
  go_wp2_with fail
  refine (awake_any _).mono ?_
  rintro e w1 ⟨rfl, hb⟩
  have HB1 := Aside0.mk hb
  clear hb
  go_wp2_with fail
  refine (few_calls (Kd.C_below HC.out HB1.out) HL.out).mono ?_
  rintro e w2 ⟨b, rfl, hT, hb⟩
  have HB2 : Aside0 (Below w.heap.size w w2) := ⟨HB1.out.trans (hb.mono HB1.out.size)⟩
  have HT0 := Aside0.mk hT
  clear hb hT HB1
  cases b with
  | false =>
    go_wp2
    go_ret
    exact ⟨rfl, HB2.out⟩
  | true =>
    have HT := Aside0.mk (HT0.out rfl)
    clear HT0
    have HS := Aside0.mk HT.out.small
    go_wp2_with fail
    refine (of_any A cap l _ (Kd.C_below HC.out HB2.out) HT.out).mono ?_
    rintro e w3 ⟨g, v, rfl, hCh⟩
    have HB3 : Aside0 (Below w.heap.size w w3) := ⟨HB2.out.trans (hCh.below.mono HB2.out.size)⟩
    have HC3 := Aside0.mk hCh
    clear hCh
    go_wp2_with fail
    refine (refs_calls (Kd.C_below HC.out HB3.out) HL.out HT.out).mono ?_
    rintro e w5 ⟨r, rfl, hr, hb⟩
    have HB5 : Aside0 (Below w.heap.size w w5) := ⟨HB3.out.trans (hb.mono HB3.out.size)⟩
    have HC5 := Aside0.mk (HC3.out.step hb)
    obtain ⟨Ar, cr, rfl⟩ := hr.shape'
    have HR := Aside0.mk hr
    clear hr hb HC3
    go_wp2_with fail
    refine (join_calls HR.out HT.out).mono ?_
    rintro e w6 ⟨r, rfl, hr, hb⟩
    have HB6 : Aside0 (Below w.heap.size w w6) := ⟨HB5.out.trans (hb.mono HB5.out.size)⟩
    have HC6 := Aside0.mk (HC5.out.step hb)
    obtain ⟨Aw, cw, rfl⟩ := hr.shape'
    have HW6 := Aside0.mk hr
    clear hr hb HC5 HR
    go_wp2_with fail
    refine (places_calls HW6.out HS.out).mono ?_
    rintro e w7 ⟨p, rfl, hp, hb⟩
    have HB7 : Aside0 (Below w.heap.size w w7) := ⟨HB6.out.trans (hb.mono HB6.out.size)⟩
    have HC7 := Aside0.mk (HC6.out.step hb)
    have HW7 := Aside0.mk (HW6.out.step hb)
    obtain ⟨Ap, cp, rfl⟩ := hp.shape
    have HP7 := Aside0.mk hp
    clear hp hb HC6 HW6
    have hpl := HS.out.plc_len
    have hlen := HS.out.len
    have HPL : Aside0 (lenS (ofS l) = ((plc (ofS l)).length : Int)) := ⟨hpl.symm⟩
    have hpb : ((plc (ofS l)).length : Int) ≤ 1000000000 := by omega
    have HXL : Aside0 ((ofS l).length ≤ 30) := ⟨by have h2 := HT.out.good l.length (Nat.le_refl _); rw [List.take_length] at h2; have := h2.1; have := HT.out.1; omega⟩
    clear hlen hpl
    obtain ⟨es, hes⟩ : ∃ es, endS (ofS l) = es := ⟨_, rfl⟩
    have HES := Aside0.mk hes
    obtain ⟨xl, hxl⟩ : ∃ xl, (ofS l).length = xl := ⟨_, rfl⟩
    have HXL2 := Aside0.mk hxl
    rw [hxl] at HW7 ⊢
    rw [hxl] at HXL
    have hxb := HXL.out
    by_cases hz : xl = 0
    case' pos =>
      have he0 : es = -1 := by rw [← hes, endS, if_pos (by omega)]
      subst he0
      subst hz
      clear hes hxl
      go_wp2_with fail
      obtain ⟨wa, hwa⟩ : ∃ wa, w7 = wa := ⟨_, rfl⟩
      have HBw : Aside0 (Below w7.heap.size w7 wa) := ⟨by rw [hwa]; exact Below.refl _ _⟩
      rw [hwa]
      clear hwa
    case' neg =>
      obtain ⟨m, hm⟩ : ∃ m, m + 1 = xl := ⟨xl - 1, by omega⟩
      obtain ⟨r, c, hs, c0, c1⟩ := last33 HW7.out m (hm.trans hxl.symm)
      have hz48 := HS.out.2 _ (getD_mem (ofS l) m (by omega))
      obtain ⟨f0, hf0⟩ : ∃ f0, ((ofS l).getD m z48).f0 = f0 := ⟨_, rfl⟩
      obtain ⟨f1, hf1⟩ : ∃ f1, ((ofS l).getD m z48).f1 = f1 := ⟨_, rfl⟩
      have he0 : es = f0 + f1 := by rw [← hes, endS, if_neg (by omega), show (ofS l).length - 1 = m by omega, hf0, hf1]
      rw [hf0] at c0 hz48
      rw [hf1] at c1 hz48
      injection hs with hs hle hs2
      subst hs
      subst hs2
      subst he0
      clear hes hxl hf0 hf1 hle
      have hw : IntKind.i64.wrap ((xl : Int) - 1) = (m : Int) := by rw [IntWalk.i64_in _ (by omega)]; omega
      have hm0 : (0 : Int) ≤ (m : Int) := by omega
      have hm1 : (m : Int) < (xl : Int) := by omega
      have hw2 : IntKind.i64.wrap (f0 + f1) = f0 + f1 := IntWalk.i64_in _ (by omega)
      have hp : decide (0 < (xl : Int)) = true := decide_eq_true (by omega)
      have hp2 : decide (0 < xl) = true := decide_eq_true (by omega)
      clear hm hz
      go_wp2_with fail
      go_region_held3 (fun w' => w'.cell? ⟨r, m * 2, none⟩ = some (.int .i64 f0) ∧ w'.cell? ⟨r, m * 2 + 1, none⟩ = some (.int .i64 f1)) (first | go_keep) (fail)
      go_wp2_with fail
      obtain ⟨wa, hwa⟩ : ∃ wa, w7.drew = wa := ⟨_, rfl⟩
      have HBw : Aside0 (Below w7.heap.size w7 wa) := ⟨by rw [← hwa]; exact below_drew (Below.refl _ _)⟩
      rw [hwa]
      clear hwa hw hm0 hm1 hw2 hp hp2 c0 c1
    all_goals
      have HBa : Aside0 (Below w.heap.size w wa) := ⟨HB7.out.trans (HBw.out.mono HB7.out.size)⟩
      have HCa := Aside0.mk (HC7.out.step HBw.out)
      have HWa := Aside0.mk (HW7.out.step HBw.out)
      have HPa := Aside0.mk (HP7.out.step HBw.out)
      clear HC7 HW7 HP7
      refine (over_calls HCa.out HS.out).mono ?_
      rintro e w8 ⟨q, rfl, hq, hb⟩
      have HB8 : Aside0 (Below w.heap.size w w8) := ⟨HBa.out.trans (hb.mono HBa.out.size)⟩
      have HC8 := Aside0.mk (HCa.out.step hb)
      have HW8 := Aside0.mk (HWa.out.step hb)
      have HP8 := Aside0.mk (HPa.out.step hb)
      obtain ⟨Aq, cq, rfl⟩ := hq.shape
      have HQ8 := Aside0.mk hq
      clear hq hb HCa HWa HPa
      go_wp2_with fail
      refine (list_calls HC8.out (by have := HS.out.1; omega)).mono ?_
      rintro e w9 ⟨u9, rfl, hu, hb⟩
      have HB9 : Aside0 (Below w.heap.size w w9) := ⟨HB8.out.trans (hb.mono HB8.out.size)⟩
      have HC9 := Aside0.mk (HC8.out.step hb)
      have HW9 := Aside0.mk (HW8.out.step hb)
      have HP9 := Aside0.mk (HP8.out.step hb)
      have HQ9 := Aside0.mk (HQ8.out.step hb)
      obtain ⟨Au, cu, rfl⟩ := hu.shape
      have HU := Aside0.mk hu
      clear hu hb HC8 HW8 HP8 HQ8
      go_wp2_with fail
      refine (same_calls HU.out HW9.out (by have := HXL.out; have := HXL2.out; omega)).mono ?_
      rintro e w10 ⟨rfl, hb⟩
      have HB10 : Aside0 (Below w.heap.size w w10) := ⟨HB9.out.trans (hb.mono HB9.out.size)⟩
      have HC10 := Aside0.mk (HC9.out.step hb)
      have HW10 := Aside0.mk (HW9.out.step hb)
      have HP10 := Aside0.mk (HP9.out.step hb)
      have HQ10 := Aside0.mk (HQ9.out.step hb)
      clear hb HC9 HW9 HP9 HQ9 HU
      go_wp2_with fail
      refine (len_calls2 HC10.out HS.out HPL.out).mono ?_
      rintro e w11 ⟨rfl, hb⟩
      have HB11 : Aside0 (Below w.heap.size w w11) := ⟨HB10.out.trans (hb.mono HB10.out.size)⟩
      have HC11 := Aside0.mk (HC10.out.step hb)
      have HW11 := Aside0.mk (HW10.out.step hb)
      have HP11 := Aside0.mk (HP10.out.step hb)
      have HQ11 := Aside0.mk (HQ10.out.step hb)
      clear hb HC10 HW10 HP10 HQ10
      go_wp2_with fail
      refine (end_calls2 HC11.out HS.out HES.out).mono ?_
      rintro e w12 ⟨rfl, hb⟩
      have HB12 : Aside0 (Below w.heap.size w w12) := ⟨HB11.out.trans (hb.mono HB11.out.size)⟩
      have HC12 := Aside0.mk (HC11.out.step hb)
      have HW12 := Aside0.mk (HW11.out.step hb)
      have HP12 := Aside0.mk (HP11.out.step hb)
      have HQ12 := Aside0.mk (HQ11.out.step hb)
      clear hb HC11 HW11 HP11 HQ11
      go_wp2_with fail
      refine (ints_calls2 HQ12.out HP12.out (by omega)).mono ?_
      rintro e w13 ⟨rfl, hb⟩
      have HB13 : Aside0 (Below w.heap.size w w13) := ⟨HB12.out.trans (hb.mono HB12.out.size)⟩
      have HC13 := Aside0.mk (HC12.out.step hb)
      have HW13 := Aside0.mk (HW12.out.step hb)
      have HP13 := Aside0.mk (HP12.out.step hb)
      clear hb HC12 HW12 HP12 HQ12
      obtain ⟨pl, hpl⟩ : ∃ pl, (plc (ofS l)).length = pl := ⟨_, rfl⟩
      rw [hpl] at HPL HP13 hpb ⊢
      have HPLE := Aside0.mk hpl
      clear hpl
      by_cases hno : a < 0 ∨ (pl : Int) < a ∨ n < 0 ∨ (pl : Int) - a < n
      case' pos =>
        have hno2 : a < 0 ∨ lenS (ofS l) < a ∨ n < 0 ∨ lenS (ofS l) - a < n := by rw [HPL.out]; exact hno
        have HNO := Aside0.mk hno2
        have hcs : a < 0 ∨ (0 ≤ a ∧ n < 0) ∨ (0 ≤ a ∧ 0 ≤ n ∧ (pl : Int) < a) ∨ (0 ≤ a ∧ 0 ≤ n ∧ a ≤ (pl : Int) ∧ (pl : Int) - a < n) := by omega
        clear hno hno2
        go_wp2_with fail
        refine (locate_no g v (ofS l) a n _ _ HC13.out HS.out HNO.out).mono ?_
        rintro e w14 ⟨rfl, hb⟩
        have HB14 : Aside0 (Below w.heap.size w w14) := ⟨HB13.out.trans (hb.mono HB13.out.size)⟩
        clear hb
        rcases hcs with h | ⟨h, h'⟩ | ⟨h, h', h''⟩ | ⟨h, h', h'', h4⟩
        all_goals
          go_wp2
          go_ret
          exact ⟨rfl, HB14.out⟩
      case' neg =>
        have h0 : 0 ≤ a := by omega
        have h1 : a ≤ (pl : Int) := by omega
        have h2 : 0 ≤ n := by omega
        have h3 : n ≤ (pl : Int) - a := by omega
        clear hno
        have hw1 : IntKind.i64.wrap ((pl : Int) - a) = (pl : Int) - a := IntWalk.i64_in _ (by omega)
        have hd1 : decide (a < 0) = false := decide_eq_false (by omega)
        have hd2 : decide (n < 0) = false := decide_eq_false (by omega)
        have hd3 : decide ((pl : Int) < a) = false := decide_eq_false (by omega)
        have hd4 : decide ((pl : Int) - a < n) = false := decide_eq_false (by omega)
        go_wp2_with fail
        refine (locate_yes g v (ofS l) a n _ _ HC13.out HS.out h0 (by rw [HPL.out]; exact h1) h2 (by rw [HPL.out]; exact h3)).mono ?_
        rintro e w14 ⟨x, rfl, hx, hb⟩
        have HB14 : Aside0 (Below w.heap.size w w14) := ⟨HB13.out.trans (hb.mono HB13.out.size)⟩
        have HW14 := Aside0.mk (HW13.out.step hb)
        have HP14 := Aside0.mk (HP13.out.step hb)
        obtain ⟨Ax, cx, rfl⟩ := Kd.R_slice hx
        have HX14 : Aside0 (L48 w14 (.slice Ax (locS (ofS l) a n).length cx) (locS (ofS l) a n)) := ⟨_, hx⟩
        clear hx hb HC13 HW13 HP13
        go_wp2_with fail
        refine (locref_calls HW14.out HS.out a n h0 h2 (by omega) (by omega)).mono ?_
        rintro e w15 ⟨y, rfl, hy, hb⟩
        have HB15 : Aside0 (Below w.heap.size w w15) := ⟨HB14.out.trans (hb.mono HB14.out.size)⟩
        have HP15 := Aside0.mk (HP14.out.step hb)
        have HX15 := Aside0.mk (HX14.out.step hb)
        obtain ⟨Ay, cy, rfl⟩ := hy.shape'
        have HY15 := Aside0.mk hy
        clear hy hb HW14 HP14 HX14
        have HLN : Aside0 ((locS (ofS l) a n).length ≤ 30) := ⟨by have h4 := locS_len (ofS l) a n; have := HXL.out; have := HXL2.out; omega⟩
        have hw3 : IntKind.i64.wrap (a + n) = a + n := IntWalk.i64_in _ (by omega)
        go_wp2_with fail
        obtain ⟨i0, hi, _, hz1, _⟩ := info_parts info3
        obtain ⟨bp, hRp⟩ := HP15.out
        obtain ⟨hpn, hpc, hCp⟩ := Kd.R_reads' hRp
        have hmid : Kd.C (Kd.int .i64) w15 (if cp = a.toNat then Ap else Ap.map (·.add (a.toNat * 1))) (((plc (ofS l)).take (a + n).toNat).drop a.toNat).length (((plc (ofS l)).take (a + n).toNat).drop a.toNat) := Kd.C_mid (lo := a.toNat) (hi := (a + n).toNat) (c := cp) hCp (by omega) (by omega) (by omega)
        have hcut := cut_mid (P := Try.prog) 30 3 .i64 .i64 Try.underlying30 hi 1 hz1 Ap pl cp a (a + n) h0 (by omega) (by omega) hpc
        have hys : ((plc (ofS l)).take (a + n).toNat).drop a.toNat = plc (locS (ofS l) a n) := by
          rw [plc_loc (ofS l) a n (fun x hx => by have := HS.out.2 x hx; omega) h0 h2, List.drop_take, show (a + n).toNat - a.toNat = n.toNat by omega]
        have hyl : (plc (locS (ofS l) a n)).length = (a + n).toNat - a.toNat := by
          rw [← hys, List.length_drop, List.length_take]
          omega
        rw [hys] at hmid
        rw [← hyl] at hcut
        obtain ⟨Az, hAz⟩ : ∃ Az, (if cp = a.toNat then Ap else Ap.map (·.add (a.toNat * 1))) = Az := ⟨_, rfl⟩
        obtain ⟨cz, hcz⟩ : ∃ cz, cp - a.toNat = cz := ⟨_, rfl⟩
        rw [hAz] at hmid hcut
        rw [hcz] at hcut
        have HZ := Aside0.mk hmid
        have HZC : Aside0 ((plc (locS (ofS l) a n)).length ≤ cz) := ⟨by omega⟩
        have HZL : Aside0 ((plc (locS (ofS l) a n)).length ≤ 1000000000) := ⟨by omega⟩
        clear hi hz1 hRp hpn hpc hCp hmid hys hyl hAz hcz
        go_region_held3 (fun _ => True) (first | trivial) (first
          | (go_at_call 12; refine (same_calls (HX15.out.step (below_drew (Below.refl _ _))) (HY15.out.step (below_drew (Below.refl _ _))) (by have := HLN.out; omega)).mono ?_; rintro e w16 ⟨rfl, hb⟩; have HB16 : Aside0 (Below w15.heap.size w15 w16) := ⟨(below_drew (Below.refl _ _)).trans hb⟩; clear hb)
          | (go_at_call 10; refine (places_calls (HY15.out.step HB16.out) (HS.out.loc h0 h2)).mono ?_; rintro e w17 ⟨q2, rfl, hq2, hb⟩; obtain ⟨Aq2, cq2, rfl⟩ := hq2.shape; have HB17 : Aside0 (Below w15.heap.size w15 w17) := ⟨HB16.out.trans (hb.mono HB16.out.size)⟩; have HQ17 := Aside0.mk hq2; clear hq2 hb)
          | (go_at_call 16; refine (ints_calls HQ17.out (Kd.C_below HZ.out HB17.out) HZC.out HZL.out).mono ?_; rintro e w18 ⟨rfl, hb⟩; have HB18 : Aside0 (Below w15.heap.size w15 w18) := ⟨HB17.out.trans (hb.mono HB17.out.size)⟩; clear hb))
        go_wp2
        go_ret
        exact ⟨rfl, HB15.out.trans (HB18.out.mono HB15.out.size)⟩
end Go.Proofs.Ytlgjicjofhmegaa.Ch
