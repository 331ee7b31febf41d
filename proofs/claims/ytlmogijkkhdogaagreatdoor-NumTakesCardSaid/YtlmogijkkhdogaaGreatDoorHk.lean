/- strconv's floatBits, walked: the main way. -/
import Derived.Test.YtlmogijkkhdogaaGreatDoorHj
namespace Go.Proofs.YtlmogijkkhdogaaGreatDoor
open Go.RowKit
set_option maxRecDepth 100000

def OutX (m : Nat) (ex : Int) (neg : Bool) (v : Nat) : Prop := ∃ a b b2 b3 v1, OutB m ex neg a b b2 b3 v1 v
/-- what comes of the exponent and the rounded figures. -/
def Late (e2 : Int) (m0 : Nat) (ng : Bool) (v : Nat) (ovf : Bool) : Prop :=
  (1024 ≤ e2 ∧ ovf = true ∧ OutX 0 1024 ng v) ∨
  (e2 < 1024 ∧ m0 = 9007199254740992 ∧ 1023 ≤ e2 ∧ ovf = true ∧ OutX 0 1024 ng v) ∨
  (e2 < 1023 ∧ m0 = 9007199254740992 ∧ ovf = false ∧ OutX 4503599627370496 (e2 + 1) ng v) ∨
  (e2 < 1024 ∧ m0 ≠ 9007199254740992 ∧ (bits .and .u64 (m0 : Int) 4503599627370496 == 0) = true ∧ ovf = false ∧ OutX m0 (-1023) ng v) ∨
  (e2 < 1024 ∧ m0 ≠ 9007199254740992 ∧ (bits .and .u64 (m0 : Int) 4503599627370496 == 0) = false ∧ ovf = false ∧ OutX m0 e2 ng v)
theorem outX_ex (m : Nat) (ex : Int) (ng : Bool) : ∃ v, OutX m ex ng v ∧ v < 18446744073709551616 := by
  obtain ⟨a, b, b2, b3, v1, v, h⟩ := outB_ex m ex ng
  exact ⟨v, ⟨a, b, b2, b3, v1, h⟩, h.lt⟩
theorem late_ex (e2 : Int) (m0 : Nat) (ng : Bool) : ∃ v ovf, Late e2 m0 ng v ovf ∧ v < 18446744073709551616 ∧ (ovf = true → finf v = true) := by
  by_cases h1 : 1024 ≤ e2
  · obtain ⟨a, b, b2, b3, v1, v, h, hi⟩ := outB_inf ng
    exact ⟨v, true, Or.inl ⟨h1, rfl, a, b, b2, b3, v1, h⟩, h.lt, fun _ => hi⟩
  · by_cases h2 : m0 = 9007199254740992
    · by_cases h3 : 1023 ≤ e2
      · obtain ⟨a, b, b2, b3, v1, v, h, hi⟩ := outB_inf ng
        exact ⟨v, true, Or.inr (Or.inl ⟨by omega, h2, h3, rfl, a, b, b2, b3, v1, h⟩), h.lt, fun _ => hi⟩
      · obtain ⟨v, h, hl⟩ := outX_ex 4503599627370496 (e2 + 1) ng
        exact ⟨v, false, Or.inr (Or.inr (Or.inl ⟨by omega, h2, rfl, h⟩)), hl, by simp⟩
    · cases h3 : (bits .and .u64 (m0 : Int) 4503599627370496 == 0) with
      | true =>
        obtain ⟨v, h, hl⟩ := outX_ex m0 (-1023) ng
        exact ⟨v, false, Or.inr (Or.inr (Or.inr (Or.inl ⟨by omega, h2, h3, rfl, h⟩))), hl, by simp⟩
      | false =>
        obtain ⟨v, h, hl⟩ := outX_ex m0 e2 ng
        exact ⟨v, false, Or.inr (Or.inr (Or.inr (Or.inr ⟨by omega, h2, h3, rfl, h⟩))), hl, by simp⟩

/-- behind the loops: the exponent is moved up, if it is too small. -/
def Mid (E1 : Int) (D1 D2 : Dec) (e2 : Int) : Prop := (E1 < -1022 ∧ e2 = -1022 ∧ ∃ n : Nat, (n : Int) = -1022 - E1 ∧ 1 ≤ n ∧ n ≤ 100000 ∧ SR n D1 D2) ∨ (-1022 ≤ E1 ∧ D2 = D1 ∧ e2 = E1)
def RI (D : Dec) (m : Nat) : Prop := ∀ (w : World) (E : Nat), DecAt w E D → Calls Tryz.prog 268 #[.pointer (some ⟨E, 0, none⟩)] w fun e w' => e = .returned (.int .u64 m) ∧ w' = w

set_option maxHeartbeats 2000000 in
theorem fbits_walk (D D1 D2 D3 D4 : Dec) (J K : Nat) (s t : Nat → Dec) (x y : Nat → Int) (e2 : Int) (m0 v : Nat) (ovf : Bool)
    (n1 : 1 ≤ D.nd) (hp1 : -330 ≤ D.dp) (hp2 : D.dp ≤ 310) (hdn : Down D D1 J s x) (hup : Up D1 D2 K t y) (hmid : Mid (x J + y K - 1) D2 D3 e2) (hsl : SL 53 D3 D4) (hri : RI D4 m0) (hm0 : m0 < 18446744073709551616) (hng3 : D3.neg = D.neg) (hng4 : D4.neg = D.neg)
    (he2 : -1022 ≤ e2) (he3 : e2 ≤ 100000) (hlate : Late e2 m0 D.neg v ovf)
    (w : World) (E B : Nat) (hB : B ≤ E) (hs : Slow B w) (h : DecAt w E D) :
    Calls Tryz.prog 238 #[.pointer (some ⟨E, 0, none⟩), .pointer (some ⟨6, 0, none⟩)] w fun e w' => e = .returned (.tuple #[.int .u64 v, .bool ovf]) ∧ Kin E w w' := by
  have hnd := h.nd
  have hdp := h.dp
  obtain ⟨n, hn⟩ : ∃ n, n = D.nd := ⟨_, rfl⟩
  rw [← hn] at hnd n1
  have hn0 : ((n : Int) == 0) = false := by simp; omega
  obtain ⟨p, hpp⟩ : ∃ p, p = D.dp := ⟨_, rfl⟩
  rw [← hpp] at hp1 hp2 hdp
  obtain ⟨ng, hgg⟩ : ∃ ng, ng = D.neg := ⟨_, rfl⟩
  have HS := Lib.hid hs
  have HS0 := Lib.hid hs
  have H0 := Lib.hid (show DecAt w E (s 0) by rw [hdn.s0]; exact h)
  have HDN := Lib.hid hdn
  have HUP := Lib.hid hup
  have HMID := Lib.hid hmid
  have HSL := Lib.hid hsl
  have HRI := Lib.hid hri
  have HNG := Lib.hid (show D4.neg = ng by rw [hng4, hgg])
  have HNG3 := Lib.hid (show D3.neg = ng by rw [hng3, hgg])
  rw [← hgg] at hlate
  have HLATE := Lib.hid hlate
  clear h hs hn hgg hpp hdn hup hmid hsl hri hng3 hng4 hlate
  go_enter Tryz.func238, Tryz.ntmps238
  go_wp2_with fail
  refine wp_scope_hop (r0 := ?r0) (r1 := ?r1) ?h0 ?h1 ?_
  case h0 => rfl
  case h1 => rfl
  go_upto_block 0 with fail
  clear hnd hdp hn0
  go_cut [6] from 35 to 60 (fun e wx => e = .int .i64 (x J) ∧ DecAt wx E D1 ∧ Kin E w wx)
  case first =>
    go_wp2_with fail
    go_loopw [6, 8] (fun e _n wr => ∃ j : Nat, j ≤ J ∧ e = .int .i64 (x j) ∧ DecAt wr E (s j) ∧ Kin E w wr) (fun _ _ wr => muDw E wr)
    case atStart => exact ⟨0, Nat.zero_le _, by rw [HDN.out.x0], H0.out, Kin.refl _ _⟩
    case round =>
      obtain ⟨j, hj, rfl, hD, hK⟩ := hrel
      have hmu := muDw_of hD
      have hdp := hD.dp
      have HDj := Lib.hid hD
      have HKj := Lib.hid hK
      have HMU := Lib.hid hmu
      clear hD hK hmu
      by_cases hlt : j < J
      · obtain ⟨q1, q2, q3, q4, q5⟩ := HDN.out.step j hlt
        have hxr := HDN.out.xr j hj
        have hJ7 := HDN.out.J1
        obtain ⟨T, hT⟩ : ∃ T : Nat, T = (s j).dp.toNat := ⟨_, rfl⟩
        have hTT : (s j).dp = (T : Int) := by omega
        rw [hTT] at hdp
        rw [← hT] at q3 q5
        have hpw := pw_range T
        obtain ⟨P, hP⟩ : ∃ P : Nat, P = pw T := ⟨_, rfl⟩
        rw [← hP] at q3 q5 hpw
        have hT0 : (0 : Int) < T := by omega
        have hT3 : (T : Int) ≤ 310 := by omega
        have hSj := HS.out.kin hB HKj.out
        obtain ⟨pb, po, pc, hpb, hps, hpt⟩ := hSj.pow
        have HQ3 := Lib.hid q3
        have HQ4 := Lib.hid q4
        have HQ5 := Lib.hid q5
        obtain ⟨X, hX⟩ : ∃ X, X = x j := ⟨_, rfl⟩
        have HX := Lib.hid hX
        rw [← hX] at hxr HQ5 ⊢
        have hX1 : X ≤ 20000 := by omega
        by_cases h9 : T < 9
        · have hpc := hpt T P (by rw [hP]; unfold pw; rw [List.getD_eq_getElem?_getD, List.getElem?_eq_getElem (show T < powT.length from h9)]; rfl)
          have h9' : (T : Int) < 9 := by omega
          clear hpt hTT hT hP hX q1 q2 q3 q4 q5 hSj
          go_wp2_with fail
          go_quiet (fail)
          go_wp2_with fail
          go_quiet (fail)
          go_wp2_with fail
          go_wp2_with (go_at_call 173; refine (HQ3.out _ E (HDj.out.drewN _)).mono ?_; rintro e w2 ⟨rfl, hD2, hK2⟩; have HD2 := Lib.hid hD2; have HK2 := Lib.hid hK2; clear hD2 hK2)
          refine ⟨⟨j + 1, by omega, ?_, HD2.out, HKj.out.trans ((Kin.drewN E _ _).trans HK2.out)⟩, ?_⟩
          · rw [HQ5.out]; try rfl
          · rw [HMU.out, muDw_of HD2.out]; exact HQ4.out
        · have hP27 : P = 27 := by rw [hP]; unfold pw; rw [List.getD_eq_getElem?_getD, List.getElem?_eq_none (show powT.length ≤ T by show 9 ≤ T; omega)]; rfl
          subst hP27
          have h9' : 9 ≤ (T : Int) := by omega
          clear hpt hTT hT hP hX q1 q2 q3 q4 q5 hSj
          go_wp2_with fail
          go_quiet (fail)
          go_wp2_with (go_at_call 173; refine (HQ3.out _ E (HDj.out.drewN _)).mono ?_; rintro e w2 ⟨rfl, hD2, hK2⟩; have HD2 := Lib.hid hD2; have HK2 := Lib.hid hK2; clear hD2 hK2)
          refine ⟨⟨j + 1, by omega, ?_, HD2.out, HKj.out.trans ((Kin.drewN E _ _).trans HK2.out)⟩, ?_⟩
          · rw [HQ5.out]; try rfl
          · rw [HMU.out, muDw_of HD2.out]; exact HQ4.out
      · obtain rfl : j = J := by omega
        have hst := HDN.out.stop
        rw [← HDN.out.last] at hst
        obtain ⟨T, hT⟩ : ∃ T : Int, T = (s j).dp := ⟨_, rfl⟩
        rw [← hT] at hdp hst
        have hD1 : DecAt wr E D1 := by rw [← HDN.out.last]; exact HDj.out
        have HD1 := Lib.hid hD1
        clear hT hD1
        go_wp2_with fail
        go_meet
        exact ⟨rfl, HD1.out, HKj.out⟩
  case rest =>
    obtain ⟨rfl, hD1, hK1⟩ := hcut
    have HD1 := Lib.hid hD1
    have HK1 := Lib.hid hK1
    have hx1 := HDN.out.xr J (Nat.le_refl _)
    have hJ7 := HDN.out.J1
    obtain ⟨X0, hX0⟩ : ∃ X0, X0 = x J := ⟨_, rfl⟩
    rw [← hX0] at hx1 HMID ⊢
    clear hD1 hK1 hX0 H0
    go_upto_block 2 with fail
    go_cut [6] from 61 to 102 (fun e wy => e = .int .i64 (X0 + y K) ∧ DecAt wy E D2 ∧ Kin E w wy)
    case first =>
      go_wp2_with fail
      go_loopw [6, 9] (fun e _n wr => ∃ j : Nat, j ≤ K ∧ e = .int .i64 (X0 + y j) ∧ DecAt wr E (t j) ∧ Kin E w wr) (fun _ _ wr => muGw E wr)
      case atStart => exact ⟨0, Nat.zero_le _, by rw [HUP.out.x0, Int.add_zero], by rw [HUP.out.s0]; exact HD1.out, HK1.out⟩
      case round =>
        obtain ⟨j, hj, rfl, hD, hK⟩ := hrel
        have hmu := muGw_of hD
        have hdp := hD.dp
        have hd0 := hD.dig 0 (by decide)
        have HDj := Lib.hid hD
        have HKj := Lib.hid hK
        have HMU := Lib.hid hmu
        clear hD hK hmu
        by_cases hlt : j < K
        · obtain ⟨q1, q2, qf, q3, q4, q5⟩ := HUP.out.step j hlt
          have hxr := HUP.out.xr j hj
          have hK7 := HUP.out.J1
          have hd57 := qf.dig 0 (by have := qf.n1; omega)
          obtain ⟨T, hT⟩ : ∃ T : Nat, T = (-(t j).dp).toNat := ⟨_, rfl⟩
          have hTT : (t j).dp = -(T : Int) := by unfold goesL at q1; omega
          obtain ⟨c0, hc0⟩ : ∃ c0, c0 = (t j).d 0 := ⟨_, rfl⟩
          have hgo : 0 < (T : Int) ∨ (T = 0 ∧ (c0 : Int) < 53) := by unfold goesL at q1; omega
          rw [hTT] at hdp
          rw [← hc0] at hd0 hd57
          rw [← hT] at q3 q5
          have hpw := pw_range T
          obtain ⟨P, hP⟩ : ∃ P : Nat, P = pw T := ⟨_, rfl⟩
          rw [← hP] at q3 q5 hpw
          have hT00 : (0 : Int) ≤ T := by omega
          have hT3 : (T : Int) ≤ 400 := by omega
          have hSj := HS.out.kin hB HKj.out
          obtain ⟨pb, po, pc, hpb, hps, hpt⟩ := hSj.pow
          have HQ3 := Lib.hid (q3 · E B hB)
          have HQ4 := Lib.hid q4
          have HQ5 := Lib.hid q5
          have HSJ := Lib.hid hSj
          obtain ⟨X, hX⟩ : ∃ X, X = X0 + y j := ⟨_, rfl⟩
          have HX := Lib.hid hX
          rw [← hX]
          have hX1 : X ≤ 20000 := by omega
          have hX2 : -100000 ≤ X := by omega
          have HWR := Lib.hid (show IntKind.i64.wrap (-(-(T : Int))) = (T : Int) by rw [IntKind.wrap_i64]; omega)
          rcases hgo with hgo | ⟨hz, hgo⟩
          · by_cases h9 : T < 9
            · have hpc := hpt T P (by rw [hP]; unfold pw; rw [List.getD_eq_getElem?_getD, List.getElem?_eq_getElem (show T < powT.length from h9)]; rfl)
              have h9' : (T : Int) < 9 := by omega
              clear hpt hTT hT hP hX q1 q2 q3 q4 q5 hSj qf hc0 hxr
              go_wp2_with fail
              have hwr := HWR.out
              go_quiet (fail)
              clear hwr
              go_wp2_with fail
              have hwr := HWR.out
              go_quiet (fail)
              clear hwr
              go_wp2_with (go_at_call 173; refine (HQ3.out _ (HSJ.out.kin hB (Kin.drewN E _ _)) (HDj.out.drewN _)).mono ?_; rintro e w2 ⟨rfl, hD2, hK2⟩; have HD2 := Lib.hid hD2; have HK2 := Lib.hid hK2; clear hD2 hK2)
              refine ⟨⟨j + 1, by omega, ?_, HD2.out, HKj.out.trans ((Kin.drewN E _ _).trans HK2.out)⟩, ?_⟩
              · rw [HQ5.out]; have := HX.out; congr 1; omega
              · rw [HMU.out, muGw_of HD2.out]; exact HQ4.out
            · have hP27 : P = 27 := by rw [hP]; unfold pw; rw [List.getD_eq_getElem?_getD, List.getElem?_eq_none (show powT.length ≤ T by show 9 ≤ T; omega)]; rfl
              subst hP27
              have h9' : 9 ≤ (T : Int) := by omega
              clear hpt hTT hT hP hX q1 q2 q3 q4 q5 hSj qf hc0 hxr
              go_wp2_with fail
              have hwr := HWR.out
              go_quiet (fail)
              clear hwr
              go_wp2_with (go_at_call 173; refine (HQ3.out _ (HSJ.out.kin hB (Kin.drewN E _ _)) (HDj.out.drewN _)).mono ?_; rintro e w2 ⟨rfl, hD2, hK2⟩; have HD2 := Lib.hid hD2; have HK2 := Lib.hid hK2; clear hD2 hK2)
              refine ⟨⟨j + 1, by omega, ?_, HD2.out, HKj.out.trans ((Kin.drewN E _ _).trans HK2.out)⟩, ?_⟩
              · rw [HQ5.out]; have := HX.out; congr 1; omega
              · rw [HMU.out, muGw_of HD2.out]; exact HQ4.out
          · have hpc := hpt T P (by rw [hP]; unfold pw; rw [List.getD_eq_getElem?_getD, List.getElem?_eq_getElem (show T < powT.length by show T < 9; omega)]; rfl)
            subst hz
            have hpc' : wr.cell? ⟨pb, po, none⟩ = some (.int .i64 (P : Nat)) := hpc
            have hdp' : wr.cell? ⟨E, 801, none⟩ = some (.int .i64 0) := hdp
            clear hpt hTT hT hP hX q1 q2 q3 q4 q5 hSj qf hc0 hxr hpc hdp hT00 hT3
            go_wp2_with fail
            go_quiet (fail)
            go_wp2_with fail
            go_quiet (fail)
            go_wp2_with (go_at_call 173; refine (HQ3.out _ (HSJ.out.kin hB (Kin.drewN E _ _)) (HDj.out.drewN _)).mono ?_; rintro e w2 ⟨rfl, hD2, hK2⟩; have HD2 := Lib.hid hD2; have HK2 := Lib.hid hK2; clear hD2 hK2)
            refine ⟨⟨j + 1, by omega, ?_, HD2.out, HKj.out.trans ((Kin.drewN E _ _).trans HK2.out)⟩, ?_⟩
            · rw [HQ5.out]; have := HX.out; congr 1; omega
            · rw [HMU.out, muGw_of HD2.out]; exact HQ4.out
        · obtain rfl : j = K := by omega
          have hst := HUP.out.stop
          have hhi := HUP.out.hi
          rw [← HUP.out.last] at hst hhi
          obtain ⟨T, hT⟩ : ∃ T : Int, T = (t j).dp := ⟨_, rfl⟩
          obtain ⟨c0, hc0⟩ : ∃ c0, c0 = (t j).d 0 := ⟨_, rfl⟩
          have hgo : 0 < T ∨ (T = 0 ∧ 53 ≤ (c0 : Int)) := by unfold goesL at hst; omega
          rw [← hT] at hdp
          rw [← hc0] at hd0
          have hD2 : DecAt wr E D2 := by rw [← HUP.out.last]; exact HDj.out
          have HD2 := Lib.hid hD2
          clear hT hD2 hst hhi hc0
          rcases hgo with hgo | ⟨hz, hgo⟩
          · go_wp2_with fail
            go_meet
            exact ⟨rfl, HD2.out, HKj.out⟩
          · subst hz
            go_wp2_with fail
            go_meet
            exact ⟨rfl, HD2.out, HKj.out⟩
    case rest =>
      obtain ⟨rfl, hD2, hK2⟩ := hcut
      have HD2 := Lib.hid hD2
      have HK2 := Lib.hid hK2
      have hx2 := HUP.out.xr K (Nat.le_refl _)
      have hK7 := HUP.out.J1
      obtain ⟨Y, hY⟩ : ∃ Y, Y = X0 + y K := ⟨_, rfl⟩
      rw [← hY] at HMID ⊢
      have hY1 : Y ≤ 20000 := by omega
      have hY2 : -100000 ≤ Y := by omega
      have hs2 := HS.out.kin hB HK2.out
      have HS2 := Lib.hid hs2
      have i0 := hs2.inf0
      have i1 := hs2.inf1
      have i2 := hs2.inf2
      clear hD2 hK2 hY HD1 HK1 HUP HDN HS hs2 hx1 hx2
      go_upto_if 111 with fail
      generalize hcn : decide (Y - 1 < -1022) = cnd
      have HCN := Lib.hid hcn
      clear hcn
      go_cut [6, 10] from 112 to 125 (fun e _n wz => e = .int .i64 e2 ∧ DecAt wz E D3 ∧ Kin E w wz)
      case first =>
        have hcn := HCN.out
        rcases HMID.out with ⟨hm1, rfl, nn, hnn, hn2, hn3, hsr⟩ | ⟨hm1, rfl, rfl⟩
        · obtain rfl : cnd = true := by rw [← hcn]; simp; omega
          have HSR := Lib.hid (hsr _ E HD2.out)
          have HNN := Lib.hid hnn
          have hnn' : -(nn : Int) = -(-1022 - (Y - 1)) := by omega
          rw [hnn'] at HSR
          clear hm1 hnn hsr hnn'
          have he1 : (-1022 - (Y - 1)) ≤ 100000 := by omega
          go_wp2_with (go_at_call 173; refine HSR.out.mono ?_; rintro e w2 ⟨rfl, hD3, hK3⟩; have HD3 := Lib.hid hD3; have HK3 := Lib.hid hK3; clear hD3 hK3)
          go_meet
          exact ⟨by congr 1; omega, HD3.out, HK2.out.trans HK3.out⟩
        · obtain rfl : cnd = false := by rw [← hcn]; simp; omega
          clear hm1
          go_wp2_with fail
          go_meet
          exact ⟨rfl, HD2.out, HK2.out⟩
      case rest =>
        obtain ⟨rfl, hD3, hK3⟩ := hcut
        clear i0 i1 i2 HMID hY1 hY2
        have hsw := HS0.out.kin hB hK3
        have HS3 := Lib.hid hsw
        have i0 := hsw.inf0
        have i1 := hsw.inf1
        have i2 := hsw.inf2
        have HD3 := Lib.hid hD3
        have HK3 := Lib.hid hK3
        clear hD3 hK3 hsw HS2 HD2 HK2
        have hwe : IntKind.i64.wrap (e2 - -1023) = e2 + 1023 := by rw [IntKind.wrap_i64]; omega
        rcases HLATE.out with ⟨l1, rfl, a, b, b2, b3, v1, ⟨ea, eb, eb2, eb3, e1, ev, lt⟩⟩ | ⟨l1, rfl, l2, rfl, a, b, b2, b3, v1, ⟨ea, eb, eb2, eb3, e1, ev, lt⟩⟩ | ⟨l1, rfl, rfl, a, b, b2, b3, v1, ⟨ea, eb, eb2, eb3, e1, ev, lt⟩⟩ | ⟨l1, l2, l3, rfl, a, b, b2, b3, v1, ⟨ea, eb, eb2, eb3, e1, ev, lt⟩⟩ | ⟨l1, l2, l3, rfl, a, b, b2, b3, v1, ⟨ea, eb, eb2, eb3, e1, ev, lt⟩⟩
        · have ea' : bits .and .u64 0 4503599627370495 = (a : Int) := ea
          have eb' : bits .and .i64 2047 2047 = b := eb
          have EV := Lib.hid ev
          have hng := HD3.out.neg
          rw [HNG3.out] at hng
          have hl1' : 2047 ≤ e2 + 1023 := by omega
          clear ea eb ev
          go_wp2_with fail
          go_quiet (fail)
          clear hwe
          go_wp2_with fail
          go_step3
          apply hop_goto1
          go_wp2_with fail
          go_quiet (fail)
          go_wp2_with fail
          go_step3
          cases ng with
          | false =>
            have ev : v = v1 := by have := EV.out; simpa using this
            go_wp2_with fail
            go_quiet (fail)
            go_wp2_with fail
            rw [Exit.noGoto_ret]
            subst ev
            refine bodyPost_ret (v := .tuple #[.int .u64 v, .bool true]) (by simp [results, Tryz.results238, go_sem]) rfl ?_
            exact ⟨rfl, by first | exact HK3.out.trans (Kin.drewN E _ _) | exact HK3.out.trans ((Kin.drewN E _ _).trans (Kin.drewN E _ _)) | exact HK3.out.trans ((Kin.drewN E _ _).trans ((Kin.drewN E _ _).trans (Kin.drewN E _ _)))⟩
          | true =>
            have ev : bits .or .u64 (v1 : Int) 9223372036854775808 = (v : Int) := by have := EV.out; simpa using this
            go_wp2_with fail
            go_quiet (fail)
            go_wp2_with fail
            go_quiet (fail)
            go_wp2_with fail
            rw [Exit.noGoto_ret]
            refine bodyPost_ret (v := .tuple #[.int .u64 v, .bool true]) (by simp [results, Tryz.results238, go_sem]) rfl ?_
            exact ⟨rfl, by first | exact HK3.out.trans (Kin.drewN E _ _) | exact HK3.out.trans ((Kin.drewN E _ _).trans (Kin.drewN E _ _)) | exact HK3.out.trans ((Kin.drewN E _ _).trans ((Kin.drewN E _ _).trans (Kin.drewN E _ _)))⟩
        · have ea' : bits .and .u64 0 4503599627370495 = (a : Int) := ea
          have eb' : bits .and .i64 2047 2047 = b := eb
          have EV := Lib.hid ev
          have hl1' : e2 + 1023 < 2047 := by omega
          have hl2' : 2047 ≤ e2 + 1 + 1023 := by omega
          have HWE := Lib.hid (show IntKind.i64.wrap (e2 + 1 - -1023) = e2 + 1 + 1023 by rw [IntKind.wrap_i64]; omega)
          clear ea eb ev
          go_wp2_with fail
          go_quiet (fail)
          clear hwe
          go_wp2_with (first
            | (go_at_call 173; refine (HSL.out _ E B hB (HS3.out.kin hB (Kin.drewN E _ _)) (HD3.out.drewN _)).mono ?_; rintro e w4 ⟨rfl, hD4, hK4⟩; have HD4 := Lib.hid hD4; have HK4 := Lib.hid ((Kin.drewN E _ _).trans hK4); have hs4 := HS3.out.kin hB HK4.out; have j0 := hs4.inf0; have j1 := hs4.inf1; have j2 := hs4.inf2; have hng := hD4.neg; rw [HNG.out] at hng; clear hs4 hD4 hK4)
            | (go_at_call 268; refine (HRI.out _ E HD4.out).mono ?_; rintro e w5 ⟨rfl, rfl⟩))
          have hwe2 := HWE.out
          go_quiet (fail)
          clear hwe2
          go_wp2_with fail
          go_step3
          apply hop_goto1
          go_wp2_with fail
          go_quiet (fail)
          go_wp2_with fail
          go_step3
          cases ng with
          | false =>
            have ev : v = v1 := by have := EV.out; simpa using this
            go_wp2_with fail
            go_quiet (fail)
            go_wp2_with fail
            rw [Exit.noGoto_ret]
            subst ev
            refine bodyPost_ret (v := .tuple #[.int .u64 v, .bool true]) (by simp [results, Tryz.results238, go_sem]) rfl ?_
            exact ⟨rfl, by first | exact (HK3.out.trans HK4.out).trans (Kin.drewN E _ _) | exact (HK3.out.trans HK4.out).trans ((Kin.drewN E _ _).trans (Kin.drewN E _ _)) | exact (HK3.out.trans HK4.out).trans ((Kin.drewN E _ _).trans ((Kin.drewN E _ _).trans (Kin.drewN E _ _)))⟩
          | true =>
            have ev : bits .or .u64 (v1 : Int) 9223372036854775808 = (v : Int) := by have := EV.out; simpa using this
            go_wp2_with fail
            go_quiet (fail)
            go_wp2_with fail
            go_quiet (fail)
            go_wp2_with fail
            rw [Exit.noGoto_ret]
            refine bodyPost_ret (v := .tuple #[.int .u64 v, .bool true]) (by simp [results, Tryz.results238, go_sem]) rfl ?_
            exact ⟨rfl, by first | exact (HK3.out.trans HK4.out).trans (Kin.drewN E _ _) | exact (HK3.out.trans HK4.out).trans ((Kin.drewN E _ _).trans (Kin.drewN E _ _)) | exact (HK3.out.trans HK4.out).trans ((Kin.drewN E _ _).trans ((Kin.drewN E _ _).trans (Kin.drewN E _ _)))⟩
        · have ea' : bits .and .u64 4503599627370496 4503599627370495 = (a : Int) := ea
          have eb' : bits .and .i64 (e2 + 1 + 1023) 2047 = b := eb
          have EV := Lib.hid ev
          have hl1' : e2 + 1023 < 2047 := by omega
          have hl2' : e2 + 1 + 1023 < 2047 := by omega
          have HWE := Lib.hid (show IntKind.i64.wrap (e2 + 1 - -1023) = e2 + 1 + 1023 by rw [IntKind.wrap_i64]; omega)
          have hbb : bits .and .u64 4503599627370496 4503599627370496 = 4503599627370496 := by decide
          clear ea eb ev
          go_wp2_with fail
          go_quiet (fail)
          clear hwe
          go_wp2_with (first
            | (go_at_call 173; refine (HSL.out _ E B hB (HS3.out.kin hB (Kin.drewN E _ _)) (HD3.out.drewN _)).mono ?_; rintro e w4 ⟨rfl, hD4, hK4⟩; have HD4 := Lib.hid hD4; have HK4 := Lib.hid ((Kin.drewN E _ _).trans hK4); have hs4 := HS3.out.kin hB HK4.out; have j0 := hs4.inf0; have j1 := hs4.inf1; have j2 := hs4.inf2; have hng := hD4.neg; rw [HNG.out] at hng; clear hs4 hD4 hK4)
            | (go_at_call 268; refine (HRI.out _ E HD4.out).mono ?_; rintro e w5 ⟨rfl, rfl⟩))
          have hwe2 := HWE.out
          go_quiet (fail)
          clear hwe2
          go_wp2_with fail
          have hwe3 := HWE.out
          go_step3
          apply hop_goto0
          cases ng with
          | false =>
            have ev : v = v1 := by have := EV.out; simpa using this
            go_wp2_with fail
            go_quiet (fail)
            go_wp2_with fail
            rw [Exit.noGoto_ret]
            subst ev
            refine bodyPost_ret (v := .tuple #[.int .u64 v, .bool false]) (by simp [results, Tryz.results238, go_sem]) rfl ?_
            exact ⟨rfl, by first | exact (HK3.out.trans HK4.out).trans (Kin.drewN E _ _) | exact (HK3.out.trans HK4.out).trans ((Kin.drewN E _ _).trans (Kin.drewN E _ _)) | exact (HK3.out.trans HK4.out).trans ((Kin.drewN E _ _).trans ((Kin.drewN E _ _).trans (Kin.drewN E _ _)))⟩
          | true =>
            have ev : bits .or .u64 (v1 : Int) 9223372036854775808 = (v : Int) := by have := EV.out; simpa using this
            go_wp2_with fail
            go_quiet (fail)
            go_wp2_with fail
            go_quiet (fail)
            go_wp2_with fail
            rw [Exit.noGoto_ret]
            refine bodyPost_ret (v := .tuple #[.int .u64 v, .bool false]) (by simp [results, Tryz.results238, go_sem]) rfl ?_
            exact ⟨rfl, by first | exact (HK3.out.trans HK4.out).trans (Kin.drewN E _ _) | exact (HK3.out.trans HK4.out).trans ((Kin.drewN E _ _).trans (Kin.drewN E _ _)) | exact (HK3.out.trans HK4.out).trans ((Kin.drewN E _ _).trans ((Kin.drewN E _ _).trans (Kin.drewN E _ _)))⟩
        · have eb' : bits .and .i64 0 2047 = b := eb
          have EV := Lib.hid ev
          have hl1' : e2 + 1023 < 2047 := by omega
          have hl2' : ((m0 : Int) == 9007199254740992) = false := by simp; omega
          have L2 := Lib.hid l2
          clear eb ev l2
          go_wp2_with fail
          go_quiet (fail)
          clear hwe
          go_wp2_with (first
            | (go_at_call 173; refine (HSL.out _ E B hB (HS3.out.kin hB (Kin.drewN E _ _)) (HD3.out.drewN _)).mono ?_; rintro e w4 ⟨rfl, hD4, hK4⟩; have HD4 := Lib.hid hD4; have HK4 := Lib.hid ((Kin.drewN E _ _).trans hK4); have hs4 := HS3.out.kin hB HK4.out; have j0 := hs4.inf0; have j1 := hs4.inf1; have j2 := hs4.inf2; have hng := hD4.neg; rw [HNG.out] at hng; clear hs4 hD4 hK4)
            | (go_at_call 268; refine (HRI.out _ E HD4.out).mono ?_; rintro e w5 ⟨rfl, rfl⟩))
          go_step3
          apply hop_goto0
          cases ng with
          | false =>
            have ev : v = v1 := by have := EV.out; simpa using this
            go_wp2_with fail
            go_quiet (fail)
            go_wp2_with fail
            rw [Exit.noGoto_ret]
            subst ev
            refine bodyPost_ret (v := .tuple #[.int .u64 v, .bool false]) (by simp [results, Tryz.results238, go_sem]) rfl ?_
            exact ⟨rfl, by first | exact (HK3.out.trans HK4.out).trans (Kin.drewN E _ _) | exact (HK3.out.trans HK4.out).trans ((Kin.drewN E _ _).trans (Kin.drewN E _ _)) | exact (HK3.out.trans HK4.out).trans ((Kin.drewN E _ _).trans ((Kin.drewN E _ _).trans (Kin.drewN E _ _)))⟩
          | true =>
            have ev : bits .or .u64 (v1 : Int) 9223372036854775808 = (v : Int) := by have := EV.out; simpa using this
            go_wp2_with fail
            go_quiet (fail)
            go_wp2_with fail
            go_quiet (fail)
            go_wp2_with fail
            rw [Exit.noGoto_ret]
            refine bodyPost_ret (v := .tuple #[.int .u64 v, .bool false]) (by simp [results, Tryz.results238, go_sem]) rfl ?_
            exact ⟨rfl, by first | exact (HK3.out.trans HK4.out).trans (Kin.drewN E _ _) | exact (HK3.out.trans HK4.out).trans ((Kin.drewN E _ _).trans (Kin.drewN E _ _)) | exact (HK3.out.trans HK4.out).trans ((Kin.drewN E _ _).trans ((Kin.drewN E _ _).trans (Kin.drewN E _ _)))⟩
        · have EV := Lib.hid ev
          have hl1' : e2 + 1023 < 2047 := by omega
          have hl2' : ((m0 : Int) == 9007199254740992) = false := by simp; omega
          have L2 := Lib.hid l2
          have HWE := Lib.hid hwe
          clear ev l2
          go_wp2_with fail
          go_quiet (fail)
          clear hwe
          go_wp2_with (first
            | (go_at_call 173; refine (HSL.out _ E B hB (HS3.out.kin hB (Kin.drewN E _ _)) (HD3.out.drewN _)).mono ?_; rintro e w4 ⟨rfl, hD4, hK4⟩; have HD4 := Lib.hid hD4; have HK4 := Lib.hid ((Kin.drewN E _ _).trans hK4); have hs4 := HS3.out.kin hB HK4.out; have j0 := hs4.inf0; have j1 := hs4.inf1; have j2 := hs4.inf2; have hng := hD4.neg; rw [HNG.out] at hng; clear hs4 hD4 hK4)
            | (go_at_call 268; refine (HRI.out _ E HD4.out).mono ?_; rintro e w5 ⟨rfl, rfl⟩))
          have hwe3 := HWE.out
          go_step3
          apply hop_goto0
          cases ng with
          | false =>
            have ev : v = v1 := by have := EV.out; simpa using this
            go_wp2_with fail
            go_quiet (fail)
            go_wp2_with fail
            rw [Exit.noGoto_ret]
            subst ev
            refine bodyPost_ret (v := .tuple #[.int .u64 v, .bool false]) (by simp [results, Tryz.results238, go_sem]) rfl ?_
            exact ⟨rfl, by first | exact (HK3.out.trans HK4.out).trans (Kin.drewN E _ _) | exact (HK3.out.trans HK4.out).trans ((Kin.drewN E _ _).trans (Kin.drewN E _ _)) | exact (HK3.out.trans HK4.out).trans ((Kin.drewN E _ _).trans ((Kin.drewN E _ _).trans (Kin.drewN E _ _)))⟩
          | true =>
            have ev : bits .or .u64 (v1 : Int) 9223372036854775808 = (v : Int) := by have := EV.out; simpa using this
            go_wp2_with fail
            go_quiet (fail)
            go_wp2_with fail
            go_quiet (fail)
            go_wp2_with fail
            rw [Exit.noGoto_ret]
            refine bodyPost_ret (v := .tuple #[.int .u64 v, .bool false]) (by simp [results, Tryz.results238, go_sem]) rfl ?_
            exact ⟨rfl, by first | exact (HK3.out.trans HK4.out).trans (Kin.drewN E _ _) | exact (HK3.out.trans HK4.out).trans ((Kin.drewN E _ _).trans (Kin.drewN E _ _)) | exact (HK3.out.trans HK4.out).trans ((Kin.drewN E _ _).trans ((Kin.drewN E _ _).trans (Kin.drewN E _ _)))⟩

/-- floatBits: bits and an error's sign that hang on the decimal alone. -/
theorem fbits_ex (D : Dec) (hf : D.nd = 0 ∨ Fit D) (hp1 : -500000 ≤ D.dp) (hp2 : D.dp ≤ 500000) : ∃ (v : Nat) (ovf : Bool), v < 18446744073709551616 ∧ (ovf = true → finf v = true) ∧
      ∀ (w : World) (E B : Nat), B ≤ E → Slow B w → DecAt w E D → Calls Tryz.prog 238 #[.pointer (some ⟨E, 0, none⟩), .pointer (some ⟨6, 0, none⟩)] w fun e w' => e = .returned (.tuple #[.int .u64 v, .bool ovf]) ∧ Kin E w w' := by
  rcases hf with h0 | hf
  · obtain ⟨v, hv, h⟩ := fbits_zero D h0
    exact ⟨v, false, hv, by simp, h⟩
  · have n1 := hf.n1
    by_cases ha : D.dp < -330
    · obtain ⟨v, hv, h⟩ := fbits_low D n1 ha (by omega)
      exact ⟨v, false, hv, by simp, h⟩
    · by_cases hb : 310 < D.dp
      · obtain ⟨v, hv, hi, h⟩ := fbits_high D n1 hb (by omega)
        exact ⟨v, true, hv, fun _ => hi, h⟩
      · have hd57 := hf.dig 0 (by omega)
        obtain ⟨D1, J, s, x, hdn, -⟩ := down_ex 700 D (by unfold muD; split <;> omega) (by omega) hf (by omega) (by omega)
        have hst := hdn.stop
        have hlo := hdn.lo
        obtain ⟨D2, K, t, y, hup, -⟩ := up_ex 3500 D1 (by unfold muU; have := hdn.fit.d0; omega) (by omega) hdn.fit (by omega) (by omega)
        have hst2 := hup.stop
        have hhi2 := hup.hi
        have hd20 : 0 ≤ D2.dp := by unfold goesL at hst2; omega
        have hx := hdn.xr J (Nat.le_refl _)
        have hJ := hdn.J1
        have hy := hup.xr K (Nat.le_refl _)
        have hK := hup.J1
        have hm : ∃ D3 e2, Mid (x J + y K - 1) D2 D3 e2 ∧ Fit D3 ∧ D3.neg = D2.neg ∧ -1022 ≤ e2 ∧ e2 ≤ 100000 ∧ -50000 ≤ D3.dp ∧ D3.dp ≤ 100 := by
          by_cases hE : x J + y K - 1 < -1022
          · obtain ⟨nn, hnn⟩ : ∃ nn : Nat, nn = (-1022 - (x J + y K - 1)).toNat := ⟨_, rfl⟩
            obtain ⟨D3, -, hf3, hd3, hd4, hn3, hs⟩ := shiftR_ex D2 nn (by omega) (by omega) hup.fit (by omega) (by omega)
            exact ⟨D3, -1022, Or.inl ⟨hE, rfl, nn, by omega, by omega, by omega, hs⟩, hf3, hn3, by omega, by omega, by omega, by omega⟩
          · exact ⟨D2, x J + y K - 1, Or.inr ⟨by omega, rfl, rfl⟩, hup.fit, rfl, by omega, by omega, by omega, by omega⟩
        obtain ⟨D3, e2, hmid, hf3, hn3, he2, he3, hp3, hp4⟩ := hm
        obtain ⟨D4, Δ, hΔ, -, hf4, hdp4, hn4, hsl⟩ := shiftL_ex D3 53 (by decide) (by decide) hf3 (by omega) (by omega)
        obtain ⟨m0, hm0, hri⟩ := rint_ex D4 hf4.n8 hf4.dig (by omega) (by omega)
        obtain ⟨v, ovf, hl, hv, hi⟩ := late_ex e2 m0 D.neg
        have hng3 : D3.neg = D.neg := by rw [hn3, hup.neg, hdn.neg]
        exact ⟨v, ovf, hv, hi, fun w E B hB hs h => fbits_walk D D1 D2 D3 D4 J K s t x y e2 m0 v ovf n1 (by omega) (by omega) hdn hup hmid hsl hri hm0 hng3 (by rw [hn4, hng3]) he2 he3 hl w E B hB hs h⟩
end Go.Proofs.YtlmogijkkhdogaaGreatDoor
