/- strconv's decimal.set at a number's text. -/
import Derived.Test.YtlmogijkkhdogaaGreatDoorHe
import Derived.BigRegion
namespace Go.Proofs.YtlmogijkkhdogaaGreatDoor
open Go.RowKit
set_option maxRecDepth 100000

def dstep (s : Dec × Bool) (c : UInt8) : Dec × Bool :=
  if c = 46 then ({ s.1 with dp := s.1.nd }, true)
  else if c = 48 ∧ s.1.nd = 0 then ({ s.1 with dp := s.1.dp - 1 }, s.2)
  else ({ (s.1.put s.1.nd c.toNat) with nd := s.1.nd + 1 }, s.2)
def zeroD (b : Bool) : Dec := ⟨fun _ => 0, 0, 0, b, false⟩
def dread (b : Bool) (l : List UInt8) : Dec × Bool := l.foldl dstep (zeroD b, false)
theorem dread_snoc (b : Bool) (l : List UInt8) (c : UInt8) : dread b (l ++ [c]) = dstep (dread b l) c := by
  unfold dread; rw [List.foldl_append]; rfl
theorem dstep_dot (s : Dec × Bool) : dstep s 46 = ({ s.1 with dp := s.1.nd }, true) := by unfold dstep; rw [if_pos rfl]
theorem dstep_lead {s : Dec × Bool} (h : s.1.nd = 0) : dstep s 48 = ({ s.1 with dp := s.1.dp - 1 }, s.2) := by unfold dstep; rw [if_neg (by decide), if_pos ⟨rfl, h⟩]
theorem dstep_in {s : Dec × Bool} {c : UInt8} (h0 : c ≠ 46) (h1 : ¬ (c = 48 ∧ s.1.nd = 0)) : dstep s c = ({ (s.1.put s.1.nd c.toNat) with nd := s.1.nd + 1 }, s.2) := by unfold dstep; rw [if_neg h0, if_neg h1]
structure DOk (s : Dec × Bool) (l : List UInt8) : Prop where
  nd : s.1.nd ≤ l.length
  dp1 : s.1.dp ≤ l.length
  dp2 : -(l.length : Int) ≤ s.1.dp
  dot : s.2 = true → 46 ∈ l
  dig : DigOk s.1
  d0 : 1 ≤ s.1.nd → 49 ≤ s.1.d 0
theorem dstep_ok {s : Dec × Bool} {l : List UInt8} {c : UInt8} (h : DOk s l) (hc : isDig c = true ∨ c = 46) : DOk (dstep s c) (l ++ [c]) := by
  obtain ⟨a1, a2, a3, a4, a5, a6⟩ := h
  have hm : ∀ q, q ∈ l → q ∈ l ++ [c] := fun q hq => List.mem_append_left _ hq
  by_cases h1 : c = 46
  · subst h1
    rw [dstep_dot]
    exact ⟨by simp; omega, by simp; omega, by simp; omega, fun _ => by simp, a5, a6⟩
  · by_cases h2 : c = 48 ∧ s.1.nd = 0
    · obtain ⟨rfl, h2⟩ := h2
      rw [dstep_lead h2]
      exact ⟨by simp; omega, by simp; omega, by simp; omega, fun h => hm _ (a4 h), a5, a6⟩
    · rw [dstep_in h1 h2]
      have hd := (isDig_iff c).1 (hc.resolve_right h1)
      have ep : (s.1.put s.1.nd c.toNat).dp = s.1.dp := rfl
      refine ⟨by simp; omega, by simp [ep]; omega, by simp [ep]; omega, fun h => hm _ (a4 h), fun i hi => ?_, fun _ => ?_⟩
      · show 48 ≤ (if i = s.1.nd then c.toNat else s.1.d i) ∧ (if i = s.1.nd then c.toNat else s.1.d i) ≤ 57
        replace hi : i < s.1.nd + 1 := hi
        split
        · exact hd
        · exact a5 i (by omega)
      · show 49 ≤ (if 0 = s.1.nd then c.toNat else s.1.d 0)
        by_cases h3 : 0 = s.1.nd
        · rw [if_pos h3]
          have : c.toNat ≠ 48 := fun h => h2 ⟨UInt8.toNat_inj.1 (by rw [h]; rfl), h3.symm⟩
          omega
        · rw [if_neg h3]
          exact a6 (by omega)
theorem dfold_ok : ∀ (l pre : List UInt8) (s : Dec × Bool), DOk s pre → (∀ c ∈ l, isDig c = true ∨ c = 46) → DOk (l.foldl dstep s) (pre ++ l)
  | [], pre, s, h, _ => by simpa using h
  | c :: l, pre, s, h, hc => by
    have := dfold_ok l (pre ++ [c]) (dstep s c) (dstep_ok h (hc c (by simp))) fun q hq => hc q (List.mem_cons_of_mem _ hq)
    simpa using this
theorem dread_ok (b : Bool) (l : List UInt8) (h : ∀ c ∈ l, isDig c = true ∨ c = 46) : DOk (dread b l) l := by
  have := dfold_ok l [] (zeroD b, false) ⟨Nat.zero_le _, Int.le_refl _, Int.le_refl _, by simp, fun i hi => absurd hi (Nat.not_lt_zero _), fun h => absurd h (show ¬ 1 ≤ 0 by decide)⟩ h
  rw [List.nil_append] at this
  exact this
/-- the decimal without the exponent -/
def dotD (b : Bool) (body : List UInt8) : Dec := { (dread b body).1 with dp := if (dread b body).2 then (dread b body).1.dp else (dread b body).1.nd }
def setD (b : Bool) (body : List UInt8) (v : Int) : Dec := { dotD b body with dp := (dotD b body).dp + v }
theorem setD_fit (b : Bool) (body : List UInt8) (v : Int) (h : ∀ c ∈ body, isDig c = true ∨ c = 46) (hl : body.length ≤ 300) (h1 : -100000 ≤ v) (h2 : v ≤ 100000) :
    ((setD b body v).nd = 0 ∨ Fit (setD b body v)) ∧ -500000 ≤ (setD b body v).dp ∧ (setD b body v).dp ≤ 500000 := by
  obtain ⟨a1, a2, a3, a4, a5, a6⟩ := dread_ok b body h
  have e : (setD b body v).dp = (if (dread b body).2 then (dread b body).1.dp else (dread b body).1.nd) + v := rfl
  refine ⟨?_, by rw [e]; split <;> omega, by rw [e]; split <;> omega⟩
  by_cases hn : (dread b body).1.nd = 0
  · exact Or.inl hn
  · refine Or.inr ⟨show 1 ≤ (dread b body).1.nd by omega, show (dread b body).1.nd ≤ 800 by omega, a5, a6 (by omega)⟩

theorem dread_dig (b : Bool) {l : List UInt8} (h : ∀ c ∈ l, isDig c = true ∨ c = 46) (hl : l.length ≤ 300) : (dread b l).1.nd ≤ 300 ∧ -300 ≤ (dread b l).1.dp ∧ (dread b l).1.dp ≤ 300 := by
  obtain ⟨a1, a2, a3, _⟩ := dread_ok b l h
  omega
set_option maxHeartbeats 6400000 in
theorem set_any (b : Bool) (body : List UInt8) (x : Ex) (hb : bodyOk body) (hx : x.ok) (hl3 : body.length ≤ 300) (w : World) (E : Nat) (hD : DecAt w E (zeroD false)) :
    Calls Tryz.prog 237 #[.pointer (some ⟨E, 0, none⟩), .string ⟨(txt b body x).toArray⟩] w fun e w' => e = .returned (.bool true) ∧ DecAt w' E (setD b body x.val) ∧ Kin E w w' := by
  obtain ⟨h1, h2, ⟨c, t, hct, hc⟩, h4⟩ := hb
  have hc' := (isDig_iff c).1 hc
  have hbl : 1 ≤ body.length := by rw [hct]; simp
  have hL := txt_len b body x
  have hp := sgB_le b
  have hxl := Ex.len hx
  have hlow := fun h' => txt_next (b := b) h1 hbl hx h'
  have hat := fun k (h : k < body.length) => txt_at (b := b) (x := x) h
  have H0 := Lib.hid hct
  have HC := Lib.hid hc
  have H1 := Lib.hid h1
  have H2 := Lib.hid h2
  have HX := Lib.hid hx
  have hsg : b = true → (txt b body x)[0]? = some 45 := by rintro rfl; rfl
  have hsg' : b = false → (txt b body x)[0]? = some c := by rintro rfl; rw [hct]; rfl
  have hpp : (sgB b).length = if b then 1 else 0 := by cases b <;> rfl
  clear h1 h2 hx hct
  generalize hT : txt b body x = T at hL hlow hat hsg hsg' ⊢
  have HT := Lib.hid hT
  clear hT
  generalize hP : (sgB b).length = p at hL hp hlow hat hpp
  have HP := Lib.hid hP
  clear hP
  have hat0 := hat 0 hbl
  have h3 : (0 : Nat) < (⟨T.toArray⟩ : ByteArray).size := by show 0 < T.length; omega
  have hsz : p < (⟨T.toArray⟩ : ByteArray).size := by show p < T.length; omega
  have gc : (⟨T.toArray⟩ : ByteArray)[p]'hsz = c := by
    have e1 : T[p + 0]'hsz = body[0] := hat0 hsz
    have e2 : body[0] = c := by simp only [H0.out, List.getElem_cons_zero]
    exact e1.trans e2
  have glow : ∀ h : p + 1 < (⟨T.toArray⟩ : ByteArray).size, ((lowN ((⟨T.toArray⟩ : ByteArray)[p + 1]'h) : Int) == 120) = false := by
    intro h
    have := hlow h
    rw [byte_get _ _ h]
    simp; omega
  have HAT := Lib.hid hat
  have HS := Lib.hid hsg
  have HS' := Lib.hid hsg'
  have HPP := Lib.hid hpp
  obtain ⟨n, hn⟩ : ∃ n, n = T.length := ⟨_, rfl⟩
  have HL := Lib.hid hL
  have hT1 : (0 : Int) < (n : Int) := by omega
  have hT2 : (n : Int) ≤ 3000 := by omega
  have hT3 : (p : Int) < (n : Int) := by omega
  replace hL : T.length = n := hn.symm
  clear hat hsg hsg' hpp hat0 hlow hn
  have hneg := hD.neg
  have htr := hD.tr
  have hfr := hD.froz
  have HD := Lib.hid hD
  clear hD
  go_enter Tryz.func237, Tryz.ntmps237
  go_upto_block 0 with fail
  have hA := (HD.out.setNeg false).setTr false
  have hKA := (Kin.set E 802 w (.bool false)).trans (Kin.set E 803 _ (.bool false))
  clear hneg htr hfr HD
  generalize (w.setCell ⟨E, 802, none⟩ (.bool false)).setCell ⟨E, 803, none⟩ (.bool false) = w1 at *
  have hneg := hA.neg
  have hfr := hA.froz
  have HA := Lib.hid hA
  have HKA := Lib.hid hKA
  clear hA hKA
  go_cut [5, 22] from 23 to 33 (fun i _t wx => i = .int .i64 p ∧ DecAt wx E (zeroD b) ∧ Kin E w wx)
  case first =>
    cases b
    · have g0 : (⟨T.toArray⟩ : ByteArray)[0]'h3 = c := by
        have := HS'.out rfl
        rw [List.getElem?_eq_getElem (show 0 < T.length from h3)] at this
        exact Option.some.inj this
      have n1 : ((c.toNat : Int) == 43) = false := by simp; omega
      have n2 : ((c.toNat : Int) == 45) = false := by simp; omega
      have hpp : p = 0 := HPP.out
      clear HPP HS HS' HAT glow gc
      subst hpp
      go_wp2_with fail
      all_goals (go_meet; exact ⟨rfl, HA.out, HKA.out⟩)
    · have g0 : (⟨T.toArray⟩ : ByteArray)[0]'h3 = 45 := by
        have := HS.out rfl
        rw [List.getElem?_eq_getElem (show 0 < T.length from h3)] at this
        exact Option.some.inj this
      have hpp : p = 1 := HPP.out
      clear HPP HS HS' HAT glow gc
      subst hpp
      go_wp2_with fail
      all_goals (go_meet; exact ⟨rfl, HA.out.setNeg true, HKA.out.trans (Kin.set E 802 _ _)⟩)
  case rest =>
    obtain ⟨rfl, hB, hKB⟩ := hcut
    have HB := Lib.hid hB
    have HKB := Lib.hid hKB
    clear hB hKB hneg hfr HA HKA glow gc HS HS' HPP
    go_upto_block 1 with fail
    go_cut [5, 6, 7] from 34 to 116 (fun i dot dg wy => i = .int .i64 (p + body.length : Nat) ∧ dot = .bool (dread b body).2 ∧ dg = .bool true ∧ DecAt wy E (dread b body).1 ∧ Kin E w wy)
    case first =>
      go_wp2_with fail
      go_loopw [5, 6, 7] (fun i dot dg wr => ∃ k : Nat, k ≤ body.length ∧ i = .int .i64 (p + k : Nat) ∧ dot = .bool (dread b (body.take k)).2 ∧ dg = .bool (decide (1 ≤ k)) ∧ DecAt wr E (dread b (body.take k)).1 ∧ Kin E w wr) (fun i _ _ _ => p + body.length - (RowKit.intOf i).toNat)
      case atStart => exact ⟨0, Nat.zero_le _, by simp, rfl, rfl, HB.out, HKB.out⟩
      case round =>
        obtain ⟨k, hk, rfl, rfl, rfl, hDk, hKk⟩ := hrel
        have hok := dread_ok b (body.take k) fun q hq => H1.out q (List.mem_of_mem_take hq)
        have HDk := Lib.hid hDk
        have HKk := Lib.hid hKk
        clear hDk hKk
        by_cases hlt : k < body.length
        · have hnext : dread b (body.take (k + 1)) = dstep (dread b (body.take k)) body[k] := by
            rw [List.take_succ_eq_append_getElem hlt, dread_snoc]
          have HN := Lib.hid hnext
          have htl := List.length_take_le k body
          clear hnext
          generalize hs : dread b (body.take k) = s at *
          obtain ⟨a1, a2, a3, a4, a5, a6⟩ := hok
          have hC := H1.out _ (List.getElem_mem hlt)
          obtain ⟨q, hq⟩ : ∃ q, q = p + k := ⟨_, rfl⟩
          have hqs : q < (⟨T.toArray⟩ : ByteArray).size := by show q < T.length; have := HL.out; omega
          have hidx : (⟨T.toArray⟩ : ByteArray)[q]'hqs = body[k] := by
            have e := HAT.out k hlt (by rw [← hq]; exact hqs)
            subst hq
            exact e
          have hdot : body[k] = 46 → s.2 = false := by
            intro h46
            cases hsd : s.2
            · rfl
            · exfalso
              have m1 := List.count_pos_iff.2 (a4 hsd)
              have m2 : 1 ≤ (body.drop k).count 46 := List.count_pos_iff.2 (by rw [← h46]; exact List.mem_drop_iff_getElem.2 ⟨0, by omega, by simp⟩)
              have m3 := H2.out
              rw [← List.take_append_drop k body, List.count_append] at m3
              omega
          have hk1 : body[k] = 46 → 1 ≤ k := by
            intro h46
            cases k with
            | zero =>
              exfalso
              have e1 : body[0] = c := by simp only [H0.out, List.getElem_cons_zero]
              rw [e1] at h46
              have := HC.out
              rw [h46] at this
              exact absurd this (by decide)
            | succ k => omega
          generalize body[k] = C at *
          have hqn : (p : Int) + k < n := by have := HL.out; omega
          have hmes : p + body.length - (q + 1) < p + body.length - q := by omega
          rw [← hq]
          have hq1 : (q : Int) < n := by omega
          have hq0 : (0 : Int) ≤ q := by omega
          have HQ := Lib.hid hq
          have HLT := Lib.hid hlt
          have HDOT := Lib.hid hdot
          have HHS := Lib.hid hs
          have HK1 := Lib.hid hk1
          have hk3 : (k : Int) ≤ 1000 := by omega
          have hnd3 : s.1.nd ≤ 300 := by omega
          have hdp1 : s.1.dp ≤ 1000 := by omega
          have hdp2 : -1000 ≤ s.1.dp := by omega
          have hnd := HDk.out.nd
          have hdp := HDk.out.dp
          have hdw := HDk.out.dig s.1.nd (by omega)
          have hfr := HDk.out.froz
          obtain ⟨m, hm⟩ : ∃ m, m = s.1.nd := ⟨_, rfl⟩
          obtain ⟨P, hP⟩ : ∃ P, P = s.1.dp := ⟨_, rfl⟩
          rw [← hm] at hnd hdw hnd3
          rw [← hP] at hdp hdp1 hdp2
          have HM := Lib.hid hm
          have HPD := Lib.hid hP
          have hm0 : (0 : Int) ≤ m := by omega
          have hm8 : (m : Int) < 800 := by omega
          have hm9 : m ≠ 800 := by omega
          generalize hdg : decide (1 ≤ k) = g at *
          have HG := Lib.hid hdg
          clear hq hlt hdot hs hk1 a1 a2 a3 a4 a5 a6 hqn htl hm hP hdg
          by_cases h46 : C = 46
          · have hr := HN.out
            rw [h46, dstep_dot] at hr
            have HR := Lib.hid hr
            have hsd := HDOT.out h46
            have hg1 : g = true := by rw [← HG.out]; exact decide_eq_true (HK1.out h46)
            have e1 : ((C.toNat : Int) == 95) = false := by rw [h46]; rfl
            have e2 : (C.toNat : Int) = 46 := by rw [h46]; rfl
            rw [hsd]
            clear h46 hr hC hsd
            go_wp2_with fail
            go_roundw
            case rel => exact ⟨k + 1, HLT.out, by rw [← Nat.add_assoc, ← HQ.out]; go_num, by rw [HR.out], by rw [hg1]; simp, by rw [HR.out]; have := HDk.out.setDp m; rw [HM.out] at this ⊢; exact this, HKk.out.trans (Kin.set E 801 _ _)⟩
            case measure => simp [RowKit.intOf]; omega
          · have hdg := (isDig_iff C).1 (hC.resolve_right h46)
            have e1 : ((C.toNat : Int) == 95) = false := by simp; omega
            have e2 : ((C.toNat : Int) == 46) = false := by
              simp; intro h; exact h46 (UInt8.toNat_inj.1 (by rw [show (46 : UInt8).toNat = 46 from rfl]; omega))
            have e3 : (48 : Int) ≤ (C.toNat : Int) := by omega
            have e4 : (C.toNat : Int) ≤ 57 := by omega
            by_cases hlead : C = 48 ∧ s.1.nd = 0
            · have hr := HN.out
              rw [hlead.1, dstep_lead hlead.2] at hr
              have HR := Lib.hid hr
              have e5 : (C.toNat : Int) = 48 := by rw [hlead.1]; rfl
              have e6 : (m : Int) = 0 := by rw [HM.out, hlead.2]; rfl
              clear hlead hr hC h46 hdg hdw
              go_wp2_with fail
              go_roundw
              case rel => exact ⟨k + 1, HLT.out, by rw [← Nat.add_assoc, ← HQ.out]; go_num, by rw [HR.out], by simp, by rw [HR.out]; have := HDk.out.setDp (P - 1); rw [HPD.out] at this ⊢; exact this, HKk.out.trans (Kin.set E 801 _ _)⟩
              case measure => simp [RowKit.intOf]; omega
            · have hr := HN.out
              rw [dstep_in h46 hlead] at hr
              have HR := Lib.hid hr
              have hstep : ∀ wz, DecAt wz E (s.1.put m C.toNat) → wz.cell? ⟨E, 800, none⟩ = some (.int .i64 (m : Nat)) := by
                intro wz hz
                have := hz.nd
                rw [HM.out]
                exact this
              have HST := Lib.hid hstep
              by_cases h48 : C.toNat = 48
              · have H48 := Lib.hid h48
                have e5 : (C.toNat : Int) = 48 := by omega
                have e6 : ((m : Int) == 0) = false := by
                  have h1 : C = 48 := UInt8.toNat_inj.1 (by rw [h48]; rfl)
                  have h0 : ¬ s.1.nd = 0 := fun h0 => hlead ⟨h1, h0⟩
                  rw [← HM.out] at h0; simp; omega
                clear hlead hr hC h46 hdg hstep h48
                go_wp2_with fail
                go_region
                obtain ⟨w5, hw5⟩ : ∃ w5, w5 = (wr.setCell ⟨E, m, none⟩ (.int .u8 48)).drew := ⟨_, rfl⟩
                have hA : DecAt w5 E (s.1.put m C.toNat) := by
                  rw [hw5]
                  have h := HDk.out.setDig (i := m) (by omega) C.toNat
                  rw [H48.out] at h ⊢
                  exact ⟨h.dig, h.nd, h.dp, h.neg, h.tr, h.froz⟩
                have hKA : Kin E wr w5 := by rw [hw5]; exact (Kin.set E m _ _).trans (Kin.drew E _)
                rw [← hw5]
                have hn5 := HST.out w5 hA
                have hf5 := hA.froz
                have HA := Lib.hid hA
                have HKA := Lib.hid hKA
                clear hw5 hA hKA hnd hdp hdw hfr
                go_wp2_with fail
                go_roundw
                case rel => exact ⟨k + 1, HLT.out, by rw [← Nat.add_assoc, ← HQ.out]; go_num, by rw [HR.out], by simp, by rw [HR.out]; have := HA.out.setNd (m + 1); rw [HM.out] at this ⊢; exact this, HKk.out.trans (HKA.out.trans (Kin.set E 800 _ _))⟩
                case measure => simp [RowKit.intOf]; omega
              · have e5 : ((C.toNat : Int) == 48) = false := by simp; omega
                clear hlead hr hC h46 hdg hstep h48
                go_wp2_with fail
                go_region
                obtain ⟨w5, hw5⟩ : ∃ w5, w5 = (wr.setCell ⟨E, m, none⟩ (.int .u8 (C.toNat : Int))).drew := ⟨_, rfl⟩
                have hA : DecAt w5 E (s.1.put m C.toNat) := by
                  rw [hw5]
                  have h := HDk.out.setDig (i := m) (by omega) C.toNat
                  exact ⟨h.dig, h.nd, h.dp, h.neg, h.tr, h.froz⟩
                have hKA : Kin E wr w5 := by rw [hw5]; exact (Kin.set E m _ _).trans (Kin.drew E _)
                rw [← hw5]
                have hn5 := HST.out w5 hA
                have hf5 := hA.froz
                have HA := Lib.hid hA
                have HKA := Lib.hid hKA
                clear hw5 hA hKA hnd hdp hdw hfr
                go_wp2_with fail
                go_roundw
                case rel => exact ⟨k + 1, HLT.out, by rw [← Nat.add_assoc, ← HQ.out]; go_num, by rw [HR.out], by simp, by rw [HR.out]; have := HA.out.setNd (m + 1); rw [HM.out] at this ⊢; exact this, HKk.out.trans (HKA.out.trans (Kin.set E 800 _ _))⟩
                case measure => simp [RowKit.intOf]; omega
        · have hkb : k = body.length := by omega
          have htk : body.take k = body := by rw [hkb]; exact List.take_length
          have hbl2 : decide (1 ≤ k) = true := decide_eq_true (by omega)
          rw [htk, hbl2]
          clear hok
          rw [htk] at HDk
          obtain ⟨q, hq⟩ : ∃ q, q = p + k := ⟨_, rfl⟩
          rw [← hq]
          clear htk hlt hbl2
          subst hkb
          cases x with
          | none =>
            have hqn : (n : Int) ≤ q := by have := HL.out; simp [Ex.list] at this; omega
            have HQ := Lib.hid hq
            clear hq
            go_wp2_with fail
            go_meet
            exact ⟨by rw [← HQ.out], rfl, rfl, HDk.out, HKk.out⟩
          | some ec es d ds =>
            have hqs : q < (⟨T.toArray⟩ : ByteArray).size := by show q < T.length; have := HL.out; cases es <;> simp [Ex.list] at this <;> omega
            have hidx : (⟨T.toArray⟩ : ByteArray)[q]'hqs = ec := by
              have e : (txt b body (.some ec es d ds))[(sgB b).length + body.length]? = some ec := by
                unfold txt
                rw [List.getElem?_append_right (by omega), Nat.add_sub_cancel_left, List.getElem?_append_right (by omega), Nat.sub_self]
                cases es <;> rfl
              rw [HT.out, HP.out, ← hq, List.getElem?_eq_getElem (show q < T.length from hqs)] at e
              exact Option.some.inj e
            have hq1 : (q : Int) < n := by have : q < T.length := hqs; omega
            have hq0 : (0 : Int) ≤ q := by omega
            have hec := HX.out.1
            have e1 : ((ec.toNat : Int) == 95) = false := by rcases hec with rfl | rfl <;> rfl
            have e2 : ((ec.toNat : Int) == 46) = false := by rcases hec with rfl | rfl <;> rfl
            have e3 : (48 : Int) ≤ (ec.toNat : Int) := by rcases hec with rfl | rfl <;> decide
            have e4 : (57 : Int) < (ec.toNat : Int) := by rcases hec with rfl | rfl <;> decide
            have HQ := Lib.hid hq
            clear hec hq
            go_wp2_with fail
            go_meet
            exact ⟨by rw [← HQ.out], rfl, rfl, HDk.out, HKk.out⟩
    case rest =>
      obtain ⟨rfl, rfl, rfl, hD2, hK2⟩ := hcut
      have HD2 := Lib.hid hD2
      have HK2 := Lib.hid hK2
      clear hD2 hK2 HKB HB
      obtain ⟨hnd3, hdp1, hdp2⟩ := dread_dig b H1.out hl3
      obtain ⟨m, hm⟩ : ∃ m, m = (dread b body).1.nd := ⟨_, rfl⟩
      have hnd := HD2.out.nd
      have hdp := HD2.out.dp
      have hfr := HD2.out.froz
      have hset := HD2.out.setDp m
      have hkset := HK2.out.trans (Kin.set E 801 _ (.int .i64 m))
      have HSET := Lib.hid hset
      have HKSET := Lib.hid hkset
      rw [← hm] at hnd hnd3
      generalize hdt : (dread b body).2 = dt
      have eN : dt = false → { (dread b body).1 with dp := (m : Int) } = dotD b body := by
        intro h; unfold dotD; rw [hdt, h, hm]; rfl
      have eY : dt = true → (dread b body).1 = dotD b body := by
        intro h; unfold dotD; rw [hdt, h]; rfl
      have EN := Lib.hid eN
      have EY := Lib.hid eY
      have HM := Lib.hid hm
      clear hm hset hkset hdt eN eY
      go_upto_if 120 with fail
      go_cut [] from 121 to 127 (fun wz => DecAt wz E (dotD b body) ∧ Kin E w wz)
      case first =>
        cases dt
        · go_wp2_with fail
          go_meet
          exact ⟨by rw [← EN.out trivial]; exact HSET.out, HKSET.out⟩
        · go_wp2_with fail
          go_meet
          exact ⟨by rw [← EY.out trivial]; exact HD2.out, HK2.out⟩
      case rest =>
        obtain ⟨hD3, hK3⟩ := hcut
        have hq3 : -300 ≤ (dotD b body).dp ∧ (dotD b body).dp ≤ 300 := by
          show -300 ≤ (if (dread b body).2 then (dread b body).1.dp else ((dread b body).1.nd : Int)) ∧ (if (dread b body).2 then (dread b body).1.dp else ((dread b body).1.nd : Int)) ≤ 300
          rw [← HM.out]
          split <;> omega
        obtain ⟨dq, hdq⟩ : ∃ dq, dq = (dotD b body).dp := ⟨_, rfl⟩
        rw [← hdq] at hq3
        have hd1 := hq3.1
        have hd2 := hq3.2
        have hdp3 := hD3.dp
        have hfr3 := hD3.froz
        rw [← hdq] at hdp3
        have HD3 := Lib.hid hD3
        have HK3 := Lib.hid hK3
        have HDQ := Lib.hid hdq
        clear hD3 hK3 hdq hq3 hnd hdp hfr hdp1 hdp2 hnd3 HD2 HK2 HM HSET HKSET EN EY
        have hlen := HL.out
        have hex := txt_ex b body x
        rw [HT.out, HP.out] at hex
        have HEX := Lib.hid hex
        have hq0 : (0 : Int) ≤ ((p + body.length : Nat) : Int) := by omega
        go_upto_region 32 with fail
        go_cut [138] from 128 to 137 (fun v wx => v = .bool x.has ∧ wc = wx)
        case first =>
          cases x with
          | none =>
            have e1 : (n : Int) ≤ ((p + body.length : Nat) : Int) := by simp [Ex.list] at hlen; omega
            clear hex hlen
            go_wp2_with fail
            go_meet
            exact ⟨rfl, rfl⟩
          | some ec es d ds =>
            have e1 : ((p + body.length : Nat) : Int) < n := by cases es <;> simp [Ex.list] at hlen <;> omega
            have hqs : p + body.length < (⟨T.toArray⟩ : ByteArray).size := by show p + body.length < T.length; omega
            have hidx : (⟨T.toArray⟩ : ByteArray)[p + body.length]'hqs = ec := by
              have e := hex 0
              rw [Nat.add_zero, List.getElem?_eq_getElem (show p + body.length < T.length from hqs)] at e
              cases es <;> exact Option.some.inj e
            have hlw : ((lowN ec : Nat) : Int) = 101 := by rcases HX.out.1 with rfl | rfl <;> rfl
            clear hex hlen
            go_wp2_with (go_at_call 190; refine (lower_any _ _).mono ?_; rintro e w' ⟨rfl, rfl⟩)
            go_meet
            exact ⟨rfl, rfl⟩
        case rest =>
          obtain ⟨rfl, rfl⟩ := hcut
          clear hex hlen
          go_upto_if 138 with fail
          go_cut [5, 8, 9] from 139 to 219 (fun i _s _e wx => i = .int .i64 n ∧ DecAt wx E (setD b body x.val) ∧ Kin E w wx)
          case first =>
            cases x with
            | none =>
              have e1 : ((p + body.length : Nat) : Int) = n := by have := HL.out; simp [Ex.list] at this; omega
              have e2 : setD b body (Ex.none).val = dotD b body := by
                unfold setD
                rw [show (Ex.none).val = 0 from rfl, Int.add_zero]
              have E2 := Lib.hid e2
              clear e2
              go_wp2_with fail
              go_meet
              exact ⟨by rw [← e1], by rw [E2.out]; exact HD3.out, HK3.out⟩
            | some ec es d ds =>
              have hok := HX.out
              have e1 : ((p + body.length : Nat) : Int) + 1 < n := by have := HL.out; cases es <;> simp [Ex.list] at this <;> omega
              obtain ⟨f, hf⟩ : ∃ f : Nat, f = p + body.length + 1 + (if es.isSome then 1 else 0) := ⟨_, rfl⟩
              have hfd : ∀ j, T[f + j]? = (d :: ds)[j]? := by
                intro j
                have e := HEX.out (1 + (if es.isSome then 1 else 0) + j)
                rw [show p + body.length + (1 + (if es.isSome then 1 else 0) + j) = f + j by omega] at e
                rw [e]
                cases es with
                | none => simp [Ex.list, Nat.add_comm 1 j]
                | some y => simp only [Ex.list, Option.isSome_some, if_true]; rw [show 1 + 1 + j = j + 1 + 1 by omega]; rfl
              have hfl : f + (ds.length + 1) = n := by have := HL.out; cases es <;> simp [Ex.list] at this hf <;> omega
              have HF := Lib.hid hf
              have HFD := Lib.hid hfd
              clear hfd
              go_upto_block 4 with fail
              go_cut [5, 8, 147] from 148 to 155 (fun i sg _t wx => i = .int .i64 f ∧ sg = .int .i64 (if es = Option.some true then -1 else 1) ∧ wc = wx)
              case first =>
                have hqs : p + body.length + 1 < (⟨T.toArray⟩ : ByteArray).size := by show p + body.length + 1 < T.length; omega
                have hn1 : (0 : Int) ≤ (p : Int) + body.length + 1 := by omega
                cases es with
                | none =>
                  have hf' : (f : Int) = (p : Int) + body.length + 1 := by have := HF.out; simp at this; omega
                  have hidx : (⟨T.toArray⟩ : ByteArray)[p + body.length + 1]'hqs = d := by
                    have e := HFD.out 0
                    rw [Nat.add_zero, show f = p + body.length + 1 by omega, List.getElem?_eq_getElem (show p + body.length + 1 < T.length from hqs)] at e
                    exact Option.some.inj e
                  have hd' := (isDig_iff d).1 hok.2.1
                  have k1 : ((d.toNat : Int) == 43) = false := by simp; omega
                  have k2 : ((d.toNat : Int) == 45) = false := by simp; omega
                  clear hok
                  go_wp2_with fail
                  go_meet
                  exact ⟨by rw [hf'], rfl, rfl⟩
                | some y =>
                  have hf' : (f : Int) = (p : Int) + body.length + 1 + 1 := by have := HF.out; simp at this; omega
                  have hidx : (⟨T.toArray⟩ : ByteArray)[p + body.length + 1]'hqs = if y then 45 else 43 := by
                    have e := HEX.out 1
                    rw [List.getElem?_eq_getElem (show p + body.length + 1 < T.length from hqs)] at e
                    exact Option.some.inj e
                  clear hok
                  cases y
                  · simp only [Bool.false_eq_true, if_false] at hidx
                    go_wp2_with fail
                    go_meet
                    exact ⟨by rw [hf'], rfl, rfl⟩
                  · simp only [if_true] at hidx
                    go_wp2_with fail
                    go_meet
                    exact ⟨by rw [hf'], rfl, rfl⟩
              case rest =>
                obtain ⟨rfl, rfl, rfl⟩ := hcut
                have hf0 : (0 : Int) ≤ (f : Int) := by omega
                have hf1 : (f : Int) < n := by omega
                have hqs : f < (⟨T.toArray⟩ : ByteArray).size := by show f < T.length; omega
                have hidx : (⟨T.toArray⟩ : ByteArray)[f]'hqs = d := by
                  have e := HFD.out 0
                  rw [Nat.add_zero, List.getElem?_eq_getElem (show f < T.length from hqs)] at e
                  exact Option.some.inj e
                have hd' := (isDig_iff d).1 hok.2.1
                have k1 : (48 : Int) ≤ (d.toNat : Int) := by omega
                have k2 : (d.toNat : Int) ≤ 57 := by omega
                have hall : ∀ q ∈ d :: ds, isDig q = true := by
                  intro q hq
                  rcases List.mem_cons.1 hq with h | h
                  · rw [h]; exact hok.2.1
                  · exact hok.2.2.1 q h
                have HALL := Lib.hid hall
                have hval : (Ex.some ec es d ds).val = (if es = Option.some true then -1 else 1) * (efold (d :: ds) : Int) := rfl
                have HVAL := Lib.hid hval
                have hDl : (d :: ds).length = ds.length + 1 := rfl
                generalize hsg : (if es = Option.some true then (-1 : Int) else 1) = sg at *
                have hsg1 : sg = 1 ∨ sg = -1 := by rw [← hsg]; split <;> simp
                clear hok hall hval hsg hf
                generalize d :: ds = D at *
                go_upto_block 5 with fail
                clear k1 k2 hidx hqs hd'
                go_wp2_with fail
                go_loop [5, 9] (fun i e => ∃ k : Nat, k ≤ D.length ∧ i = .int .i64 (f + k : Nat) ∧ e = .int .i64 (efold (D.take k) : Nat)) (fun i _ => n - (RowKit.intOf i).toNat)
                case atStart => exact ⟨0, Nat.zero_le _, by simp, rfl⟩
                case round =>
                  obtain ⟨k, hk, rfl, rfl⟩ := hrel
                  have hle := efold_le (D.take k) fun q hq => HALL.out q (List.mem_of_mem_take hq)
                  by_cases hlt : k < D.length
                  · have hnx : efold (D.take (k + 1)) = estep (efold (D.take k)) D[k] := by
                      rw [List.take_succ_eq_append_getElem hlt, efold_snoc]
                    have hC := (isDig_iff _).1 (HALL.out _ (List.getElem_mem hlt))
                    obtain ⟨q, hq⟩ : ∃ q, q = f + k := ⟨_, rfl⟩
                    have hqs : q < (⟨T.toArray⟩ : ByteArray).size := by show q < T.length; omega
                    have hidx : (⟨T.toArray⟩ : ByteArray)[q]'hqs = D[k] := by
                      have e := HFD.out k
                      rw [← hq, List.getElem?_eq_getElem (show q < T.length from hqs), List.getElem?_eq_getElem hlt] at e
                      exact Option.some.inj e
                    rw [← hq]
                    have hmes : n - (q + 1) < n - q := by omega
                    have hq0 : (0 : Int) ≤ q := by omega
                    have hq1 : (q : Int) < n := by omega
                    generalize D[k] = C at *
                    generalize efold (D.take k) = e at *
                    have e1 : ((C.toNat : Int) == 95) = false := by simp; omega
                    have e3 : (48 : Int) ≤ (C.toNat : Int) := by omega
                    have e4 : (C.toNat : Int) ≤ 57 := by omega
                    have he0 : (0 : Int) ≤ (e : Int) := by omega
                    have he1 : (e : Int) ≤ 100000 := by omega
                    have HQ := Lib.hid hq
                    have HLT := Lib.hid hlt
                    by_cases he : e < 10000
                    · rw [estep, if_pos he] at hnx
                      have HNX := Lib.hid hnx
                      have he2 : (e : Int) < 10000 := by omega
                      clear hq hlt hC he hnx
                      go_wp2_with fail
                      go_round
                      case rel => exact ⟨k + 1, HLT.out, by rw [← Nat.add_assoc, ← HQ.out]; go_num, by rw [HNX.out] <;> (congr 1; omega)⟩
                      case measure => simp [RowKit.intOf]; omega
                    · rw [estep, if_neg he] at hnx
                      have HNX := Lib.hid hnx
                      have he2 : (10000 : Int) ≤ (e : Int) := by omega
                      clear hq hlt hC he hnx
                      go_wp2_with fail
                      go_round
                      case rel => exact ⟨k + 1, HLT.out, by rw [← Nat.add_assoc, ← HQ.out]; go_num, by rw [HNX.out]⟩
                      case measure => simp [RowKit.intOf]; omega
                  · have hkb : f + k = n := by omega
                    have htk : D.take k = D := List.take_of_length_le (by omega)
                    have hle2 := efold_le D HALL.out
                    rw [htk, hkb] at *
                    generalize efold D = e at *
                    have he0 : (0 : Int) ≤ (e : Int) := by omega
                    have he1 : (e : Int) ≤ 100000 := by omega
                    have hfin : ∀ v : Int, v = sg * (e : Int) → DecAt (wc.setCell ⟨E, 801, none⟩ (.int .i64 (dq + v))) E (setD b body (Ex.some ec es d ds).val) := by
                      intro v hv
                      rw [HVAL.out, ← hv, HDQ.out]
                      exact HD3.out.setDp _
                    have HFIN := Lib.hid hfin
                    clear htk hkb hlt hk hfin
                    rcases hsg1 with rfl | rfl
                    · go_wp2_with fail
                      go_meet
                      exact ⟨rfl, HFIN.out _ (by omega), HK3.out.trans (Kin.set E 801 _ _)⟩
                    · go_wp2_with fail
                      go_meet
                      exact ⟨rfl, HFIN.out _ (by omega), HK3.out.trans (Kin.set E 801 _ _)⟩
          case rest =>
            obtain ⟨rfl, hD4, hK4⟩ := hcut
            have HD4 := Lib.hid hD4
            have HK4 := Lib.hid hK4
            clear hD4 hK4
            go_wp2_with fail
            go_ret
            exact ⟨rfl, HD4.out, HK4.out⟩
end Go.Proofs.YtlmogijkkhdogaaGreatDoor
