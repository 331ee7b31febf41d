/- strconv's atof64 at a number's text: a float and an error that hang on the text alone; with an error the float is infinite. -/
import Derived.Test.YtlmogijkkhdogaaGreatDoorHl
import Derived.Test.YtlmogijkkhdogaaGreatDoorHk
import Derived.Test.YtlmogijkkhdogaaGreatDoorHo
import Derived.Test.YtlmogijkkhdogaaGreatDoorHz
import Derived.Great.Walk
namespace Go.Proofs.YtlmogijkkhdogaaGreatDoor
open Go.RowKit
set_option maxRecDepth 100000
attribute [local go_sem] run240

def Z210 : Array Value := (List.replicate 800 (Value.int .u8 0) ++ [Value.int .i64 0, Value.int .i64 0, Value.bool false, Value.bool false]).toArray
theorem Z210_dig {i : Nat} (h : i < 800) : Z210[i]? = some (.int .u8 0) := by
  unfold Z210
  rw [List.getElem?_toArray, List.getElem?_append_left (by simpa using h), List.getElem?_replicate, if_pos h]
theorem Z210_end (j : Nat) : Z210[800 + j]? = [Value.int .i64 0, .int .i64 0, .bool false, .bool false][j]? := by
  unfold Z210
  rw [List.getElem?_toArray, List.getElem?_append_right (by simp), List.length_replicate, Nat.add_sub_cancel_left]
theorem decAt_new (w : World) : DecAt (w.alloc (.cells Z210 210)) w.heap.size (zeroD false) := by
  have hh := heap_new w (.cells Z210 210)
  have hc : ∀ o, (w.alloc (.cells Z210 210)).cell? ⟨w.heap.size, o, none⟩ = Z210[o]? := fun o => by
    unfold World.cell?; rw [hh]; rfl
  refine ⟨fun i hi => by rw [hc, Z210_dig hi]; rfl, ?_, ?_, ?_, ?_, fun o => by unfold World.frozen?; rw [hh]; simp⟩
  · rw [hc]; exact Z210_end 0
  · rw [hc]; exact Z210_end 1
  · rw [hc]; exact Z210_end 2
  · rw [hc]; exact Z210_end 3
section
variable {ρ : Operand → Value} {w : World} {o : Oper}
theorem run_alloc210 (ho : o.op = .alloc 210) : (execOp ρ o).run Tryz.prog w = .ok (.value (.pointer (some ⟨w.heap.size, 0, none⟩))) (w.alloc (.cells Z210 210)) := by
  unfold execOp; rw [ho]; go_simp; rfl
end
theorem sgB_inf (b : Bool) (sg : Nat) (h : sg = if b then W63 else 0) : ∃ v : Nat, v < 18446744073709551616 ∧ finf v = true ∧ bits .or .u64 (sg : Int) 9218868437227405312 = (v : Int) := by
  subst h
  cases b
  · exact ⟨9218868437227405312, by decide, by decide, by decide⟩
  · exact ⟨18442240474082181120, by decide, by decide, by decide⟩
theorem rread_lt (l : List UInt8) (h : ∀ c ∈ l, isDig c = true ∨ c = 46) : (rread l).m < 10000000000000000000 := by
  have h1 := rread_ok l h
  have h2 := Nat.pow_le_pow_right (n := 10) (by omega) h1.nm
  have h3 : (10 : Nat) ^ 19 = 10000000000000000000 := rfl
  have := h1.m
  omega
theorem extract_all (T : List UInt8) (n : Nat) (h : n = T.length) : (⟨T.toArray⟩ : ByteArray).extract 0 n = ⟨T.toArray⟩ := by
  rw [byte_extract]; subst h; simp
set_option maxHeartbeats 3200000 in
theorem atof_ex (b : Bool) (body : List UInt8) (x : Ex) (hb : bodyOk body) (hx : x.ok) (hlen : (txt b body x).length ≤ 1000) (hl3 : body.length ≤ 300) :
    ∃ (v : Nat) (ok : Bool), v < 18446744073709551616 ∧ (ok = false → finf v = true) ∧ Atof (txt b body x) v ok := by
  by_cases hm : (rread body).m = 0
  · exact ⟨if b then W63 else 0, true, by cases b <;> decide, by simp, fun w hw => (atof_zero b body x hb hx hlen hm w hw.g.fast).mono fun e w' h => ⟨h.1, by rw [h.2]; exact Below.refl _ _⟩⟩
  · have hS := special_txt b body x hb hx hlen
    have hR := read_any b body x hb hx
    have hxv := Ex.val_le hx
    have hFit := setD_fit b body x.val hb.1 hl3 hxv.1 hxv.2
    have hSet := set_any b body x hb hx hl3
    have hm19 := rread_lt body hb.1
    have HS := Lib.hid hS
    have HR := Lib.hid hR
    have HSet := Lib.hid hSet
    have HFit := Lib.hid hFit
    clear hS hR hSet hFit hb hx hl3 hxv
    generalize txt b body x = T at *
    generalize setD b body x.val = D at *
    generalize (rread body).m = m at *
    generalize (rread body).tr = tr at *
    generalize readExp body x = P at *
    obtain ⟨sg, hsg⟩ : ∃ sg : Nat, sg = if b then W63 else 0 := ⟨_, rfl⟩
    have HSG := Lib.hid hsg
    have hm0 : ((m : Int) == 0) = false := by simp; omega
    have hTl : (T.length : Int) ≤ 1000 := by omega
    by_cases hP1 : 310 < P
    · obtain ⟨v, hv, hi, ev⟩ := sgB_inf b sg hsg
      refine ⟨v, false, hv, fun _ => hi, fun w hw => ?_⟩
      clear hsg
      have hfast := hw.g.fast
      have HG := Lib.hid hw
      go_enter Tryz.func177, Tryz.ntmps177
      go_upto_region 11 with (first
        | (go_at_call 230; refine (HS.out _).mono ?_; rintro e w' ⟨rfl, rfl⟩)
        | (go_at_call 231; refine (HR.out _).mono ?_; rintro e w' ⟨rfl, rfl⟩))
      go_cut [16] from 65 to 67 (fun s wx => s = .int .u64 sg ∧ w = wx)
      case first =>
        have hsg := HSG.out
        cases b
        · obtain rfl : sg = 0 := hsg
          go_wp2_with (go_at_call 239; refine (bool64_any _ _).mono ?_; rintro e w' ⟨rfl, rfl⟩)
          go_meet
          exact ⟨rfl, rfl⟩
        · obtain rfl : sg = 9223372036854775808 := hsg
          go_wp2_with (go_at_call 239; refine (bool64_any _ _).mono ?_; rintro e w' ⟨rfl, rfl⟩)
          go_meet
          exact ⟨rfl, rfl⟩
      case rest =>
        obtain ⟨rfl, rfl⟩ := hcut
        go_wp2_with fail
        refine bodyPost_ret (v := .tuple #[.float .f64 v, .int .i64 (T.length : Nat), .iface 158 (.int .i64 1)]) (by simp [results, Tryz.results177, go_sem]) rfl ?_
        exact ⟨rfl, Below.refl _ _⟩
    · have hP2 : P ≤ 310 := by omega
      clear hP1
      by_cases hP3 : P < -345
      · obtain ⟨v, hv, ev⟩ := bitsN .or (sg : Int) 0
        refine ⟨v, true, hv, by simp, fun w hw => ?_⟩
        clear hsg
        have hfast := hw.g.fast
        have HG := Lib.hid hw
        go_enter Tryz.func177, Tryz.ntmps177
        go_upto_region 11 with (first
        | (go_at_call 230; refine (HS.out _).mono ?_; rintro e w' ⟨rfl, rfl⟩)
        | (go_at_call 231; refine (HR.out _).mono ?_; rintro e w' ⟨rfl, rfl⟩))
        go_cut [16] from 65 to 67 (fun s wx => s = .int .u64 sg ∧ w = wx)
        case first =>
          have hsg := HSG.out
          cases b
          · obtain rfl : sg = 0 := hsg
            go_wp2_with (go_at_call 239; refine (bool64_any _ _).mono ?_; rintro e w' ⟨rfl, rfl⟩)
            go_meet
            exact ⟨rfl, rfl⟩
          · obtain rfl : sg = 9223372036854775808 := hsg
            go_wp2_with (go_at_call 239; refine (bool64_any _ _).mono ?_; rintro e w' ⟨rfl, rfl⟩)
            go_meet
            exact ⟨rfl, rfl⟩
        case rest =>
          obtain ⟨rfl, rfl⟩ := hcut
          go_wp2_with fail
          refine bodyPost_ret (v := .tuple #[.float .f64 v, .int .i64 (T.length : Nat), .nilIface]) (by simp [results, Tryz.results177, go_sem]) rfl ?_
          exact ⟨rfl, Below.refl _ _⟩
      · have hP4 : -345 ≤ P := by omega
        clear hP3
        obtain ⟨fe, oke, hfe, hX⟩ := exact_ex m P b (by omega) (by omega) (by omega)
        obtain ⟨v1, ok1, hv1, hk1, hY⟩ := parse64_ex m P sg (by omega) (by omega) (by omega) (by omega)
        have HX := Lib.hid hX
        have HY := Lib.hid hY
        clear hX hY
        cases tr
        · cases oke
          · refine ⟨v1, ok1, hv1, hk1, fun w hw => ?_⟩
            clear hsg
            obtain ⟨B, hB1, hB2, hB3⟩ := hw.s
            have HB2 := Lib.hid hB2
            have HB3 := Lib.hid hB3
            clear hB2 hB3
            have h9 := hw.size
            have hfast := hw.g.fast
            have HG := Lib.hid hw
            go_enter Tryz.func177, Tryz.ntmps177
            go_upto_region 11 with (first
        | (go_at_call 230; refine (HS.out _).mono ?_; rintro e w' ⟨rfl, rfl⟩)
        | (go_at_call 231; refine (HR.out _).mono ?_; rintro e w' ⟨rfl, rfl⟩))
            go_cut [16] from 65 to 67 (fun s wx => s = .int .u64 sg ∧ w = wx)
            case first =>
              have hsg := HSG.out
              cases b
              · obtain rfl : sg = 0 := hsg
                go_wp2_with (go_at_call 239; refine (bool64_any _ _).mono ?_; rintro e w' ⟨rfl, rfl⟩)
                go_meet
                exact ⟨rfl, rfl⟩
              · obtain rfl : sg = 9223372036854775808 := hsg
                go_wp2_with (go_at_call 239; refine (bool64_any _ _).mono ?_; rintro e w' ⟨rfl, rfl⟩)
                go_meet
                exact ⟨rfl, rfl⟩
            case rest =>
              obtain ⟨rfl, rfl⟩ := hcut
              go_wp2_with (first
                | (go_at_call 241; refine (HX.out _ _ HB2.out HB3.out).mono ?_; rintro e w' ⟨rfl, rfl⟩)
                | (go_at_call 242; with_reducible refine (HY.out _ HG.out.t (by omega)).mono ?_; rintro e w2 ⟨rfl, hb2⟩))
              refine bodyPost_ret (v := .tuple #[.float .f64 v1, .int .i64 (T.length : Nat), errP ok1]) (by simp [results, Tryz.results177, go_sem]) rfl ?_
              exact ⟨rfl, hb2⟩
          · refine ⟨fe, true, hfe, by simp, fun w hw => ?_⟩
            clear hsg
            obtain ⟨B, hB1, hB2, hB3⟩ := hw.s
            have HB2 := Lib.hid hB2
            have HB3 := Lib.hid hB3
            clear hB2 hB3
            have hfast := hw.g.fast
            have HG := Lib.hid hw
            go_enter Tryz.func177, Tryz.ntmps177
            go_upto_region 11 with (first
        | (go_at_call 230; refine (HS.out _).mono ?_; rintro e w' ⟨rfl, rfl⟩)
        | (go_at_call 231; refine (HR.out _).mono ?_; rintro e w' ⟨rfl, rfl⟩))
            go_cut [16] from 65 to 67 (fun s wx => s = .int .u64 sg ∧ w = wx)
            case first =>
              have hsg := HSG.out
              cases b
              · obtain rfl : sg = 0 := hsg
                go_wp2_with (go_at_call 239; refine (bool64_any _ _).mono ?_; rintro e w' ⟨rfl, rfl⟩)
                go_meet
                exact ⟨rfl, rfl⟩
              · obtain rfl : sg = 9223372036854775808 := hsg
                go_wp2_with (go_at_call 239; refine (bool64_any _ _).mono ?_; rintro e w' ⟨rfl, rfl⟩)
                go_meet
                exact ⟨rfl, rfl⟩
            case rest =>
              obtain ⟨rfl, rfl⟩ := hcut
              go_wp2_with (go_at_call 241; refine (HX.out _ _ HB2.out HB3.out).mono ?_; rintro e w' ⟨rfl, rfl⟩)
              refine bodyPost_ret (v := .tuple #[.float .f64 fe, .int .i64 (T.length : Nat), .nilIface]) (by simp [results, Tryz.results177, go_sem]) rfl ?_
              exact ⟨rfl, Below.refl _ _⟩
        · obtain ⟨v2, ok2, hv2, hk2, hZ⟩ := parse64_ex (m + 1) P sg (by omega) (by omega) (by omega) (by omega)
          have hZ' : ∀ w, Tab10 w → 9 < w.heap.size → Calls Tryz.prog 242 #[.int .u64 ((m : Int) + 1), .int .i64 P, .int .u64 sg] w fun r w' => r = .returned (.tuple #[.float .f64 v2, errP ok2]) ∧ Below w.heap.size w w' := hZ
          have HZ := Lib.hid hZ'
          clear hZ hZ' HX
          have hwr : IntKind.u64.wrap ((m : Int) + 1) = (m : Int) + 1 := by rw [IntKind.wrap_u64]; omega
          have HWR := Lib.hid hwr
          clear hwr
          obtain ⟨c, hc⟩ : ∃ c, (FloatKind.f64.format.order v1 v2 == some .eq) = c := ⟨_, rfl⟩
          have HCC := Lib.hid hc
          clear hc
          cases c
          · obtain ⟨vb, ovf, hvb, hov, hF⟩ := fbits_ex D HFit.out.1 HFit.out.2.1 HFit.out.2.2
            have HF := Lib.hid hF
            clear hF
            refine ⟨vb, !ovf, hvb, fun h => hov (by simpa using h), fun w hw => ?_⟩
            clear hsg hov
            have h9 := hw.size
            have hex := extract_all T T.length rfl
            have HEX := Lib.hid hex
            clear hex
            cases ovf
            all_goals (
            have hfast := hw.g.fast
            have HG := Lib.hid hw
            go_enter Tryz.func177, Tryz.ntmps177
            go_upto_region 11 with (first
        | (go_at_call 230; refine (HS.out _).mono ?_; rintro e w' ⟨rfl, rfl⟩)
        | (go_at_call 231; refine (HR.out _).mono ?_; rintro e w' ⟨rfl, rfl⟩))
            go_cut [16] from 65 to 67 (fun s wx => s = .int .u64 sg ∧ w = wx)
            case first =>
              have hsg := HSG.out
              cases b
              · obtain rfl : sg = 0 := hsg
                go_wp2_with (go_at_call 239; refine (bool64_any _ _).mono ?_; rintro e w' ⟨rfl, rfl⟩)
                go_meet
                exact ⟨rfl, rfl⟩
              · obtain rfl : sg = 9223372036854775808 := hsg
                go_wp2_with (go_at_call 239; refine (bool64_any _ _).mono ?_; rintro e w' ⟨rfl, rfl⟩)
                go_meet
                exact ⟨rfl, rfl⟩
            case rest =>
              obtain ⟨rfl, rfl⟩ := hcut
              go_upto_region 25 with (first
                | (go_at_call 242; with_reducible refine (HY.out _ HG.out.t (by omega)).mono ?_; rintro e w2 ⟨rfl, hb2⟩; have hz2 := hb2.size; have HG2 := Lib.hid (HG.out.below hb2))
                | (go_at_call 242; with_reducible refine (HZ.out _ HG2.out.t (by omega)).mono ?_; rintro e w3 ⟨rfl, hb3⟩; have hz3 := hb3.size; have HG3 := Lib.hid (HG2.out.below hb3)))
              have hwr := HWR.out
              go_upto_region 26 with (first
                | (go_at_call 242; with_reducible refine (HY.out _ HG.out.t (by omega)).mono ?_; rintro e w2 ⟨rfl, hb2⟩; have hz2 := hb2.size; have HG2 := Lib.hid (HG.out.below hb2))
                | (go_at_call 242; with_reducible refine (HZ.out _ HG2.out.t (by omega)).mono ?_; rintro e w3 ⟨rfl, hb3⟩; have hz3 := hb3.size; have HG3 := Lib.hid (HG2.out.below hb3)))
              clear hwr
              have hc := HCC.out
              go_upto_region 28 with (first
                | (go_at_call 242; with_reducible refine (HY.out _ HG.out.t (by omega)).mono ?_; rintro e w2 ⟨rfl, hb2⟩; have hz2 := hb2.size; have HG2 := Lib.hid (HG.out.below hb2))
                | (go_at_call 242; with_reducible refine (HZ.out _ HG2.out.t (by omega)).mono ?_; rintro e w3 ⟨rfl, hb3⟩; have hz3 := hb3.size; have HG3 := Lib.hid (HG2.out.below hb3)))
              obtain ⟨B, hB1, hB2, hB3⟩ := HG3.out.s
              have HSL := Lib.hid (hB2.below ((Below.refl B w3).alloc hB1 (.cells Z210 210)))
              have HDN := Lib.hid (decAt_new w3)
              clear hB2 hB3 hc
              have hal : Below w3.heap.size w3 (w3.alloc (.cells Z210 210)) := (Below.refl _ _).alloc (Nat.le_refl _) _
              have HAL := Lib.hid hal
              have hex := HEX.out
              clear hal
              go_wp2_with (first
                | (refine Great.wpList_allocTo (by rfl) (some 23) (by rfl) (.pointer (some ⟨w3.heap.size, 0, none⟩)) (.cells Z210 210) (run_alloc210 (by rfl)) ?_)
                | (go_at_call 237; with_reducible refine (HSet.out _ _ HDN.out).mono ?_; rintro e w5 ⟨rfl, hD5, hK5⟩; have HD5 := Lib.hid hD5; have HK5 := Lib.hid hK5; clear hD5 hK5)
                | (go_at_call 238; with_reducible refine (HF.out _ _ B hB1 (HSL.out.kin hB1 HK5.out) HD5.out).mono ?_; rintro e w6 ⟨rfl, hK6⟩; have HK6 := Lib.hid hK6; clear hK6))
              all_goals (first
                | (refine bodyPost_ret (v := .tuple #[.float .f64 vb, .int .i64 (T.length : Nat), .nilIface]) (by simp [results, Tryz.results177, go_sem]) rfl ?_
                   exact ⟨rfl, (hb2.trans (hb3.mono hz2)).trans ((HAL.out.trans ((HK5.out.trans HK6.out).below (Nat.le_refl _))).mono (by omega))⟩)
                | (refine bodyPost_ret (v := .tuple #[.float .f64 vb, .int .i64 (T.length : Nat), .iface 158 (.int .i64 1)]) (by simp [results, Tryz.results177, go_sem]) rfl ?_
                   exact ⟨rfl, (hb2.trans (hb3.mono hz2)).trans ((HAL.out.trans ((HK5.out.trans HK6.out).below (Nat.le_refl _))).mono (by omega))⟩)))
          · refine ⟨v1, ok1, hv1, hk1, fun w hw => ?_⟩
            clear hsg
            have h9 := hw.size
            have hfast := hw.g.fast
            have HG := Lib.hid hw
            go_enter Tryz.func177, Tryz.ntmps177
            go_upto_region 11 with (first
        | (go_at_call 230; refine (HS.out _).mono ?_; rintro e w' ⟨rfl, rfl⟩)
        | (go_at_call 231; refine (HR.out _).mono ?_; rintro e w' ⟨rfl, rfl⟩))
            go_cut [16] from 65 to 67 (fun s wx => s = .int .u64 sg ∧ w = wx)
            case first =>
              have hsg := HSG.out
              cases b
              · obtain rfl : sg = 0 := hsg
                go_wp2_with (go_at_call 239; refine (bool64_any _ _).mono ?_; rintro e w' ⟨rfl, rfl⟩)
                go_meet
                exact ⟨rfl, rfl⟩
              · obtain rfl : sg = 9223372036854775808 := hsg
                go_wp2_with (go_at_call 239; refine (bool64_any _ _).mono ?_; rintro e w' ⟨rfl, rfl⟩)
                go_meet
                exact ⟨rfl, rfl⟩
            case rest =>
              obtain ⟨rfl, rfl⟩ := hcut
              go_upto_region 25 with (first
                | (go_at_call 242; with_reducible refine (HY.out _ HG.out.t (by omega)).mono ?_; rintro e w2 ⟨rfl, hb2⟩; have hz2 := hb2.size; have HG2 := Lib.hid (HG.out.below hb2))
                | (go_at_call 242; with_reducible refine (HZ.out _ HG2.out.t (by omega)).mono ?_; rintro e w3 ⟨rfl, hb3⟩; have hz3 := hb3.size; have HG3 := Lib.hid (HG2.out.below hb3)))
              have hwr := HWR.out
              go_upto_region 26 with (first
                | (go_at_call 242; with_reducible refine (HY.out _ HG.out.t (by omega)).mono ?_; rintro e w2 ⟨rfl, hb2⟩; have hz2 := hb2.size; have HG2 := Lib.hid (HG.out.below hb2))
                | (go_at_call 242; with_reducible refine (HZ.out _ HG2.out.t (by omega)).mono ?_; rintro e w3 ⟨rfl, hb3⟩; have hz3 := hb3.size; have HG3 := Lib.hid (HG2.out.below hb3)))
              clear hwr
              have hc := HCC.out
              go_wp2_with (first
                | (go_at_call 242; with_reducible refine (HY.out _ HG.out.t (by omega)).mono ?_; rintro e w2 ⟨rfl, hb2⟩; have hz2 := hb2.size; have HG2 := Lib.hid (HG.out.below hb2))
                | (go_at_call 242; with_reducible refine (HZ.out _ HG2.out.t (by omega)).mono ?_; rintro e w3 ⟨rfl, hb3⟩))
              refine bodyPost_ret (v := .tuple #[.float .f64 v1, .int .i64 (T.length : Nat), errP ok1]) (by simp [results, Tryz.results177, go_sem]) rfl ?_
              exact ⟨rfl, hb2.trans (hb3.mono hb2.size)⟩
end Go.Proofs.YtlmogijkkhdogaaGreatDoor
