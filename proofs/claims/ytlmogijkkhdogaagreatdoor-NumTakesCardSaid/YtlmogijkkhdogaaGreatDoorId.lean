import Derived.Test.YtlmogijkkhdogaaGreatDoorIc
namespace Go.Proofs.YtlmogijkkhdogaaGreatDoor
open Go.RowKit
set_option maxRecDepth 100000

set_option maxHeartbeats 4000000 in
/-- the part from the figures on. -/
theorem fig_tail (l : List UInt8) (w : World) (hl : ¬ 64 < l.length) (hlen : l.length ≤ 64) (b : Bool) (i : Nat) (hi1 : i ≤ 1) (hi2 : i ≤ l.length) (d : List UInt8) (hd : digs (l.drop i) = d) (wx : World) (hx : RefX w b [] 0 0 wx) (hp : parseL l = parseDot b d (l.drop (i + d.length)))
    (u3 u6 u7 u8 u9 u10 u11 u12 u13 u14 u15 u16 u17 u18 u19 u20 u21 u22 u23 u24 u25 u26 u27 u28 u29 u30 u31 u32 u33 u34 u35 u36 u37 u38 u39 u40 u41 u42 u43 u44 u45 u46 u47 u48 u49 u50 u51 u52 u53 u54 u55 u56 u57 u58 u59 u60 u61 u62 u63 u64 u65 u66 u67 u68 u69 u70 u71 u72 u73 u74 u75 u76 u77 u78 u79 u80 u81 u82 u83 u84 u85 u86 u87 u88 u89 u90 u91 u92 u93 u94 u95 u96 u97 u98 u99 u100 u101 u102 u103 u104 u105 u106 u107 u108 u109 u110 u111 u112 u113 u114 u115 u116 u117 u118 u119 u120 u121 u122 u123 u124 u125 u126 u127 u128 u129 u130 u131 u132 u133 u134 u135 u136 u137 u138 u139 u140 u141 u142 u143 u144 u145 u146 u147 u148 u149 u150 u151 u152 u153 u154 u155 u156 u157 u158 u159 u160 : Value) :
    Code.wp Tryz.prog (suf 5) (bodyPost Tryz.prog Tryz.f24 (RRes w l)) ⟨((.string ⟨l.toArray⟩ : Value) :: undef :: .pointer (some ⟨w.heap.size, 0, none⟩) :: u3 :: .pointer (some ⟨w.heap.size + 1, 0, none⟩) :: .int .i64 i :: u6 :: u7 :: u8 :: u9 :: u10 :: u11 :: u12 :: u13 :: u14 :: u15 :: u16 :: u17 :: u18 :: u19 :: u20 :: u21 :: u22 :: u23 :: u24 :: u25 :: u26 :: u27 :: u28 :: u29 :: u30 :: u31 :: u32 :: u33 :: u34 :: u35 :: u36 :: u37 :: u38 :: u39 :: u40 :: u41 :: u42 :: u43 :: u44 :: u45 :: u46 :: u47 :: u48 :: u49 :: u50 :: u51 :: u52 :: u53 :: u54 :: u55 :: u56 :: u57 :: u58 :: u59 :: u60 :: u61 :: u62 :: u63 :: u64 :: u65 :: u66 :: u67 :: u68 :: u69 :: u70 :: u71 :: u72 :: u73 :: u74 :: u75 :: u76 :: u77 :: u78 :: u79 :: u80 :: u81 :: u82 :: u83 :: u84 :: u85 :: u86 :: u87 :: u88 :: u89 :: u90 :: u91 :: u92 :: u93 :: u94 :: u95 :: u96 :: u97 :: u98 :: u99 :: u100 :: u101 :: u102 :: u103 :: u104 :: u105 :: u106 :: u107 :: u108 :: u109 :: u110 :: u111 :: u112 :: u113 :: u114 :: u115 :: u116 :: u117 :: u118 :: u119 :: u120 :: u121 :: u122 :: u123 :: u124 :: u125 :: u126 :: u127 :: u128 :: u129 :: u130 :: u131 :: u132 :: u133 :: u134 :: u135 :: u136 :: u137 :: u138 :: u139 :: u140 :: u141 :: u142 :: u143 :: u144 :: u145 :: u146 :: u147 :: u148 :: u149 :: u150 :: u151 :: u152 :: u153 :: u154 :: u155 :: u156 :: u157 :: u158 :: u159 :: u160 :: []).toArray, []⟩ wx := by
  obtain ⟨i0, hi0, hz0, hzz1, hzz2⟩ := info_parts info3
  have HD := Lib.hid hd
  have HX := Lib.hid hx
  have hpd := Lib.hid hp
  have hdl : d.length ≤ l.length := by rw [← hd]; have := digs_le (l.drop i); rw [List.length_drop] at this; omega
  clear hd hx hp
  conv => arg 2; whnf
  go_upto_block 0 with fail
  go_cut [5] (fun u5 wx => ∃ m : Nat, u5 = .int .i64 m ∧ m = i + d.length ∧ RefX w b d 0 0 wx)
  case first =>
    go_wp2_with fail
    go_loopw [5] (fun u5 wr => ∃ m : Nat, i ≤ m ∧ m ≤ i + d.length ∧ u5 = .int .i64 m ∧ RefX w b (d.take (m - i)) 0 0 wr) (fun u5 _ => i + d.length - (intOf u5).toNat)
    case atStart => exact ⟨i, Nat.le_refl _, by omega, rfl, by rw [Nat.sub_self]; exact HX.out⟩
    case round =>
      obtain ⟨m, hm1, hm2, rfl, hX⟩ := hrel
      by_cases hlt : m < i + d.length
      · have HDT := Lib.hid (dig_m l i m d HD.out hm1 hm2 true (by simpa using hlt))
        obtain ⟨hml, htk, h48, h57⟩ := fig_m l i m d HD.out hm1 hlt
        have hsz : m < (⟨l.toArray⟩ : ByteArray).size := hml
        replace h48 : 48 ≤ (((⟨l.toArray⟩ : ByteArray)[m]'hsz).toNat : Int) := h48
        replace h57 : (((⟨l.toArray⟩ : ByteArray)[m]'hsz).toNat : Int) ≤ 57 := h57
        obtain ⟨ds, hds⟩ : ∃ ds, d.take (m - i) = ds := ⟨_, rfl⟩
        have hdl2 : ds.length ≤ 64 := by rw [← hds, List.length_take]; omega
        rw [hds] at htk hX
        have HTK := Lib.hid htk
        clear hds
        have HX3 := Lib.hid hX
        obtain ⟨x1, x2, x3, u, x4, x5⟩ := hX
        have k1 := cell_of_row wr (w.heap.size + 1) 1 _ 45 (0, 0) x4
        have kf : wr.frozen? ⟨w.heap.size + 1, 1, none⟩ = false := by simp [World.frozen?, x4]
        simp at k1
        have hm0 : (0 : Int) ≤ (m : Int) := Int.natCast_nonneg _
        have hm4 : (m : Int) < (l.length : Int) := by omega
        have hown := Lib.hid x5
        clear htk x1 x2 x4 x5
        go_wp2_with fail
        refine (digit_is l m true _ hlen (by omega) HDT.out).mono ?_
        rintro e w' ⟨rfl, rfl⟩
        go_wp2_with fail
        have HNO := Lib.hid (show some (w.heap.size + 1) ≠ u.ownBlock from fun e => by have := (World.ownsRow.lt hown.out _ e.symm).1; omega)
        go_region_law (refine step_append_lies _ (by rfl) _ _ _ (by rfl) (w.heap.size + 2) 3 i0 _ 1 8 Tryz.underlying43 hi0 hz0 hzz1 hzz2 rfl (by omega) u ds.length (ds.map figV) (by rfl) (own_below hown.out (((Below.refl _ _).drew).alloc (Nat.le_refl _) _)) ⟨wr.heap.size, 0, none⟩ 1 1 [figV ((⟨l.toArray⟩ : ByteArray)[m]'hsz)] (by rfl) (by rfl) (World.news_of_block (cs := #[figV ((⟨l.toArray⟩ : ByteArray)[m]'hsz)]) (t := 3) (fr := (0, 0)) (alloc_at rfl)) (by simp [Value.oneCell', figV]) (by omega) (by unfold maxLen; omega) (by omega) (by show w.heap.size + 2 ≤ (wr.drew.alloc _).heap.size; simp; omega) (wr.heap.size + 1) (by simp) ?_; intro gg cap w4 hown4 hgrow4 hat4 hlt4; have g3 := (World.grownBy.cell_far hgrow4 ⟨w.heap.size + 1, 1, none⟩ (by show w.heap.size + 1 < _; simp; omega) HNO.out).trans ((cell_of_heap (Below.heap_alloc wr.drew _ _ x3)).trans k1); have gf3 := (World.grownBy.frozen_far hgrow4 ⟨w.heap.size + 1, 1, none⟩ (by show w.heap.size + 1 < _; simp; omega) HNO.out).trans ((World.frozen?_of_block (Below.heap_alloc wr.drew _ _ x3)).trans kf))
        all_goals
          have HN := Lib.hid (ref_round HX3.out k1 hgrow4 hown4)
          clear hgrow4 hown4 hat4 hlt4
          go_wp2
          go_roundw
          case rel => exact ⟨m + 1, by omega, hlt, by go_num, by rw [HTK.out]; exact HN.out⟩
          case measure => simp [intOf]; omega
      · have HDT := Lib.hid (dig_m l i m d HD.out hm1 hm2 false (by simpa using hlt))
        obtain ⟨j, hj⟩ : ∃ j, j = i + d.length := ⟨_, rfl⟩
        obtain rfl : m = j := by omega
        have HX5 := Lib.hid (show RefX w b d 0 0 wr by
          have h := hX
          rw [show m - i = d.length by omega, List.take_length] at h; exact h)
        have HJ := Lib.hid hj
        clear hX hj
        go_wp2_with fail
        refine (digit_is l m false _ hlen (by omega) HDT.out).mono ?_
        rintro e w' ⟨rfl, rfl⟩
        go_wp2
        go_meet
        case rel => exact ⟨m, rfl, HJ.out, HX5.out⟩
  case rest =>
    obtain ⟨m, rfl, hm, hX⟩ := hcut
    refine k_out (by assumption) ?_
    exact dot_tail l w hl hlen b d m (by have := digs_le (l.drop i); rw [HD.out, List.length_drop] at this; omega) (by omega) _ hX (by rw [hpd.out, hm]) _ _ _ _ _ _ _ _ _ _ _ _ _ _ _ _ _ _ _ _ _ _ _ _ _ _ _ _ _ _ _ _ _ _ _ _ _ _ _ _ _ _ _ _ _ _ _ _ _ _ _ _ _ _ _ _ _ _ _ _ _ _ _ _ _ _ _ _ _ _ _ _ _ _ _ _ _ _ _ _ _ _ _ _ _ _ _ _ _ _ _ _ _ _ _ _ _ _ _ _ _ _ _ _ _ _ _ _ _ _ _ _ _ _ _ _ _ _ _ _ _ _ _ _ _ _ _ _ _ _ _ _ _ _ _ _ _ _ _ _ _ _ _ _ _ _ _ _ _ _ _ _ _ _ _ _

set_option maxHeartbeats 2000000 in
theorem parse_ref (l : List UInt8) (w : World) (hl : ¬ 64 < l.length) : Calls Tryz.prog 24 #[.string ⟨l.toArray⟩] w (RRes w l) := by
  obtain ⟨i0, hi0, hz0, hzz1, hzz2⟩ := info_parts info3
  have hlen : l.length ≤ 64 := by omega
  have hL : parseL l = parseTail (neg l) (unsign l) := by rw [parseL, if_neg hl]
  have HL := Lib.hid hL
  clear hL
  generalize hb : neg l = b
  have HNB := Lib.hid hb
  rw [hb] at HL
  have hu : unsign l = l.drop (if b then 1 else 0) := by
    rw [unsign, hb]; cases b <;> simp
  have HU := Lib.hid hu
  clear hu hb
  go_enter Tryz.func24, Tryz.ntmps24
  go_upto_region 4 with fail
  go_cut [19] (fun u19 wx => u19 = .bool b ∧ wx = (w.alloc (.cells #[.bool false, .slice none 0 0, .int .i64 0, .int .i64 0] 45)).alloc (.cells #[.bool false, .slice none 0 0, .int .i64 0, .int .i64 0] 45))
  case first =>
    match l, HNB with
    | [], HNB =>
      go_wp2
      go_meet
      case rel => exact ⟨by rw [← HNB.out]; rfl, rfl⟩
    | c :: t, HNB =>
      have hcl : (0 : Int) < ((c :: t).length : Int) := by simp only [List.length_cons]; omega
      go_wp2
      all_goals
        go_meet
        case rel => exact ⟨by rw [← HNB.out]; exact congrArg Value.bool (u8_beq c 45 (by omega)), rfl⟩
  case rest =>
    obtain ⟨rfl, rfl⟩ := hcut
    go_upto_if 19 with fail
    go_cut [5] (fun u5 wx => u5 = .int .i64 ((if b then 1 else 0 : Nat) : Int) ∧ RefX w b [] 0 0 wx)
    case first =>
      cases b
      · go_wp2
        go_meet
        case rel => exact ⟨rfl, refX_start w false⟩
      · go_wp2
        go_meet
        case rel => exact ⟨rfl, refX_start w true⟩
    case rest =>
      obtain ⟨rfl, hX⟩ := hcut
      have HX := Lib.hid hX
      clear hX
      generalize hi : (if b = true then 1 else 0 : Nat) = i at *
      have hi1 : i ≤ 1 := by rw [← hi]; split <;> omega
      have hi2 : i ≤ l.length := by
        rw [← hi]
        cases hb : b with
        | false => simp
        | true =>
          have h := HNB.out
          rw [hb] at h
          cases l with
          | nil => cases h
          | cons c t => simp
      clear hi
      generalize hd : digs (l.drop i) = d at *
      have HD := Lib.hid hd
      have hdl : d.length ≤ l.length := by rw [← hd]; have := digs_le (l.drop i); rw [List.length_drop] at this; omega
      rw [HU.out] at HL
      have hL2 : parseL l = if badB d = true then none else parseDot b d (l.drop (i + d.length)) := by
        rw [HL.out, parseTail, hd, rest_drop, hd]
      have HL2 := Lib.hid hL2
      clear hL2 hd HL HU HNB
      go_upto_region 6 with fail
      go_cut [36] (fun u36 wx => u36 = .bool (badB d) ∧ RefX w b [] 0 0 wx)
      case first =>
        have hda := digAt_at l i 0 (Nat.zero_le _)
        rw [HD.out, Nat.add_zero] at hda
        match d, HD, hdl, hda with
        | [], HD, hdl, hda =>
          have HDA := Lib.hid hda
          clear hda
          go_wp2_with (go_at_call 65; refine (digit_is l i false _ hlen (by omega) HDA.out).mono ?_; rintro e w' ⟨rfl, rfl⟩)
          go_meet
          case rel => exact ⟨rfl, HX.out⟩
        | c :: d', HD, hdl, hda =>
          have HDA := Lib.hid hda
          clear hda
          obtain ⟨hl0, hc, hcd⟩ := digs_at_get l i 0 (by rw [HD.out]; simp)
          have hsz : i < (⟨l.toArray⟩ : ByteArray).size := hl0
          have hc2 : (⟨l.toArray⟩ : ByteArray)[i]'hsz = c := by
            show l[i] = c
            have h2 : (digs (l.drop i))[0]? = some c := by rw [HD.out]; rfl
            rw [List.getElem?_eq_getElem (by rw [HD.out]; simp), hc] at h2
            simpa using h2
          have hi0 : (0 : Int) ≤ (i : Int) := Int.natCast_nonneg _
          have hil : (i : Int) < (l.length : Int) := by have : i + 0 < l.length := hl0; omega
          have HC2 := Lib.hid hc2
          clear hc hcd hl0 HC2
          cases hq : ((c.toNat : Int) == 48) with
          | false =>
            have hbb : badB (c :: d') = false := badB_n48 (by simpa using hq)
            have HBB := Lib.hid hbb
            clear hbb
            go_wp2_with (first | (go_at_call 65; refine (digit_is l i true _ hlen (by omega) HDA.out).mono ?_; rintro e w' ⟨rfl, rfl⟩))
            go_meet
            case rel => exact ⟨by rw [HBB.out], HX.out⟩
          | true =>
            have hda1 := digAt_at l i 1 (by rw [HD.out]; simp)
            rw [HD.out] at hda1
            have hbb : digAt l (i + 1) = badB (c :: d') := by
              rw [hda1]
              have : c = 48 := u8_eq (n := 48) (by omega) (by simpa using hq)
              subst this
              cases d' <;> simp [badB]
            have HBB := Lib.hid hbb
            clear hbb hda1
            go_wp2_with fail
            refine (digit_is l i true _ hlen (by omega) HDA.out).mono ?_
            rintro e w' ⟨rfl, rfl⟩
            go_wp2_with fail
            refine (digit_next l i (badB (c :: d')) _ hlen (by omega) HBB.out).mono ?_
            rintro e w' ⟨rfl, rfl⟩
            go_wp2_with fail
            go_meet
            case rel => exact ⟨rfl, HX.out⟩
      case rest =>
        obtain ⟨rfl, hX2⟩ := hcut
        clear HX
        have HX := Lib.hid hX2
        clear hX2
        go_upto_if 36 with fail
        go_cut [3] (fun _ wx => badB d = false ∧ RefX w b [] 0 0 wx)
        case first =>
          cases hbd : badB d with
          | true =>
            have HP := Lib.hid (show parseL l = none by rw [HL2.out, if_pos hbd])
            obtain ⟨hx2, hz2⟩ := ref_result HX.out
            clear hbd
            go_wp2
            refine bodyPost_ret (v := .tuple #[.agg #[.bool false, .slice none 0 0, .int .i64 0, .int .i64 0], .int .i64 2]) (by simp [results, Tryz.results24, go_sem, hx2]) rfl ?_
            refine rres_none ?_ HP.out hl rfl
            (repeat (first | with_reducible refine Below.setCell ?_ (by simp) _))
            exact HX.out.1
          | false =>
            have HBD := Lib.hid hbd
            clear hbd
            go_wp2
            go_meet
            case rel => exact ⟨HBD.out, HX.out⟩
        case rest =>
          obtain ⟨hbd, hX3⟩ := hcut
          refine k_out (by assumption) ?_
          exact fig_tail l w hl hlen b i hi1 hi2 d HD.out _ hX3 (by rw [HL2.out, if_neg (by simp [hbd])]) _ _ _ _ _ _ _ _ _ _ _ _ _ _ _ _ _ _ _ _ _ _ _ _ _ _ _ _ _ _ _ _ _ _ _ _ _ _ _ _ _ _ _ _ _ _ _ _ _ _ _ _ _ _ _ _ _ _ _ _ _ _ _ _ _ _ _ _ _ _ _ _ _ _ _ _ _ _ _ _ _ _ _ _ _ _ _ _ _ _ _ _ _ _ _ _ _ _ _ _ _ _ _ _ _ _ _ _ _ _ _ _ _ _ _ _ _ _ _ _ _ _ _ _ _ _ _ _ _ _ _ _ _ _ _ _ _ _ _ _ _ _ _ _ _ _ _ _ _ _ _ _ _ _ _ _

end Go.Proofs.YtlmogijkkhdogaaGreatDoor
