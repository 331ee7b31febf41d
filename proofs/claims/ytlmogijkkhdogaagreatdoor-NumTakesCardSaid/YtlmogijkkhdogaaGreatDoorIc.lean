import Derived.Test.YtlmogijkkhdogaaGreatDoorIb
namespace Go.Proofs.YtlmogijkkhdogaaGreatDoor
open Go.RowKit
set_option maxRecDepth 100000

set_option maxHeartbeats 4000000 in
/-- the part from the point on. -/
theorem dot_tail (l : List UInt8) (w : World) (hl : ¬ 64 < l.length) (hlen : l.length ≤ 64) (b : Bool) (d : List UInt8) (m : Nat) (hml : m ≤ l.length) (hdm : d.length ≤ m) (wr : World) (hx : RefX w b d 0 0 wr) (hpd : parseL l = parseDot b d (l.drop m))
    (u3 u6 u7 u8 u9 u10 u11 u12 u13 u14 u15 u16 u17 u18 u19 u20 u21 u22 u23 u24 u25 u26 u27 u28 u29 u30 u31 u32 u33 u34 u35 u36 u37 u38 u39 u40 u41 u42 u43 u44 u45 u46 u47 u48 u49 u50 u51 u52 u53 u54 u55 u56 u57 u58 u59 u60 u61 u62 u63 u64 u65 u66 u67 u68 u69 u70 u71 u72 u73 u74 u75 u76 u77 u78 u79 u80 u81 u82 u83 u84 u85 u86 u87 u88 u89 u90 u91 u92 u93 u94 u95 u96 u97 u98 u99 u100 u101 u102 u103 u104 u105 u106 u107 u108 u109 u110 u111 u112 u113 u114 u115 u116 u117 u118 u119 u120 u121 u122 u123 u124 u125 u126 u127 u128 u129 u130 u131 u132 u133 u134 u135 u136 u137 u138 u139 u140 u141 u142 u143 u144 u145 u146 u147 u148 u149 u150 u151 u152 u153 u154 u155 u156 u157 u158 u159 u160 : Value) :
    Code.wp Tryz.prog (suf 6) (bodyPost Tryz.prog Tryz.f24 (RRes w l)) ⟨((.string ⟨l.toArray⟩ : Value) :: undef :: .pointer (some ⟨w.heap.size, 0, none⟩) :: u3 :: .pointer (some ⟨w.heap.size + 1, 0, none⟩) :: .int .i64 m :: u6 :: u7 :: u8 :: u9 :: u10 :: u11 :: u12 :: u13 :: u14 :: u15 :: u16 :: u17 :: u18 :: u19 :: u20 :: u21 :: u22 :: u23 :: u24 :: u25 :: u26 :: u27 :: u28 :: u29 :: u30 :: u31 :: u32 :: u33 :: u34 :: u35 :: u36 :: u37 :: u38 :: u39 :: u40 :: u41 :: u42 :: u43 :: u44 :: u45 :: u46 :: u47 :: u48 :: u49 :: u50 :: u51 :: u52 :: u53 :: u54 :: u55 :: u56 :: u57 :: u58 :: u59 :: u60 :: u61 :: u62 :: u63 :: u64 :: u65 :: u66 :: u67 :: u68 :: u69 :: u70 :: u71 :: u72 :: u73 :: u74 :: u75 :: u76 :: u77 :: u78 :: u79 :: u80 :: u81 :: u82 :: u83 :: u84 :: u85 :: u86 :: u87 :: u88 :: u89 :: u90 :: u91 :: u92 :: u93 :: u94 :: u95 :: u96 :: u97 :: u98 :: u99 :: u100 :: u101 :: u102 :: u103 :: u104 :: u105 :: u106 :: u107 :: u108 :: u109 :: u110 :: u111 :: u112 :: u113 :: u114 :: u115 :: u116 :: u117 :: u118 :: u119 :: u120 :: u121 :: u122 :: u123 :: u124 :: u125 :: u126 :: u127 :: u128 :: u129 :: u130 :: u131 :: u132 :: u133 :: u134 :: u135 :: u136 :: u137 :: u138 :: u139 :: u140 :: u141 :: u142 :: u143 :: u144 :: u145 :: u146 :: u147 :: u148 :: u149 :: u150 :: u151 :: u152 :: u153 :: u154 :: u155 :: u156 :: u157 :: u158 :: u159 :: u160 :: []).toArray, []⟩ wr := by
  obtain ⟨i0, hi0, hz0, hzz1, hzz2⟩ := info_parts info3
  have hpd2 := Lib.hid hpd
  have HX5 := Lib.hid hx
  obtain ⟨x1, x2, x3, u, x4, x5⟩ := hx
  obtain ⟨A, cA, hu, hca, -⟩ := own_row x5
  subst hu
  have k1 := cell_of_row wr (w.heap.size + 1) 1 _ 45 (0, 0) x4
  have k2 := cell_of_row wr (w.heap.size + 1) 2 _ 45 (0, 0) x4
  have kf : ∀ o, wr.frozen? ⟨w.heap.size + 1, o, none⟩ = false := fun o => by simp [World.frozen?, x4]
  simp at k1 k2
  clear x1 x2 x4 x5 hpd
  have hm0 : (0 : Int) ≤ (m : Int) := Int.natCast_nonneg _
  conv => arg 2; whnf
  have HX6 := Lib.hid (HX5.out.put (pt' := d.length) (pw' := 0) (b' := b) 2 (.int .i64 d.length) (fun _ => rfl))
  go_upto_region 12 with fail
  go_cut [66] (fun u66 wx => u66 = .bool ((l.drop m).head? == some 46) ∧ RefX w b d d.length 0 wx)
  case first =>
    by_cases hml2 : m < l.length
    · have hsz : m < (⟨l.toArray⟩ : ByteArray).size := hml2
      have hm0 : (0 : Int) ≤ (m : Int) := Int.natCast_nonneg _
      have hm5 : (m : Int) < (l.length : Int) := by omega
      have hdh := Lib.hid (drop_head l m hml2 46 (by omega))
      go_wp2
      go_meet
      case rel => exact ⟨congrArg Value.bool hdh.out, HX6.out⟩
    · have hm5 : ¬ (m : Int) < (l.length : Int) := by omega
      have hdn := Lib.hid (show ((l.drop m).head? == some 46) = false by rw [List.drop_eq_nil_of_le (by omega)]; rfl)
      go_wp2
      go_meet
      case rel => exact ⟨by rw [hdn.out], HX6.out⟩
  case rest =>
    obtain ⟨rfl, hX7⟩ := hcut
    clear HX5 HX6
    have HX7 := Lib.hid hX7
    clear hX7
    go_upto_if 66 with fail
    go_cut [5] (fun u5 wx => ∃ (bh : List UInt8) (q : Nat), u5 = .int .i64 q ∧ q ≤ l.length ∧ RefX w b (d ++ bh) d.length 0 wx ∧ parseL l = parseExp b d bh (l.drop q))
    case first =>
      cases hdot : ((l.drop m).head? == some 46) with
      | false =>
        have HDO := Lib.hid hdot
        clear hdot
        go_wp2
        go_meet
        case rel => exact ⟨[], m, rfl, hml, by rw [List.append_nil]; exact HX7.out, by rw [hpd2.out, parseDot_no HDO.out]⟩
      | true =>
        obtain ⟨hud, hml3⟩ := undot_drop l m hdot
        have hm0 : (0 : Int) ≤ (m : Int) := Int.natCast_nonneg _
        generalize hd2 : digs (l.drop (m + 1)) = d2
        have HD2 := Lib.hid hd2
        have hd2l : d2.length ≤ l.length - (m + 1) := by rw [← hd2]; have := digs_le (l.drop (m + 1)); rw [List.length_drop] at this; exact this
        have hpe := Lib.hid (show parseL l = if d2 = [] then none else parseExp b d d2 (l.drop (m + 1 + d2.length)) by rw [hpd2.out, parseDot, if_pos hdot, hud, hd2, rest_drop, hd2])
        clear hd2 hdot hud
        by_cases hd0 : d2 = []
        · have HDT2 := Lib.hid (dig_m l (m + 1) (m + 1) d2 HD2.out (Nat.le_refl _) (by omega) false (by rw [hd0]; simp))
          have HP := Lib.hid (show parseL l = none by rw [hpe.out, if_pos hd0])
          clear hd0
          obtain ⟨hx2, hz2⟩ := ref_result HX7.out
          go_wp2_with fail
          refine (digit_next l m false _ hlen (by omega) HDT2.out).mono ?_
          rintro e w' ⟨rfl, rfl⟩
          go_wp2
          refine bodyPost_ret (v := .tuple #[.agg #[.bool false, .slice none 0 0, .int .i64 0, .int .i64 0], .int .i64 2]) (by simp [results, Tryz.results24, go_sem, hx2]) rfl ?_
          refine rres_none ?_ HP.out hl rfl
          (repeat (first | with_reducible refine Below.setCell ?_ (by simp) _))
          exact HX7.out.1
        · have hd1 : 0 < d2.length := List.length_pos_iff.2 hd0
          have HDT2 := Lib.hid (dig_m l (m + 1) (m + 1) d2 HD2.out (Nat.le_refl _) (by omega) true (by simpa using hd1))
          have HPE := Lib.hid (show parseL l = parseExp b d d2 (l.drop (m + 1 + d2.length)) by rw [hpe.out, if_neg hd0])
          clear hd0 hpe
          go_wp2_with fail
          refine (digit_next l m true _ hlen (by omega) HDT2.out).mono ?_
          rintro e w' ⟨rfl, rfl⟩
          go_wp2_with fail
          go_loopw [5] (fun u5 wr => ∃ q : Nat, m + 1 ≤ q ∧ q ≤ m + 1 + d2.length ∧ u5 = .int .i64 q ∧ RefX w b (d ++ d2.take (q - (m + 1))) d.length 0 wr) (fun u5 _ => m + 1 + d2.length - (intOf u5).toNat)
          case atStart => exact ⟨m + 1, Nat.le_refl _, by omega, by go_num, by rw [Nat.sub_self]; simpa using HX7.out⟩
          case round =>
            obtain ⟨q, hq1, hq2, rfl, hX⟩ := hrel
            by_cases hlt : q < m + 1 + d2.length
            · have HDT := Lib.hid (dig_m l (m + 1) q d2 HD2.out hq1 hq2 true (by simpa using hlt))
              obtain ⟨hml, htk, h48, h57⟩ := fig_m l (m + 1) q d2 HD2.out hq1 hlt
              have hsz : q < (⟨l.toArray⟩ : ByteArray).size := hml
              replace h48 : 48 ≤ (((⟨l.toArray⟩ : ByteArray)[q]'hsz).toNat : Int) := h48
              replace h57 : (((⟨l.toArray⟩ : ByteArray)[q]'hsz).toNat : Int) ≤ 57 := h57
              obtain ⟨ds, hds⟩ : ∃ ds, d ++ d2.take (q - (m + 1)) = ds := ⟨_, rfl⟩
              have hdl2 : ds.length ≤ 64 := by rw [← hds, List.length_append, List.length_take]; omega
              have htk2 : d ++ d2.take (q + 1 - (m + 1)) = ds ++ [l[q]] := by rw [htk, ← List.append_assoc, hds]
              rw [hds] at hX
              have HTK := Lib.hid htk2
              clear hds htk htk2
              have HX3 := Lib.hid hX
              obtain ⟨x1, x2, x3, u, x4, x5⟩ := hX
              have k1 := cell_of_row wr (w.heap.size + 1) 1 _ 45 (0, 0) x4
              have kf : wr.frozen? ⟨w.heap.size + 1, 1, none⟩ = false := by simp [World.frozen?, x4]
              simp at k1
              have hq0 : (0 : Int) ≤ (q : Int) := Int.natCast_nonneg _
              have hq4 : (q : Int) < (l.length : Int) := by omega
              have hown := Lib.hid x5
              clear x1 x2 x4 x5
              go_wp2_with fail
              refine (digit_is l q true _ hlen (by omega) HDT.out).mono ?_
              rintro e w' ⟨rfl, rfl⟩
              go_wp2_with fail
              have HNO := Lib.hid (show some (w.heap.size + 1) ≠ u.ownBlock from fun e => by have := (World.ownsRow.lt hown.out _ e.symm).1; omega)
              go_region_law (refine step_append_lies _ (by rfl) _ _ _ (by rfl) (w.heap.size + 2) 3 i0 _ 1 8 Tryz.underlying43 hi0 hz0 hzz1 hzz2 rfl (by omega) u ds.length (ds.map figV) (by rfl) (own_below hown.out (((Below.refl _ _).drew).alloc (Nat.le_refl _) _)) ⟨wr.heap.size, 0, none⟩ 1 1 [figV ((⟨l.toArray⟩ : ByteArray)[q]'hsz)] (by rfl) (by rfl) (World.news_of_block (cs := #[figV ((⟨l.toArray⟩ : ByteArray)[q]'hsz)]) (t := 3) (fr := (0, 0)) (alloc_at rfl)) (by simp [Value.oneCell', figV]) (by omega) (by unfold maxLen; omega) (by omega) (by show w.heap.size + 2 ≤ (wr.drew.alloc _).heap.size; simp; omega) (wr.heap.size + 1) (by simp) ?_; intro gg cap w4 hown4 hgrow4 hat4 hlt4; have g3 := (World.grownBy.cell_far hgrow4 ⟨w.heap.size + 1, 1, none⟩ (by show w.heap.size + 1 < _; simp; omega) HNO.out).trans ((cell_of_heap (Below.heap_alloc wr.drew _ _ x3)).trans k1); have gf3 := (World.grownBy.frozen_far hgrow4 ⟨w.heap.size + 1, 1, none⟩ (by show w.heap.size + 1 < _; simp; omega) HNO.out).trans ((World.frozen?_of_block (Below.heap_alloc wr.drew _ _ x3)).trans kf))
              all_goals
                have HN := Lib.hid (ref_round HX3.out k1 hgrow4 hown4)
                clear hgrow4 hown4 hat4 hlt4
                go_wp2
                go_roundw
                case rel => exact ⟨q + 1, by omega, hlt, by go_num, by rw [HTK.out]; exact HN.out⟩
                case measure => simp [intOf]; omega
            · have HDT := Lib.hid (dig_m l (m + 1) q d2 HD2.out hq1 hq2 false (by simpa using hlt))
              obtain ⟨j, hj⟩ : ∃ j, j = m + 1 + d2.length := ⟨_, rfl⟩
              obtain rfl : q = j := by omega
              have HX8 := Lib.hid (show RefX w b (d ++ d2) d.length 0 wr by
                have h := hX
                rw [show q - (m + 1) = d2.length by omega, List.take_length] at h; exact h)
              have HJ := Lib.hid hj
              clear hX hj
              go_wp2_with fail
              refine (digit_is l q false _ hlen (by omega) HDT.out).mono ?_
              rintro e w' ⟨rfl, rfl⟩
              go_wp2
              go_meet
              case rel => exact ⟨d2, q, rfl, by omega, HX8.out, by rw [HPE.out, HJ.out]⟩
    case rest =>
      obtain ⟨bh, q, rfl, hql, hX8, hpe⟩ := hcut
      refine k_out (by assumption) ?_
      exact exp_tail l w hl hlen b d bh q hql _ hX8 hpe _ _ _ _ _ _ _ _ _ _ _ _ _ _ _ _ _ _ _ _ _ _ _ _ _ _ _ _ _ _ _ _ _ _ _ _ _ _ _ _ _ _ _ _ _ _ _ _ _ _ _ _ _ _ _ _ _ _ _ _ _ _ _ _ _ _ _ _ _ _ _ _ _ _ _ _ _ _ _ _ _ _ _ _ _ _ _ _ _ _ _ _ _ _ _ _ _ _ _ _ _ _ _ _ _ _ _ _ _ _ _ _ _ _ _ _ _ _ _ _ _ _ _ _ _ _ _ _ _ _ _ _ _ _ _ _ _ _ _ _ _ _ _ _ _ _ _ _ _ _ _ _ _ _ _ _

end Go.Proofs.YtlmogijkkhdogaaGreatDoor
