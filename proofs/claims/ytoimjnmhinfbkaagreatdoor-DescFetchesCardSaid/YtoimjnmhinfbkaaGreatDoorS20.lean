import Derived.Test.YtoimjnmhinfbkaaGreatDoorS04
import Derived.Test.YtoimjnmhinfbkaaGreatDoorS19
namespace Go.Proofs.YtoimjnmhinfbkaaGreatDoor
open Go.RowKit
set_option maxRecDepth 100000
set_option maxHeartbeats 12800000 in
theorem fetches_any (bs : List Bl) (m n : ByteArray) (z : Int) (da dp dv : ByteArray) (l : List Nat) (S A : Option Addr) (cap cap2 : Nat) (w : World) (hg : Glob w) (hw : ShaD w) (hs : StoreAt w S bs) (hb : BytesOk w A cap2 l) :
  Calls Tryz.prog 7 #[.slice S bs.length cap, .agg #[.string m, .string n, .int .i64 z, .string da, .string dp, .string dv], .slice A l.length cap2] w fun e w' => e = .returned (.bool true) ∧ Below w.heap.size w w' := by
 have HG := Lib.hid hg
 have HW := Lib.hid hw
 have HS := Lib.hid hs
 have HB := Lib.hid hb
 have HB0 := Lib.hid ((Below.refl w.heap.size w).alloc (Nat.le_refl _) (.cells #[.string m, .string n, .int .i64 z, .string da, .string dp, .string dv] 62))
 clear hg hw hs hb
 by_cases hL : longB bs = true
 ·go_enter Tryz.func7, Tryz.ntmps7
  go_wp2_with fail
  refine (alive23 _ (HG.out.below HB0.out)).mono ?_
  rintro e w1 ⟨rfl, hb1⟩
  have HB1 := Lib.hid (HB0.out.trans (hb1.mono (by rw [alloc_size1]; omega)))
  have HX1 := Lib.hid ((hb1.block w.heap.size (by rw [alloc_size1]; omega)).trans (alloc_at rfl))
  have hz1 : w.heap.size < w1.heap.size := by have := hb1.size; rw [alloc_size1] at this; omega
  clear hb1
  go_wp2_with fail
  refine (long_any bs S cap w1 (HS.out.keep HB1.out)).mono ?_
  rintro e w2 ⟨rfl, hb2⟩
  have HB2 := Lib.hid (HB1.out.trans (hb2.mono HB1.out.size))
  have HX2 := Lib.hid ((hb2.block w.heap.size hz1).trans HX1.out)
  have hz2 : w.heap.size < w2.heap.size := by have := hb2.size; omega
  have c2 := fun o => cell_of_row w2 w.heap.size o _ 62 (0, 0) HX2.out
  clear hb2 HX1 HB1 hz1
  rw [hL]
  go_wp2
  go_ret
  exact ⟨rfl, HB2.out⟩
 have hLf : longB bs = false := by simpa using hL
 by_cases hl : 2000 < l.length
 ·have hl' : (2000 : Int) < (l.length : Int) := by omega
  go_enter Tryz.func7, Tryz.ntmps7
  go_wp2_with fail
  refine (alive23 _ (HG.out.below HB0.out)).mono ?_
  rintro e w1 ⟨rfl, hb1⟩
  have HB1 := Lib.hid (HB0.out.trans (hb1.mono (by rw [alloc_size1]; omega)))
  have HX1 := Lib.hid ((hb1.block w.heap.size (by rw [alloc_size1]; omega)).trans (alloc_at rfl))
  have hz1 : w.heap.size < w1.heap.size := by have := hb1.size; rw [alloc_size1] at this; omega
  clear hb1
  go_wp2_with fail
  refine (long_any bs S cap w1 (HS.out.keep HB1.out)).mono ?_
  rintro e w2 ⟨rfl, hb2⟩
  have HB2 := Lib.hid (HB1.out.trans (hb2.mono HB1.out.size))
  have HX2 := Lib.hid ((hb2.block w.heap.size hz1).trans HX1.out)
  have hz2 : w.heap.size < w2.heap.size := by have := hb2.size; omega
  have c2 := fun o => cell_of_row w2 w.heap.size o _ 62 (0, 0) HX2.out
  clear hb2 HX1 HB1 hz1
  rw [hLf]
  go_wp2
  go_ret
  exact ⟨rfl, HB2.out⟩
 have hl' : ¬ (2000 : Int) < (l.length : Int) := by omega
 by_cases hn : 200 < n.size
 ·have hn' : (200 : Int) < (n.size : Int) := by omega
  go_enter Tryz.func7, Tryz.ntmps7
  go_wp2_with fail
  refine (alive23 _ (HG.out.below HB0.out)).mono ?_
  rintro e w1 ⟨rfl, hb1⟩
  have HB1 := Lib.hid (HB0.out.trans (hb1.mono (by rw [alloc_size1]; omega)))
  have HX1 := Lib.hid ((hb1.block w.heap.size (by rw [alloc_size1]; omega)).trans (alloc_at rfl))
  have hz1 : w.heap.size < w1.heap.size := by have := hb1.size; rw [alloc_size1] at this; omega
  clear hb1
  go_wp2_with fail
  refine (long_any bs S cap w1 (HS.out.keep HB1.out)).mono ?_
  rintro e w2 ⟨rfl, hb2⟩
  have HB2 := Lib.hid (HB1.out.trans (hb2.mono HB1.out.size))
  have HX2 := Lib.hid ((hb2.block w.heap.size hz1).trans HX1.out)
  have hz2 : w.heap.size < w2.heap.size := by have := hb2.size; omega
  have c2 := fun o => cell_of_row w2 w.heap.size o _ 62 (0, 0) HX2.out
  clear hb2 HX1 HB1 hz1
  rw [hLf]
  go_wp2
  go_ret
  exact ⟨rfl, HB2.out⟩
 have hn' : ¬ (200 : Int) < (n.size : Int) := by omega
 have hlong : bs.length ≤ 20 ∧ ∀ b ∈ bs, b.dat.length ≤ 3000 := by
  unfold longB at hLf
  simp only [Bool.or_eq_false_iff, decide_eq_false_iff_not, List.any_eq_false] at hLf
  refine ⟨by omega, fun b hb => ?_⟩
  have := hLf.2 b hb
  unfold longOne at this
  simp only [Bool.or_eq_true, decide_eq_true_eq, not_or] at this
  omega
 have hbs20 := hlong.1
 have HBIG := Lib.hid hlong.2
 clear hlong hL
 go_enter Tryz.func7, Tryz.ntmps7
 go_wp2_with fail
 refine (alive23 _ (HG.out.below HB0.out)).mono ?_
 rintro e w1 ⟨rfl, hb1⟩
 have HB1 := Lib.hid (HB0.out.trans (hb1.mono (by rw [alloc_size1]; omega)))
 have HX1 := Lib.hid ((hb1.block w.heap.size (by rw [alloc_size1]; omega)).trans (alloc_at rfl))
 have hz1 : w.heap.size < w1.heap.size := by have := hb1.size; rw [alloc_size1] at this; omega
 clear hb1
 go_wp2_with fail
 refine (long_any bs S cap w1 (HS.out.keep HB1.out)).mono ?_
 rintro e w2 ⟨rfl, hb2⟩
 have HB2 := Lib.hid (HB1.out.trans (hb2.mono HB1.out.size))
 have HX2 := Lib.hid ((hb2.block w.heap.size hz1).trans HX1.out)
 have hz2 : w.heap.size < w2.heap.size := by have := hb2.size; omega
 have c2 := fun o => cell_of_row w2 w.heap.size o _ 62 (0, 0) HX2.out
 clear hb2 HX1 HB1 hz1
 rw [hLf]
 clear hLf
 go_wp2_with fail
 refine (descOf_any m l A cap2 w2 (HW.out.keep HB2.out HW.out.size) (HB.out.keep HB2.out).by' (by omega) (HB.out.keep HB2.out).le (HB.out.keep HB2.out).at').mono ?_
 rintro e w3 ⟨rfl, hb3⟩
 have HB3 := Lib.hid (HB2.out.trans (hb3.mono HB2.out.size))
 have HX3 := Lib.hid ((hb3.block w.heap.size hz2).trans HX2.out)
 have hz3 : w.heap.size < w3.heap.size := by have := hb3.size; omega
 clear hb3 HX2 c2
 obtain ⟨nb, hnb⟩ : ∃ nb : ByteArray, nb = ⟨(nmL l).toArray⟩ := ⟨_, rfl⟩
 rw [← hnb]
 have HNB := Lib.hid hnb
 have hnbs : nb.size ≤ 1073741824 := by
  rw [hnb]
  show (nmL l).toArray.size ≤ _
  simp [nmL, nameL, hexL_length, sha_length]
 clear hnb
 go_upto_region 6 with (fail)
 rename_i Kf hKf
 change Code.wp _ _ _ _ (w3.alloc (.cells #[.string m, .string nb, .int .i64 (l.length : Int), .string ⟨#[]⟩, .string ⟨#[]⟩, .string ⟨#[]⟩] 62))
 have HX4 := Lib.hid ((alloc_before (o := .cells #[.string m, .string nb, .int .i64 (l.length : Int), .string ⟨#[]⟩, .string ⟨#[]⟩, .string ⟨#[]⟩] 62) hz3).trans HX3.out)
 have HY4 := Lib.hid (show (w3.alloc (.cells #[.string m, .string nb, .int .i64 (l.length : Int), .string ⟨#[]⟩, .string ⟨#[]⟩, .string ⟨#[]⟩] 62)).heap[w3.heap.size]? = _ from alloc_at rfl)
 have HB4 := Lib.hid (HB3.out.alloc HB3.out.size (.cells #[.string m, .string nb, .int .i64 (l.length : Int), .string ⟨#[]⟩, .string ⟨#[]⟩, .string ⟨#[]⟩] 62))
 have hz4 : (w3.alloc (.cells #[.string m, .string nb, .int .i64 (l.length : Int), .string ⟨#[]⟩, .string ⟨#[]⟩, .string ⟨#[]⟩] 62)).heap.size = w3.heap.size + 1 := alloc_size1 _ _
 generalize World.alloc _ _ = W4 at HX4 HY4 HB4 hz4 ⊢
 clear HB3 HX3
 refine reg7_6 (B := W4.heap.size) (p4 := w.heap.size) (p7 := w3.heap.size) (m := m) (n := n) (z := z) (da := da) (dp := dp) (dv := dv) (nb := nb) (l := l) (A := A) (cap := cap2) (by kernel_rfl) (Nat.le_refl _) (Nat.le_refl _) HX4.out (by omega) HY4.out (by omega) (HB.out.keep HB4.out) (by omega) HNB.out rfl rfl rfl rfl (fun LL a w5 hJ hd hs hr hR => ?_)
 obtain ⟨z34, z35, z36, z37, z38, z39, z40, z41, rfl⟩ := turn7_6 ⟨hd, hs, hr⟩ (hR 8 (by decide))
 have HB5 := Lib.hid (HB4.out.trans (Below.mono hJ HB4.out.size))
 have HX5 := Lib.hid ((Below.block hJ w.heap.size (by omega)).trans HX4.out)
 have HY5 := Lib.hid ((Below.block hJ w3.heap.size (by omega)).trans HY4.out)
 have hz5 : w3.heap.size + 1 ≤ w5.heap.size := by have := Below.size hJ; omega
 clear hd hs hr hR hJ HX4 HY4 HB4 hz4
 refine hKf _ _ ?_
 clear hKf
 have hfe := fetch_any bs m n z da dp dv S cap w5 (HW.out.keep HB5.out HW.out.size) (HS.out.keep HB5.out) (by omega) (fun b hb => Nat.le_trans (HBIG.out b hb) (by decide)) (by omega)
 have c5 := fun o => cell_of_row w5 w.heap.size o _ 62 (0, 0) HX5.out
 cases hf : fetchA (bs.map Bl.key) n z with
 | error c =>
  have hc0 : 0 < c := by
   unfold fetchA at hf
   split at hf
   ·rename_i h1
    injection hf with hf
    subst hf
    rcases getA_codes h1 with h | h <;> omega
   ·split at hf
    ·cases hf
    ·injection hf with hf; omega
  rw [hf] at hfe
  have HF := Lib.hid hf
  have HFE := Lib.hid hfe
  clear hf hfe
  go_wp2_with fail
  refine HFE.out.mono ?_
  rintro e w6 ⟨he, hb6⟩
  obtain rfl : e = _ := he
  have HB6 := Lib.hid (HB5.out.trans (hb6.mono HB5.out.size))
  have HX6 := Lib.hid ((hb6.block w.heap.size (by omega)).trans HX5.out)
  have HY6 := Lib.hid ((hb6.block w3.heap.size (by omega)).trans HY5.out)
  have hz6 : w3.heap.size + 1 ≤ w6.heap.size := by have := hb6.size; omega
  clear hb6 HX5 HY5 c5 HB5
  go_upto_region 9 with (fail)
  rename_i Kf hKf
  refine reg7_9 (B := w6.heap.size) (p4 := w.heap.size) (m := m) (n := n) (z := z) (da := da) (dp := dp) (dv := dv) (bs := bs) (S := S) (cap := cap) (by kernel_rfl) (Nat.le_refl _) (Nat.le_refl _) HX6.out (by omega) (HS.out.keep HB6.out) hbs20 HBIG.out rfl rfl rfl (fun LL a w7 hJ hd hs hr hR => ?_)
  obtain ⟨z49, z50, z51, z52, z53, z54, z55, z56, rfl⟩ := turn7_9 ⟨hd, hs, hr⟩ ((hR 8 (by decide)).trans (show _ = Value.string ⟨#[]⟩ by rw [HF.out]; rfl)) ((hR 9 (by decide)).trans (show _ = Value.int .i64 c by rw [HF.out]; rfl))
  have HB7 := Lib.hid (HB6.out.trans (Below.mono hJ HB6.out.size))
  have HY7 := Lib.hid ((Below.block hJ w3.heap.size (by omega)).trans HY6.out)
  have hz7 : w3.heap.size + 1 ≤ w7.heap.size := by have := Below.size hJ; omega
  clear hd hs hr hR hJ HX6 HY6 HB6
  refine hKf _ _ ?_
  clear hKf
  have hcv := Lib.run_convert_nil_bytes (P := Tryz.prog) w7 87 9 5 0 Tryz.underlying87 Tryz.underlying5 Tryz.underlying9
  have hnum := num_any c (by omega) w7
  rw [show errnoV c = .iface 35 (.int .i64 c) from if_neg (by omega)] at hnum
  have HNUM := Lib.hid hnum
  clear hnum
  go_wp2_with fail
  refine HNUM.out.mono ?_
  rintro e w8 ⟨rfl, rfl⟩
  clear hcv HNUM
  cases hpo : putOk (bs.map Bl.doc) ⟨(nmL l).toArray⟩ (strN l) with
  | true =>
   have HPO := Lib.hid hpo
   clear hpo
   go_upto_region 12 with (fail)
   rename_i Kf hKf
   refine reg7_12a (B := w7.heap.size) (bs := bs) (S := S) (cap := cap) (l := l) (A := A) (cap2 := cap2) (by kernel_rfl) (Nat.le_refl _) (Nat.le_refl _) (HS.out.keep HB7.out) hbs20 HBIG.out (HB.out.keep HB7.out) (by omega) HPO.out rfl rfl rfl (fun LL a w8 hJ hd hs hr hR => ?_)
   obtain ⟨S8, c8, out, e12, hp8, hg8, hl8, hx8⟩ := hR 9 (by decide)
   obtain ⟨y13, y67, y68, y69, y70, y71, y72, y73, y74, y75, rfl⟩ := turn7_12a ⟨hd, hs, hr⟩ e12 (hR 11 (by decide))
   have HB8 := Lib.hid (HB7.out.trans (Below.mono hJ HB7.out.size))
   have HY8 := Lib.hid ((Below.block hJ w3.heap.size (by omega)).trans HY7.out)
   have hz8 : w3.heap.size + 1 ≤ w8.heap.size := by have := Below.size hJ; omega
   have HP8 := Lib.hid hp8
   have HG8 := Lib.hid hg8
   have HX8 := Lib.hid hx8
   clear hd hs hr hR hJ HB7 HY7 e12 hp8 hg8 hx8
   refine hKf _ _ ?_
   clear hKf
   go_upto_region 15 with (fail)
   rename_i Kf hKf
   refine reg7_15 (B := w8.heap.size) (p7 := w3.heap.size) (m := m) (nb := nb) (l := l) (ds := out) (S := S8) (cap := c8) (by kernel_rfl) (Nat.le_refl _) (Nat.le_refl _) HY8.out (by omega) (HW.out.keep HB8.out HW.out.size) HP8.out (by rw [HNB.out]; exact HG8.out) hl8 HX8.out hnbs rfl rfl rfl (fun LL a w9 hJ hd hs hr hR => ?_)
   obtain ⟨A9, c9, e14, hbo⟩ := hR 7 (by decide)
   obtain ⟨y78, y79, y80, y81, y82, y83, y84, rfl⟩ := turn7_15 ⟨hd, hs, hr⟩ (hR 8 (by decide)) e14
   have HB9 := Lib.hid (HB8.out.trans (Below.mono hJ HB8.out.size))
   have HBO := Lib.hid hbo
   clear hd hs hr hR hJ HB8 HY8 e14 hbo HP8 HG8 HX8
   refine hKf _ _ ?_
   clear hKf
   go_wp2_with fail
   refine (bytes_same l A9 A c9 cap2 w9 HBO.out (HB.out.keep HB9.out)).mono ?_
   rintro e w10 ⟨rfl, rfl⟩
   go_wp2
   go_ret
   exact ⟨rfl, HB9.out⟩
  | false =>
   have HPO := Lib.hid hpo
   clear hpo
   go_upto_region 12 with (fail)
   rename_i Kf hKf
   refine reg7_12b (B := w7.heap.size) (bs := bs) (S := S) (cap := cap) (l := l) (A := A) (cap2 := cap2) (by kernel_rfl) (Nat.le_refl _) (Nat.le_refl _) (HS.out.keep HB7.out) hbs20 HBIG.out (HB.out.keep HB7.out) (by omega) HPO.out rfl rfl rfl (fun LL a w8 hJ hd hs hr hR => ?_)
   obtain ⟨y13, y67, y68, y69, y70, y71, y72, y73, y74, y75, rfl⟩ := turn7_12b ⟨hd, hs, hr⟩ (hR 9 (by decide)) (hR 11 (by decide))
   have HB8 := Lib.hid (HB7.out.trans (Below.mono hJ HB7.out.size))
   clear hd hs hr hR hJ HB7 HY7
   refine hKf _ _ ?_
   clear hKf
   go_wp2
   go_ret
   exact ⟨rfl, HB8.out⟩
 | ok d =>
  rw [hf] at hfe
  have HF := Lib.hid hf
  have HFE := Lib.hid hfe
  clear hf hfe
  go_wp2_with fail
  refine HFE.out.mono ?_
  rintro e w6 ⟨⟨A6, c6, he, hok⟩, hb6⟩
  obtain rfl : e = _ := he
  have HOK := Lib.hid hok
  have HB6 := Lib.hid (HB5.out.trans (hb6.mono HB5.out.size))
  have HX6 := Lib.hid ((hb6.block w.heap.size (by omega)).trans HX5.out)
  have HY6 := Lib.hid ((hb6.block w3.heap.size (by omega)).trans HY5.out)
  have hz6 : w3.heap.size + 1 ≤ w6.heap.size := by have := hb6.size; omega
  clear hb6 HX5 HY5 c5 HB5 hok
  go_upto_region 9 with (fail)
  rename_i Kf hKf
  refine reg7_9 (B := w6.heap.size) (p4 := w.heap.size) (m := m) (n := n) (z := z) (da := da) (dp := dp) (dv := dv) (bs := bs) (S := S) (cap := cap) (by kernel_rfl) (Nat.le_refl _) (Nat.le_refl _) HX6.out (by omega) (HS.out.keep HB6.out) hbs20 HBIG.out rfl rfl rfl (fun LL a w7 hJ hd hs hr hR => ?_)
  obtain ⟨sd, hsd⟩ : ∃ sd, sd = strN d := ⟨_, rfl⟩
  obtain ⟨z49, z50, z51, z52, z53, z54, z55, z56, rfl⟩ := turn7_9 ⟨hd, hs, hr⟩ ((hR 8 (by decide)).trans (show _ = Value.string sd by rw [HF.out, hsd]; rfl)) ((hR 9 (by decide)).trans (show _ = Value.int .i64 0 by rw [HF.out]; rfl))
  have HB7 := Lib.hid (HB6.out.trans (Below.mono hJ HB6.out.size))
  have HY7 := Lib.hid ((Below.block hJ w3.heap.size (by omega)).trans HY6.out)
  have hz7 : w3.heap.size + 1 ≤ w7.heap.size := by have := Below.size hJ; omega
  have hcv := conv_str (HOK.out.keep hJ)
  rw [← hsd] at hcv
  clear hd hs hr hR hJ HX6 HY6 HB6 hsd
  refine hKf _ _ ?_
  clear hKf
  have hnum := num_any 0 (by omega) w7
  rw [show errnoV 0 = .nilIface from if_pos rfl] at hnum
  have HNUM := Lib.hid hnum
  clear hnum
  go_wp2_with fail
  refine HNUM.out.mono ?_
  rintro e w8 ⟨rfl, rfl⟩
  clear hcv HNUM
  cases hpo : putOk (bs.map Bl.doc) ⟨(nmL l).toArray⟩ (strN l) with
  | true =>
   have HPO := Lib.hid hpo
   clear hpo
   go_upto_region 12 with (fail)
   rename_i Kf hKf
   refine reg7_12a (B := w7.heap.size) (bs := bs) (S := S) (cap := cap) (l := l) (A := A) (cap2 := cap2) (by kernel_rfl) (Nat.le_refl _) (Nat.le_refl _) (HS.out.keep HB7.out) hbs20 HBIG.out (HB.out.keep HB7.out) (by omega) HPO.out rfl rfl rfl (fun LL a w8 hJ hd hs hr hR => ?_)
   obtain ⟨S8, c8, out, e12, hp8, hg8, hl8, hx8⟩ := hR 9 (by decide)
   obtain ⟨y13, y67, y68, y69, y70, y71, y72, y73, y74, y75, rfl⟩ := turn7_12a ⟨hd, hs, hr⟩ e12 (hR 11 (by decide))
   have HB8 := Lib.hid (HB7.out.trans (Below.mono hJ HB7.out.size))
   have HY8 := Lib.hid ((Below.block hJ w3.heap.size (by omega)).trans HY7.out)
   have hz8 : w3.heap.size + 1 ≤ w8.heap.size := by have := Below.size hJ; omega
   have HP8 := Lib.hid hp8
   have HG8 := Lib.hid hg8
   have HX8 := Lib.hid hx8
   clear hd hs hr hR hJ HB7 HY7 e12 hp8 hg8 hx8
   refine hKf _ _ ?_
   clear hKf
   go_upto_region 15 with (fail)
   rename_i Kf hKf
   refine reg7_15 (B := w8.heap.size) (p7 := w3.heap.size) (m := m) (nb := nb) (l := l) (ds := out) (S := S8) (cap := c8) (by kernel_rfl) (Nat.le_refl _) (Nat.le_refl _) HY8.out (by omega) (HW.out.keep HB8.out HW.out.size) HP8.out (by rw [HNB.out]; exact HG8.out) hl8 HX8.out hnbs rfl rfl rfl (fun LL a w9 hJ hd hs hr hR => ?_)
   obtain ⟨A9, c9, e14, hbo⟩ := hR 7 (by decide)
   obtain ⟨y78, y79, y80, y81, y82, y83, y84, rfl⟩ := turn7_15 ⟨hd, hs, hr⟩ (hR 8 (by decide)) e14
   have HB9 := Lib.hid (HB8.out.trans (Below.mono hJ HB8.out.size))
   have HBO := Lib.hid hbo
   clear hd hs hr hR hJ HB8 HY8 e14 hbo HP8 HG8 HX8
   refine hKf _ _ ?_
   clear hKf
   go_wp2_with fail
   refine (bytes_same l A9 A c9 cap2 w9 HBO.out (HB.out.keep HB9.out)).mono ?_
   rintro e w10 ⟨rfl, rfl⟩
   go_wp2
   go_ret
   exact ⟨rfl, HB9.out⟩
  | false =>
   have HPO := Lib.hid hpo
   clear hpo
   go_upto_region 12 with (fail)
   rename_i Kf hKf
   refine reg7_12b (B := w7.heap.size) (bs := bs) (S := S) (cap := cap) (l := l) (A := A) (cap2 := cap2) (by kernel_rfl) (Nat.le_refl _) (Nat.le_refl _) (HS.out.keep HB7.out) hbs20 HBIG.out (HB.out.keep HB7.out) (by omega) HPO.out rfl rfl rfl (fun LL a w8 hJ hd hs hr hR => ?_)
   obtain ⟨y13, y67, y68, y69, y70, y71, y72, y73, y74, y75, rfl⟩ := turn7_12b ⟨hd, hs, hr⟩ (hR 9 (by decide)) (hR 11 (by decide))
   have HB8 := Lib.hid (HB7.out.trans (Below.mono hJ HB7.out.size))
   clear hd hs hr hR hJ HB7 HY7
   refine hKf _ _ ?_
   clear hKf
   go_wp2
   go_ret
   exact ⟨rfl, HB8.out⟩
end Go.Proofs.YtoimjnmhinfbkaaGreatDoor
