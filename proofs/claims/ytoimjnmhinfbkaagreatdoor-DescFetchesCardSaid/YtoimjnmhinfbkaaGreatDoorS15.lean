import Derived.Test.YtoimjnmhinfbkaaGreatDoorS14
namespace Go.Proofs.YtoimjnmhinfbkaaGreatDoor
open Go.RowKit
set_option maxRecDepth 100000
theorem arr_zero {l : List (BitVec 32)} (h : l.length < 64) : arr l = arr (l ++ [0]) := by
 rw [← arr_push 0 h]
 apply Array.ext_getElem?
 intro i
 by_cases e : l.length = i
 ·subst e
  rw [Array.getElem?_setIfInBounds_self_of_lt (by rw [arr_size l (by omega)]; exact h), arr_free (Nat.le_refl _) h]
 ·rw [Array.getElem?_setIfInBounds_ne e]
theorem arr_put {l : List (BitVec 32)} (x y : BitVec 32) (h : l.length < 64) : (arr (l ++ [x])).setIfInBounds l.length (U y) = arr (l ++ [y]) := by
 rw [← arr_push x h, ← arr_push y h]
 apply Array.ext_getElem?
 intro i
 have hs : l.length < (arr l).size := by rw [arr_size l (by omega)]; exact h
 by_cases e : l.length = i
 ·subst e
  rw [Array.getElem?_setIfInBounds_self_of_lt (by simpa using hs), Array.getElem?_setIfInBounds_self_of_lt hs]
 ·rw [Array.getElem?_setIfInBounds_ne e, Array.getElem?_setIfInBounds_ne e, Array.getElem?_setIfInBounds_ne e]
theorem docK_length : docK.length = 64 := by rw [docK, List.length_map]; exact prm_312
theorem docH_length : docH.length = 8 := by rw [docH, List.length_map, List.length_take, prm_312]; rfl
theorem docK_take {k : Nat} (h : k < 64) : docK.take (k + 1) = docK.take k ++ [BitVec.ofNat 32 (cubeIt ((prm 312).getD k 0) 36).1] := by
 rw [List.take_succ_eq_append_getElem (by rw [docK_length]; exact h)]
 refine congrArg (fun z => docK.take k ++ [z]) ?_
 simp only [docK, List.getElem_map]
 rw [List.getD_eq_getElem?_getD, List.getElem?_eq_getElem (by rw [prm_312]; exact h)]; rfl
theorem docH_take {k : Nat} (h : k < 8) : docH.take (k + 1) = docH.take k ++ [BitVec.ofNat 32 (sqIt 32 (rootN ((prm 312).getD k 0), (prm 312).getD k 0 - rootN ((prm 312).getD k 0) * rootN ((prm 312).getD k 0))).1] := by
 rw [List.take_succ_eq_append_getElem (by rw [docH_length]; exact h)]
 refine congrArg (fun z => docH.take k ++ [z]) ?_
 have e : ((prm 312).take 8)[k]'(by rw [List.length_take, prm_312]; omega) = (prm 312).getD k 0 := by
  rw [List.getElem_take, List.getD_eq_getElem?_getD, List.getElem?_eq_getElem (by rw [prm_312]; omega)]; rfl
 simp only [docH, List.getElem_map]
 rw [e]
theorem root_ok {k : Nat} (h : k < 8) : rootN ((prm 312).getD k 0) * rootN ((prm 312).getD k 0) ≤ (prm 312).getD k 0 ∧ (prm 312).getD k 0 < (rootN ((prm 312).getD k 0) + 1) * (rootN ((prm 312).getD k 0) + 1) := by
 have h1 : (List.range 8).all (fun k => decide (rootN ((prm 312).getD k 0) * rootN ((prm 312).getD k 0) ≤ (prm 312).getD k 0 ∧ (prm 312).getD k 0 < (rootN ((prm 312).getD k 0) + 1) * (rootN ((prm 312).getD k 0) + 1))) = true := by kernel_rfl
 exact of_decide_eq_true (List.all_eq_true.1 h1 k (List.mem_range.2 h))
theorem prm_lt {k : Nat} (h : k < 64) : (prm 312).getD k 0 < 312 := by
 rw [List.getD_eq_getElem?_getD, List.getElem?_eq_getElem (by rw [prm_312]; exact h)]
 exact (prm_pos 312 _ (List.getElem_mem _)).2
theorem outB_getD (s : List (BitVec 32)) {q r : Nat} (hr : r < 4) : ∀ n, q < n → (outB s n).getD (4 * q + r) 0 = (s.getD q 0 >>> (24 - r * 8)).toNat % 256
 | 0, h => absurd h (by omega)
 | n + 1, h => by
  have hl := outB_length s n
  rw [outB, List.getD_eq_getElem?_getD]
  by_cases e : q < n
  ·rw [List.getElem?_append_left (by omega), ← List.getD_eq_getElem?_getD]
   exact outB_getD s hr n e
  ·obtain rfl : q = n := by omega
   rw [List.getElem?_append_right (by omega), hl, show 4 * q + r - 4 * q = r by omega]
   unfold b4
   match r, hr with
   | 0, _ => rfl
   | 1, _ => rfl
   | 2, _ => rfl
   | 3, _ => simp
theorem results86 (tmps : Array Value) (w : World) (b : Nat) (cs : List Value) (h2 : tmps.getD 2 undef = .pointer (some ⟨b, 0, none⟩)) (hc : w.rangeAt b 0 cs) (hl : cs.length = 32) :
  (results Tryz.f86 tmps).run Tryz.prog w = .ok (.agg cs.toArray) w := by
 have hr := run_loadVar_mid (P := Tryz.prog) w b 0 147 cs (.array 32 5) hc hu147 rfl (by rw [hl]; exact hi147)
 rw [Array.getD_eq_getD_getElem?] at h2
 simp [results, Tryz.results86, h2, hr, asAddr, Sem.run_bind]
/-- the hash's two tables in a world. -/
theorem comp_snoc (kl ws s : List (BitVec 32)) (k : Nat) : comp kl ws s (k + 1) = rnd (comp kl ws s k) (kl.getD k 0) (ws.getD k 0) := rfl
theorem cell_also {P : Nat → Prop} {w w' : World} {p : Addr} {v : Value} (h : Also P w w') (hp : P p.block) (hc : w.cell? p = some v) : w'.cell? p = some v := by
 have hb := h.block p.block hp (World.block_lt_of_cell? w _ hc)
 rw [← hc]
 unfold World.cell?
 rw [hb]
/-- what the hash asks of its small functions. -/
structure Doc86 (pl : List Nat) (kl il : List (BitVec 32)) (kv hv : Nat → BitVec 32) : Prop where
 primes : ∀ w, Calls Tryz.prog 115 #[.int .i64 64] w fun e w' => ∃ g cap, e = .returned (.slice (some ⟨g, 0, none⟩) 64 cap) ∧ w'.ownsRow w.heap.size 105 1 (.slice (some ⟨g, 0, none⟩) 64 cap) 64 (pl.map fun x => Q64 x) ∧ Below w.heap.size w w'
 cube : ∀ p, p < 312 → ∀ w, Calls Tryz.prog 116 #[Q64 p] w fun e w' => e = .returned (U (kv p)) ∧ Below w.heap.size w w'
 square : ∀ k, k < 8 → ∀ w, Calls Tryz.prog 117 #[Q64 (pl.getD k 0)] w fun e w' => e = .returned (U (hv (pl.getD k 0))) ∧ w = w'
 pl64 : pl.length = 64
 small : ∀ k, k < 64 → pl.getD k 0 < 312
 kl64 : kl.length = 64
 il8 : il.length = 8
 ktake : ∀ k, k < 64 → kl.take (k + 1) = kl.take k ++ [kv (pl.getD k 0)]
 itake : ∀ k, k < 8 → il.take (k + 1) = il.take k ++ [hv (pl.getD k 0)]
theorem doc86_ok : Doc86 (prm 312) docK docH (fun p => BitVec.ofNat 32 (cubeIt p 36).1) (fun p => BitVec.ofNat 32 (sqIt 32 (rootN p, p - rootN p * rootN p)).1) where
 primes := primes_64
 cube := fun p hp => cube_any p (by omega)
 square := fun k hk => square_any _ _ (by have := prm_lt (show k < 64 by omega); omega) (root_ok hk).1 (root_ok hk).2
 pl64 := prm_312
 small := fun k => prm_lt
 kl64 := docK_length
 il8 := docH_length
 ktake := fun k => docK_take
 itake := fun k => docH_take
theorem rowQ {w : World} {base g n cap : Nat} {xs : List Nat} (hx : xs.length = n) (hown : w.ownsRow base 105 1 (.slice (some ⟨g, 0, none⟩) n cap) n (xs.map fun x => Q64 x)) : ∀ k, k < n → w.cell? ⟨g, k, none⟩ = some (Q64 (xs.getD k 0)) := fun k hk => by
 have h1 := hown.cellAt k (by omega)
 rw [List.getElem?_map, List.getElem?_eq_getElem (by omega)] at h1
 rw [List.getD_eq_getElem?_getD, List.getElem?_eq_getElem (by omega)]
 exact h1
set_option maxHeartbeats 12800000 in
theorem doc86 {pl : List Nat} {kl il : List (BitVec 32)} {kv hv : Nat → BitVec 32} (hp : Doc86 pl kl il kv hv) (l : List Nat) (A : Option Addr) (cap : Nat) (w : World) (hl : ∀ x ∈ l, x < 256) (hn : l.length ≤ 100000000) (hA : A = none → l.length = 0 ∧ cap = 0) (hc : l.length ≤ cap) (hb : BytesAt w A l) :
  Calls Tryz.prog 86 #[.slice A l.length cap] w fun e w' => e = .returned (.agg (arrB (outB (stN kl il (fillT l) ((fillT l).length / 64)) 8))) ∧ Below w.heap.size w w' := by
 obtain ⟨i0, hi0, hz0, hzz1, hzz2⟩ := info_parts info5
 have HP := Lib.hid hp
 have HL := Lib.hid hl
 have HN := Lib.hid hn
 have HC := Lib.hid hc
 have HA := Lib.hid hA
 have HB := Lib.hid hb
 clear hp hl hn hc hA hb
 go_enter Tryz.func86, Tryz.ntmps86
 go_wp2_with fail
 change Calls _ _ _ (w.alloc (.cells (Array.replicate 32 (.int .u8 0)) 147)) _
 have HB0 := Lib.hid ((Below.refl w.heap.size w).alloc (Nat.le_refl _) (.cells (Array.replicate 32 (.int .u8 0)) 147))
 refine (HP.out.primes _).mono ?_
 rintro e w1 ⟨g, lcap, rfl, hown, hbl⟩
 have hg1 := World.ownsRow.lt hown g rfl
 have HL1 := Lib.hid (rowQ HP.out.pl64 hown)
 have HB1 := Lib.hid (HB0.out.trans (hbl.mono (by rw [alloc_size1]; omega)))
 have HR1 := Lib.hid (show w1.heap[w.heap.size]? = some (.cells (Array.replicate 32 (.int .u8 0)) 147 (0, 0)) from (hbl.block _ (by rw [alloc_size1]; omega)).trans (alloc_at rfl))
 have hz1 : w.heap.size + 1 ≤ w1.heap.size := by have := hbl.size; rw [alloc_size1] at this; exact this
 clear hown hbl HB0
 obtain ⟨S, hS⟩ : ∃ S, S = w1.heap.size := ⟨_, rfl⟩
 go_upto_region 2 with (fail)
 rename_i Kf hKf
 refine reg86_2 (X := S) (by kernel_rfl) rfl hS.symm rfl (fun a hd hs hr hR => ?_)
 obtain rfl := turn86_2 ⟨hd, hs, hr⟩ (hR 1 (by decide)) (hR 0 (by decide))
 clear hd hs hr hR
 generalize hW : World.setCells _ _ _ _ = W2
 have N2 := Lib.hid (show NewB S 185 (a8 []) w1 W2 from by rw [← hW]; exact newB hS.symm)
 clear hW
 refine hKf _ _ ?_
 clear hKf
 go_upto_region 3 with (fail)
 rename_i Kf hKf
 refine reg86_3 (X := S + 1) (by kernel_rfl) rfl N2.out.size rfl (fun a hd hs hr hR => ?_)
 obtain rfl := turn86_3 ⟨hd, hs, hr⟩ (hR 1 (by decide)) (hR 0 (by decide))
 clear hd hs hr hR
 generalize hW : World.setCells _ _ _ _ = W3
 have N3 := Lib.hid (show NewB (S + 1) 186 (arr []) W2 W3 from by rw [← hW]; exact newB N2.out.size)
 clear hW
 refine hKf _ _ ?_
 clear hKf
 have HL3 := Lib.hid (show ∀ k, k < 64 → W3.cell? ⟨g, k, none⟩ = some (Q64 (pl.getD k 0)) from fun k hk => by
  have h1 := HL1.out k hk
  have h2 : W3.heap[g]? = w1.heap[g]? := (N3.out.old g (by omega)).trans (N2.out.old g (by omega))
  rw [← h1]; unfold World.cell?; rw [h2])
 have HS3 := Lib.hid (show W3.heap[S]? = some (.cells (a8 []) 185 (0, 0)) from (N3.out.old S (by omega)).trans N2.out.at')
 have HK3 := Lib.hid N3.out.at'
 have HR3 := Lib.hid (show W3.heap[w.heap.size]? = _ from ((N3.out.old _ (by omega)).trans (N2.out.old _ (by omega))).trans HR1.out)
 have HB3 := Lib.hid (show Below w.heap.size w W3 from (HB1.out.trans (N2.out.below.mono (by omega))).trans (N3.out.below.mono (by omega)))
 have hz3 : W3.heap.size = S + 2 := N3.out.size
 have hgS : g < S := by omega
 have hzS : w.heap.size + 1 ≤ S := by omega
 clear N2 N3 HL1 HR1 HB1 hg1 hS hz1
 go_wp2_with fail
 go_loopw [6] (fun i wr => ∃ k : Nat, k ≤ 64 ∧ i = .int .i64 k ∧ wr.heap[S]? = some (.cells (a8 (il.take k)) 185 (0, 0)) ∧ wr.heap[S + 1]? = some (.cells (arr (kl.take k)) 186 (0, 0)) ∧ Also (fun b => b ≠ S ∧ b ≠ S + 1) W3 wr ∧ Below w.heap.size w wr) (fun i _ => 64 - (intOf i).toNat)
 case atStart => exact ⟨0, by omega, rfl, HS3.out, HK3.out, Also.refl _ _, HB3.out⟩
 case round =>
  clear HS3 HK3
  obtain ⟨k, hk, rfl, hs, hkk, hal, hbw⟩ := hrel
  have HBW := Lib.hid hbw
  have HS := Lib.hid hs
  have HK := Lib.hid hkk
  have HAL := Lib.hid hal
  have hzr : S + 2 ≤ wr.heap.size := by have := hal.size; omega
  clear hs hkk hal hbw
  have hk0 : (0 : Int) ≤ (k : Int) := Int.natCast_nonneg _
  by_cases hlt : k < 64
  ·have hlt' : (k : Int) < 64 := by omega
   have hcell := cell_also HAL.out (show g ≠ S ∧ g ≠ S + 1 by omega) (HL3.out k hlt)
   have hp312 := HP.out.small k hlt
   have hkt := HP.out.ktake k hlt
   have hit := HP.out.itake k
   have hsq := HP.out.square k
   obtain ⟨p, hpe⟩ : ∃ p, p = pl.getD k 0 := ⟨_, rfl⟩
   rw [← hpe] at hcell hp312 hkt hit hsq
   have HKT := Lib.hid hkt
   have HIT := Lib.hid hit
   have HSQ := Lib.hid hsq
   have HPE := Lib.hid hpe
   clear hkt hit hsq hpe
   go_wp2_with fail
   refine (HP.out.cube p hp312 _).mono ?_
   rintro e w2 ⟨rfl, hb2⟩
   have HS2 := Lib.hid ((hb2.block S (by omega)).trans HS.out)
   have HK2 := Lib.hid ((hb2.block (S + 1) (by omega)).trans HK.out)
   have HA2 := Lib.hid (show Also (fun b => b ≠ S ∧ b ≠ S + 1) W3 w2 from ⟨by have := HAL.out.size; have := hb2.size; omega, fun b hb hlb => (hb2.block b (by have := HAL.out.size; omega)).trans (HAL.out.block b hb hlb)⟩)
   have hz2 : S + 2 ≤ w2.heap.size := by have := hb2.size; omega
   have HBX := Lib.hid (HBW.out.trans (hb2.mono (by omega)))
   clear hb2 HS HK HAL hcell HBW
   have hkl : (kl.take k).length = k := by rw [List.length_take, HP.out.kl64]; omega
   have hck := (cell_of_row w2 (S + 1) k _ 186 (0, 0) HK2.out).trans (arr_free (o := k) (by omega) hlt)
   have hfk := froz HK2.out k
   obtain ⟨kp, hkp⟩ : ∃ kp, kp = kv p := ⟨_, rfl⟩
   rw [← hkp] at HKT ⊢
   clear hkp
   have hps := arr_push (l := kl.take k) kp (by omega)
   rw [hkl, ← HKT.out] at hps
   have hKset := (blk_set HK2.out k (U kp)).trans (by rw [hps])
   have HKS := Lib.hid hKset
   have HSS := Lib.hid (show (w2.setCell ⟨S + 1, k, none⟩ (U kp)).heap[S]? = _ from (Below.heap_setCell _ _ _ S (show S ≠ S + 1 by omega)).trans HS2.out)
   have HAS := Lib.hid (show Also (fun b => b ≠ S ∧ b ≠ S + 1) W3 (w2.setCell ⟨S + 1, k, none⟩ (U kp)) from ⟨by rw [setCell_size]; exact HA2.out.size, fun b hb hlb => (Below.heap_setCell _ _ _ b hb.2).trans (HA2.out.block b hb hlb)⟩)
   have hcs := cell_also HAS.out (show g ≠ S ∧ g ≠ S + 1 by omega) (HL3.out k hlt)
   rw [← HPE.out] at hcs
   have HBK := Lib.hid (HBX.out.setCell (p := ⟨S + 1, k, none⟩) (show w.heap.size ≤ S + 1 by omega) (U kp))
   clear hps hKset HBX
   by_cases h8 : k < 8
   ·have h8' : (k : Int) < 8 := by omega
    go_wp2_with fail
    refine (HSQ.out h8 _).mono ?_
    rintro e w3 ⟨rfl, rfl⟩
    have hil : (il.take k).length = k := by rw [List.length_take, HP.out.il8]; omega
    have hcS := (cell_of_row _ S k _ 185 (0, 0) HSS.out).trans (a8_free (o := k) (by omega) h8)
    have hfS := froz HSS.out k
    have hit := HIT.out h8
    obtain ⟨hpv, hhp⟩ : ∃ hpv, hpv = hv p := ⟨_, rfl⟩
    rw [← hhp] at hit ⊢
    have hps := a8_push (l := il.take k) hpv (by omega)
    rw [hil, ← hit] at hps
    have HSP := Lib.hid ((blk_set HSS.out k (U hpv)).trans (by rw [hps]))
    generalize w2.setCell ⟨S + 1, k, none⟩ (U kp) = w3 at HKS HSS HAS HSP HBK hcS hfS hcs ⊢
    have HKP := Lib.hid (show (w3.setCell ⟨S, k, none⟩ (U hpv)).heap[S + 1]? = _ from (Below.heap_setCell _ _ _ (S + 1) (show S + 1 ≠ S by omega)).trans HKS.out)
    have HAP := Lib.hid (show Also (fun b => b ≠ S ∧ b ≠ S + 1) W3 (w3.setCell ⟨S, k, none⟩ (U hpv)) from ⟨by rw [setCell_size]; exact HAS.out.size, fun b hb hlb => (Below.heap_setCell _ _ _ b hb.1).trans (HAS.out.block b hb hlb)⟩)
    have HBP := Lib.hid (HBK.out.setCell (p := ⟨S, k, none⟩) (show w.heap.size ≤ S by omega) (U hpv))
    clear hps hhp hit HBK HKS HSS HAS
    go_wp2
    go_roundw
    case rel => exact ⟨k + 1, by omega, (by first | rfl | go_num), HSP.out, HKP.out, HAP.out, HBP.out⟩
    case measure => simp [intOf]; omega
   ·have h8' : ¬ (k : Int) < 8 := by omega
    have hil : il.take k = il := List.take_of_length_le (by rw [HP.out.il8]; omega)
    have hil2 : il.take (k + 1) = il := List.take_of_length_le (by rw [HP.out.il8]; omega)
    rw [hil, ← hil2] at HSS
    clear hil hil2
    go_wp2
    go_roundw
    case rel => exact ⟨k + 1, by omega, (by first | rfl | go_num), HSS.out, HKS.out, HAS.out, HBK.out⟩
    case measure => simp [intOf]; omega
  ·obtain rfl : k = 64 := by omega
   clear HL3
   rw [List.take_of_length_le (by rw [HP.out.il8]; omega)] at HS
   rw [List.take_of_length_le (by rw [HP.out.kl64]; omega)] at HK
   have HRr := Lib.hid ((HAL.out.block w.heap.size (by omega) (by omega)).trans HR3.out)
   clear HAL HR3 HB3
   obtain ⟨wB, hwB⟩ : ∃ w', w' = wr := ⟨_, rfl⟩
   subst hwB
   obtain ⟨T, hT⟩ : ∃ T, T = wB.heap.size := ⟨_, rfl⟩
   have hown0 := World.ownsRow_made (e := 5) (size := 1) (base := wB.heap.size) wB #[] 0 (Nat.le_refl _) (by decide) rfl
   have hbl0 := (Below.refl wB.heap.size wB).alloc (Nat.le_refl _) (.cells #[] 5)
   rw [← hT] at hbl0
   have HO0 := Lib.hid (show (wB.alloc (.cells #[] 5)).ownsRow T 5 1 (.slice (some ⟨wB.heap.size, 0, none⟩) 0 0) 0 [] from by rw [hT]; exact hown0)
   have HT0 := Lib.hid hbl0
   have hone : ∀ u ∈ l.map B8, u.oneCell' = true := fun u hu => by
    obtain ⟨x, -, rfl⟩ := List.mem_map.1 hu; rfl
   have HONE := Lib.hid hone
   have HT := Lib.hid hT
   clear hown0 hbl0 hone hT
   have hbk := HBW.out.size
   have hcells : ∀ a, A = some a → ∀ j u, (l.map B8)[j]? = some u → (wB.alloc (.cells #[] 5)).cell? (a.add j) = some u := fun a ha j u hu => by
    rcases HB.out with h | ⟨a', ha', h⟩
    ·rw [h] at hu; simp at hu
    ·obtain rfl : a = a' := Option.some.inj (ha.symm.trans ha')
     obtain ⟨hj, rfl⟩ := List.getElem?_eq_some_iff.1 hu
     have hj' : j < l.length := by simpa using hj
     rw [List.getElem_map]
     have h1 := h j hj'
     have h2 := (HBW.out.cell (World.block_lt_of_cell? w _ h1)).trans h1
     exact cell_below ((Below.refl wB.heap.size wB).alloc (Nat.le_refl _) _) h2
   have HCE := Lib.hid hcells
   clear hcells hbk
   have hTz : T ≤ (wB.alloc (.cells #[] 5)).heap.size := by rw [alloc_size1, HT.out]; omega
   have hlm : l.length ≤ maxLen := by have := HN.out; unfold maxLen; omega
   have hlb : l.length ≤ 100000000 := HN.out
   go_upto_region 11 with (at_builtin; (refine wpList_append_own_opt rfl _ _ 87 rfl T 5 i0 (.int .u8 0) 1 1 Tryz.underlying87 hi0 hz0 hzz1 hzz2 rfl (by decide) _ 0 _ rfl HO0.out A l.length cap (l.map B8) rfl HA.out (by simp) HCE.out HONE.out (by omega) (by omega) hTz ?_; intro v' w1 hown' hgrow))
   rw [Nat.zero_add, List.nil_append] at hown'
   have HT1 := Lib.hid (show Below T wB w1 from by
    rcases hgrow with rfl | hg
    ·exact HT0.out
    ·exact HT0.out.grown hg hTz (fun k hk => (HO0.out.lt k hk).1))
   have HO1 := Lib.hid hown'
   have hTz1 : T ≤ w1.heap.size := by have := HT1.out.size; rw [HT.out]; exact this
   clear hown' hgrow HO0 HT0 HCE HONE hlm
   have HO1a := Lib.hid (HO1.out.alloc (.cells #[.int .u8 128] 5))
   have HT1a := Lib.hid (HT1.out.alloc hTz1 (.cells #[.int .u8 128] 5))
   have hTz1a : T ≤ (w1.alloc (.cells #[.int .u8 128] 5)).heap.size := by rw [alloc_size1]; omega
   rename_i Kf hKf
   go_upto_region 12 with (at_builtin; (refine wpList_append_own _ rfl _ _ 87 rfl T 5 i0 (.int .u8 0) 1 1 Tryz.underlying87 hi0 hz0 hzz1 hzz2 rfl (by decide) _ l.length _ rfl HO1a.out ⟨w1.heap.size, 0, none⟩ 1 1 [_] rfl rfl (cell_one_new _ _ _) (by simp [Value.oneCell']) (by unfold maxLen; omega) (by omega) hTz1a ?_; intro v' w2 hown' hgrow hnil))
   obtain ⟨gt, tc, rfl⟩ := own_form hown' (by omega)
   have HT2 := Lib.hid (HT1a.out.grown hgrow hTz1a (fun k hk => (HO1a.out.lt k hk).1))
   have HO2 := Lib.hid (show w2.ownsRow T 5 1 (.slice (some ⟨gt, 0, none⟩) (l.length + 1 + 0) tc) (l.length + 1 + 0) ((l ++ ([128] ++ List.replicate 0 0)).map B8) from by
    rw [List.map_append]; exact hown')
   clear hown' hgrow hnil HO1 HT1 HO1a HT1a hTz1 hTz1a
   have hz64 : zerosN l.length < 64 := Nat.mod_lt _ (by decide)
   go_loopw [7] (fun v w3 => ∃ j gt tc : Nat, j ≤ zerosN l.length ∧ v = .slice (some ⟨gt, 0, none⟩) (l.length + 1 + j) tc ∧ w3.ownsRow T 5 1 (.slice (some ⟨gt, 0, none⟩) (l.length + 1 + j) tc) (l.length + 1 + j) ((l ++ ([128] ++ List.replicate j 0)).map B8) ∧ Below T wB w3) (fun v _ => l.length + 1 + zerosN l.length - sliceN v)
   case atStart => exact ⟨0, gt, tc, by omega, rfl, HO2.out, HT2.out⟩
   case round =>
    clear HO2 HT2
    obtain ⟨j, gt, tc, hj, rfl, hown, hbl⟩ := hrel
    have HO := Lib.hid hown
    have HBL := Lib.hid hbl
    have hTz3 : T ≤ wr.heap.size := by have := hbl.size; have := HT.out; omega
    clear hown hbl
    have hn0 : (0 : Int) ≤ ((l.length + 1 + j : Nat) : Int) := Int.natCast_nonneg _
    have hn1 : ((l.length + 1 + j : Nat) : Int) ≤ 900000000 := by omega
    have htm : ((l.length + 1 + j : Nat) : Int).tmod 64 = (((l.length + 1 + j) % 64 : Nat) : Int) := by rw [Int.tmod_eq_emod_of_nonneg hn0]; omega
    generalize hnj : l.length + 1 + j = nj at hn0 hn1 htm HO
    have HNJ := Lib.hid hnj
    clear hnj
    have HJ := Lib.hid hj
    clear hj
    by_cases hfin : j = zerosN l.length
    ·have h56 : (((nj : Nat) : Int) % 64 != 56) = false := by
      have : nj % 64 = 56 := by rw [← HNJ.out, hfin]; unfold zerosN; omega
      simp; omega
     clear htm
     have hw1 : IntKind.u64.wrap (l.length : Int) = (l.length : Int) := by rw [IntKind.wrap_u64]; omega
     have hw2 : IntKind.u64.wrap ((l.length : Int) * 8) = (l.length : Int) * 8 := by rw [IntKind.wrap_u64]; omega
     go_wp2_with fail
     obtain ⟨b9, hb9⟩ : ∃ b9, b9 = l ++ ([128] ++ List.replicate j 0) := ⟨_, rfl⟩
     rw [← hb9] at HO
     rw [hfin] at hb9
     have HB9 := Lib.hid hb9
     have hnj9 : nj ≤ 900000000 := by omega
     have hnjm : nj = l.length + 1 + zerosN l.length := by have := HNJ.out; omega
     have HNJM := Lib.hid hnjm
     have HOI := Lib.hid (show wr.ownsRow T 5 1 (.slice (some ⟨gt, 0, none⟩) (nj + 0) tc) (nj + 0) ((b9 ++ (List.range 0).map (lenB l.length)).map B8) from by
      rw [List.range_zero, List.map_nil, List.append_nil]; exact HO.out)
     clear hb9 HNJ HJ hfin hw1 hw2 h56 HO hnjm
     go_loopw [7, 9] (fun v i w3 => ∃ k gt tc : Nat, k ≤ 8 ∧ i = .int .i64 (7 - (k : Int)) ∧ v = .slice (some ⟨gt, 0, none⟩) (nj + k) tc ∧ w3.ownsRow T 5 1 (.slice (some ⟨gt, 0, none⟩) (nj + k) tc) (nj + k) ((b9 ++ (List.range k).map (lenB l.length)).map B8) ∧ Below T wB w3) (fun _ i _ => (intOf i + 1).toNat)
     case atStart => exact ⟨0, gt, tc, by omega, rfl, rfl, HOI.out, HBL.out⟩
     case round =>
      clear HOI HBL hTz3
      obtain ⟨k, gt, tc, hk, rfl, rfl, hown, hbl⟩ := hrel
      have HO := Lib.hid hown
      have HBL := Lib.hid hbl
      have hTz3 : T ≤ wr.heap.size := by have := hbl.size; have := HT.out; omega
      clear hown hbl
      have hk0 : (0 : Int) ≤ (k : Int) := Int.natCast_nonneg _
      by_cases hlt : k < 8
      ·have hlt' : (0 : Int) ≤ 7 - (k : Int) := by omega
       have hw1 : IntKind.u64.wrap (7 - (k : Int)) = 7 - (k : Int) := by rw [IntKind.wrap_u64]; omega
       have hw2 : IntKind.u64.wrap ((7 - (k : Int)) * 8) = (7 - (k : Int)) * 8 := by rw [IntKind.wrap_u64]; omega
       have hTza : ∀ ob, T ≤ (wr.alloc ob).heap.size := fun ob => by rw [alloc_size1]; omega
       go_wp2_with (at_builtin; (refine wpList_append_own _ rfl _ _ 87 rfl T 5 i0 (.int .u8 0) 1 1 Tryz.underlying87 hi0 hz0 hzz1 hzz2 rfl (by decide) _ (nj + k) _ rfl (HO.out.alloc _) ⟨wr.heap.size, 0, none⟩ 1 1 [_] rfl rfl (cell_one_new _ _ _) (by simp [Value.oneCell']) (by unfold maxLen; omega) (by omega) (hTza _) ?_; intro v' w4 hown' hgrow hnil))
       have hle : (lenB l.length k : Int) = (l.length : Int) * 8 / 2 ^ ((7 - k) * 8) % 256 := by
        unfold lenB
        rw [show (7 - k) * 8 = 56 - 8 * k by omega]
        simp
       go_roundw
       case rel =>
        obtain ⟨g', c', hv⟩ := own_form hown' (by omega)
        subst hv
        refine ⟨k + 1, g', c', by omega, by (first | rfl | go_num), by rw [show nj + (k + 1) = nj + k + 1 by omega], ?_, (HBL.out.alloc hTz3 _).grown hgrow (hTza _) (fun q hq => (HO.out.lt q hq).1)⟩
        have hle2 : (b9 ++ (List.range (k + 1)).map (lenB l.length)).map B8 = (b9 ++ (List.range k).map (lenB l.length)).map B8 ++ [.int .u8 (lenB l.length k : Int)] := by simp [List.range_succ, B8]
        rw [show nj + (k + 1) = nj + k + 1 by omega, hle2, hle]
        exact hown'
       case measure => simp [intOf]; omega
      ·have hlt' : ¬ (0 : Int) ≤ 7 - (k : Int) := by omega
       obtain rfl : k = 8 := by omega
       go_wp2_with fail
       obtain ⟨t, ht⟩ : ∃ t, t = b9 ++ (List.range 8).map (lenB l.length) := ⟨_, rfl⟩
       rw [← ht] at HO
       have htf : t = fillT l := by rw [ht, HB9.out, fillT]
       have htl : t.length = nj + 8 := by rw [htf, fillT_length, HNJM.out]
       have ht256 : ∀ q, t.getD q 0 < 256 := fun q => by
        rw [List.getD_eq_getElem?_getD]
        cases hq : t[q]? with
        | none => decide
        | some x =>
         have hx := List.mem_of_getElem? hq
         rw [htf, fillT] at hx
         simp only [List.mem_append, List.mem_cons, List.not_mem_nil, or_false, List.mem_replicate, List.mem_map] at hx
         show x < 256
         rcases hx with (h | h | h) | ⟨y, -, h⟩
         ·exact HL.out _ h
         ·omega
         ·omega
         ·rw [← h]; exact Nat.mod_lt _ (by decide)
       obtain ⟨q, hq⟩ : ∃ q, t.length = 64 * q := ⟨t.length / 64, by have := fillT_mod l; rw [← htf] at this; omega⟩
       have hTC := Lib.hid (show ∀ k, k < 64 * q → wr.cell? ⟨gt, k, none⟩ = some (.int .u8 (t.getD k 0 : Int)) from fun k hk => by
        have h1 := HO.out.cellAt k (by omega)
        rw [List.getElem?_map, List.getElem?_eq_getElem (by omega)] at h1
        rw [List.getD_eq_getElem?_getD, List.getElem?_eq_getElem (by omega)]
        exact h1)
       have hgt := (HO.out.lt gt rfl)
       have HS4 := Lib.hid ((HBL.out.block S (by have := HT.out; omega)).trans HS.out)
       have HK4 := Lib.hid ((HBL.out.block (S + 1) (by have := HT.out; omega)).trans HK.out)
       have HR4 := Lib.hid ((HBL.out.block w.heap.size (by have := HT.out; omega)).trans HRr.out)
       have HB4 := Lib.hid (HBW.out.trans (HBL.out.mono (by have := HT.out; omega)))
       have hTS : S + 2 ≤ T := by have := HT.out; omega
       have hlen : nj + 8 = 64 * q := by omega
       have hq9 : q ≤ 15000000 := by omega
       obtain ⟨tlen, htlen⟩ : ∃ n, n = nj + 8 := ⟨_, rfl⟩
       rw [← htlen]
       have HTL := Lib.hid (htlen.trans hlen)
       have HTF := Lib.hid htf
       have HT256 := Lib.hid ht256
       have HQ := Lib.hid (htl.trans hlen)
       obtain ⟨wC, hwC⟩ : ∃ w', w' = wr := ⟨_, rfl⟩
       subst hwC
       clear htlen
       clear HO HBL HS HK HRr HBW HT ht htf htl ht256 hq hlen HB9 HNJM hTz3 hTz hlb hz64 hnj9 hn0 hn1 HL HN HC HA HB
       clear hlt hlt' hk0 hk
       go_wp2_with fail
       go_loopw [10] (fun i wr => ∃ j : Nat, j ≤ q ∧ i = .int .i64 ((64 * j : Nat) : Int) ∧ wr.heap[S]? = some (.cells (a8 (stN kl il t j)) 185 (0, 0)) ∧ Also (fun b => b ≠ S) wC wr ∧ Below w.heap.size w wr) (fun i _ => 64 * q - (intOf i).toNat)
       case atStart => exact ⟨0, Nat.zero_le _, rfl, HS4.out, Also.refl _ _, HB4.out⟩
       case round =>
        clear HS4 HB4
        obtain ⟨j, hj, rfl, hs, hal, hbw⟩ := hrel
        have HS := Lib.hid hs
        have HAL := Lib.hid hal
        have HBW := Lib.hid hbw
        have hzr : wC.heap.size ≤ wr.heap.size := hal.size
        clear hs hal hbw
        have HSL := Lib.hid (stN_length (kl := kl) (t := t) HP.out.il8 j)
        obtain ⟨st, hst⟩ : ∃ st, st = stN kl il t j := ⟨_, rfl⟩
        rw [← hst] at HS HSL
        have HST := Lib.hid hst
        clear hst
        obtain ⟨at0, hat⟩ : ∃ a, a = 64 * j := ⟨_, rfl⟩
        rw [← hat]
        have HAT := Lib.hid hat
        have hat0 : (0 : Int) ≤ (at0 : Int) := Int.natCast_nonneg _
        have hat9 : at0 ≤ 960000000 := by omega
        clear hat
        by_cases hltq : j < q
        ·have hltq' : (at0 : Int) < (tlen : Int) := by have := HAT.out; have := HTL.out; omega
         obtain ⟨c, hc⟩ : ∃ c, c = wr.heap.size := ⟨_, rfl⟩
         go_upto_region 22 with (fail)
         rename_i Kf hKf
         refine reg86_22 (X := c) (by kernel_rfl) rfl hc.symm rfl (fun a hd hs hr hR => ?_)
         obtain rfl := turn86_22 ⟨hd, hs, hr⟩ (hR 1 (by decide)) (hR 0 (by decide))
         clear hd hs hr hR
         generalize hW : World.setCells _ _ _ _ = W5
         have N5 := Lib.hid (show NewB c 186 (arr []) wr W5 from by rw [← hW]; exact newB hc.symm)
         clear hW
         refine hKf _ _ ?_
         clear hKf
         have hgtc : gt < c := by omega
         have hwCc : wC.heap.size ≤ c := by omega
         have hSc : S + 2 ≤ c := by omega
         have HS5 := Lib.hid ((N5.out.old S (by omega)).trans HS.out)
         have HA5 := Lib.hid (show Also (fun b => b ≠ S) wC W5 from ⟨by rw [N5.out.size]; omega, fun b hb hlb => (N5.out.old b (by omega)).trans (HAL.out.block b hb hlb)⟩)
         have HB5 := Lib.hid (HBW.out.trans (N5.out.below.mono (by have := HBW.out.size; omega)))
         have HC5 := Lib.hid (show W5.heap[c]? = some (.cells (arr (schd (fun k => t.getD (64 * j + k) 0) 0)) 186 (0, 0)) from N5.out.at')
         have hz5 : W5.heap.size = c + 1 := N5.out.size
         have hwc : w.heap.size ≤ c := by have := HBW.out.size; omega
         clear N5 HS HAL HBW hzr hc
         obtain ⟨m, hm⟩ : ∃ m : Nat → Nat, m = fun k => t.getD (64 * j + k) 0 := ⟨_, rfl⟩
         rw [← hm] at HC5
         have HM := Lib.hid hm
         have HM256 := Lib.hid (show ∀ k, m k < 256 from fun k => by rw [hm]; exact HT256.out _)
         have HTm := Lib.hid (show ∀ wz, Also (fun b => b ≠ c) W5 wz → ∀ k, k < 64 → wz.cell? ⟨gt, at0 + k, none⟩ = some (.int .u8 (m k : Int)) from fun wz hz k hk => by
          have h1 := cell_also HA5.out (show gt ≠ S by omega) (hTC.out (at0 + k) (by have := HAT.out; omega))
          have h2 := cell_also hz (show gt ≠ c by omega) h1
          rw [h2, hm, HAT.out])
         clear hm
         go_wp2_with fail
         go_loopw [12] (fun i wr => ∃ k : Nat, k ≤ 64 ∧ i = .int .i64 k ∧ wr.heap[c]? = some (.cells (arr (schd m k)) 186 (0, 0)) ∧ Also (fun b => b ≠ c) W5 wr ∧ Below w.heap.size w wr) (fun i _ => 64 - (intOf i).toNat)
         case atStart => exact ⟨0, by omega, rfl, HC5.out, Also.refl _ _, HB5.out⟩
         case round =>
          clear HC5 HB5
          obtain ⟨k, hk, rfl, hcc, hal, hbw⟩ := hrel
          have HC := Lib.hid hcc
          have HAL := Lib.hid hal
          have HBW := Lib.hid hbw
          clear hcc hal hbw
          have hk0 : (0 : Int) ≤ (k : Int) := Int.natCast_nonneg _
          have hsl := schd_length m k
          by_cases hlt : k < 64
          ·have hlt' : (k : Int) < 64 := by omega
           by_cases h16 : k < 16
           ·have h16' : (k : Int) < 16 := by omega
            obtain ⟨wD, hwD⟩ : ∃ w', w' = wr := ⟨_, rfl⟩
            subst hwD
            go_wp2_with fail
            go_loopw [13] (fun i w6 => ∃ e : Nat, e ≤ 4 ∧ i = .int .i64 e ∧ w6.heap[c]? = some (.cells (arr (schd m k ++ [accD m k e])) 186 (0, 0)) ∧ Also (fun b => b ≠ c) W5 w6 ∧ Below w.heap.size w w6) (fun i _ => 4 - (intOf i).toNat)
            case atStart => exact ⟨0, by omega, rfl, by rw [show accD m k 0 = 0 from rfl, ← arr_zero (by omega)]; exact HC.out, HAL.out, HBW.out⟩
            case round =>
             clear HC HAL HBW
             obtain ⟨e, he, rfl, hcc, hal, hbw⟩ := hrel
             have HC := Lib.hid hcc
             have HAL := Lib.hid hal
             have HBW := Lib.hid hbw
             clear hcc hal hbw
             have he0 : (0 : Int) ≤ (e : Int) := Int.natCast_nonneg _
             by_cases hlte : e < 4
             ·have hlte' : (e : Int) < 4 := by omega
              have ct : wr.cell? ⟨gt, at0 + 4 * k + e, none⟩ = some (.int .u8 (m (4 * k + e) : Int)) := by
               rw [Nat.add_assoc]; exact HTm.out wr HAL.out (4 * k + e) (by omega)
              have cw := (cell_of_row wr c k _ 186 (0, 0) HC.out).trans (arr_at (l := schd m k ++ [accD m k e]) (o := k) (by simp; omega))
              have cwe : (schd m k ++ [accD m k e]).getD k 0 = accD m k e := by
               rw [List.getD_eq_getElem?_getD, List.getElem?_append_right (by omega), hsl, Nat.sub_self]; rfl
              rw [cwe] at cw
              go_upto_region 30 with (fail)
              refine reg86_30 (c := c) (gt := gt) (tlen := tlen) (tcap := tc) (at0 := at0) (ii := k) (jj := e) (xw := accD m k e) (yb := m (4 * k + e)) (by kernel_rfl) rfl h16 hlte (by omega) (HM256.out _) (by have := HAT.out; have := HTL.out; omega) (by rw [World.cell?_drew]; exact cw) (by have := froz HC.out k; exact this) (by rw [World.cell?_drew]; exact ct) rfl rfl rfl rfl rfl rfl (fun a hd hs hr hR => ?_)
              obtain ⟨z30_101, z30_102, z30_103, z30_104, z30_105, z30_106, z30_107, z30_108, z30_109, z30_110, z30_111, z30_112, z30_113, z30_114, z30_115, z30_116, z30_117, rfl⟩ := turn86_30 ⟨hd, hs, hr⟩
              clear hd hs hr hR ct cw cwe
              have hput := arr_put (l := schd m k) (accD m k e) (accD m k e * 256 + BitVec.ofNat 32 (m (4 * k + e))) (by omega)
              rw [hsl] at hput
              have HC2 := Lib.hid ((blk_set (show wr.drew.heap[c]? = _ from HC.out) k (U (accD m k e * 256 + BitVec.ofNat 32 (m (4 * k + e))))).trans (by rw [hput]))
              have HAL2 := Lib.hid (show Also (fun b => b ≠ c) W5 (wr.drew.setCell ⟨c, k, none⟩ (U (accD m k e * 256 + BitVec.ofNat 32 (m (4 * k + e))))) from ⟨by rw [setCell_size]; exact HAL.out.size, fun b hb hlb => (Below.heap_setCell _ _ _ b hb).trans (HAL.out.block b hb hlb)⟩)
              have HBW2 := Lib.hid (HBW.out.drew.setCell (p := ⟨c, k, none⟩) hwc (U (accD m k e * 256 + BitVec.ofNat 32 (m (4 * k + e)))))
              generalize World.setCell _ _ _ = W7 at HC2 HAL2 HBW2 ⊢
              clear hput HC HAL HBW
              go_wp2
              go_roundw
              case rel => exact ⟨e + 1, by omega, (by first | rfl | go_num), HC2.out, HAL2.out, HBW2.out⟩
              case measure => simp [intOf]; omega
             ·have hlte' : ¬ (e : Int) < 4 := by omega
              obtain rfl : e = 4 := by omega
              have hsn : schd m (k + 1) = schd m k ++ [accD m k 4] := by
               rw [accD_wd HM256.out]; simp only [schd]; rw [nextW, if_pos h16]
              rw [← hsn] at HC
              clear hsn
              go_wp2
              go_roundw
              case rel => exact ⟨k + 1, by omega, (by first | rfl | go_num), HC.out, HAL.out, HBW.out⟩
              case measure => simp [intOf]; omega
           ·have h16' : ¬ (k : Int) < 16 := by omega
            have h16n : 16 ≤ k := by omega
            have hC := fun (W : World) (h : W.heap[c]? = some (.cells (arr (schd m k)) 186 (0, 0))) e (he : e < k) => arr_cell (k := e) h (by rw [hsl]; exact he)
            have HCC := Lib.hid hC
            have hnx := nextW_doc (m := m) (l := schd m k) h16n
            have HNX := Lib.hid hnx
            clear hC hnx
            obtain ⟨p15, hp15⟩ : ∃ p, p = sg0 ((schd m k).getD (k - 15) 0) := ⟨_, rfl⟩
            obtain ⟨p2, hp2⟩ : ∃ p, p = sg1 ((schd m k).getD (k - 2) 0) := ⟨_, rfl⟩
            rw [← hp15, ← hp2] at HNX
            go_upto_region 31 with (fail)
            rename_i Kf hKf
            refine reg86_31 (c := c) (ii := k) (w15 := (schd m k).getD (k - 15) 0) (by kernel_rfl) rfl h16n hlt (HCC.out wr.drew HC.out _ (by omega)) rfl rfl rfl (fun a hd hs hr hR => ?_)
            obtain ⟨z31_118, z31_119, z31_120, z31_121, z31_122, z31_123, z31_124, z31_125, z31_126, z31_127, z31_128, z31_129, z31_130, z31_131, z31_132, z31_133, z31_134, rfl⟩ := turn86_31 ⟨hd, hs, hr⟩ ((hR 17 (by decide)).trans (show _ = U p15 by rw [hp15]; rfl))
            clear hd hs hr hR hp15
            refine hKf _ _ ?_
            clear hKf
            go_upto_region 32 with (fail)
            rename_i Kf hKf
            refine reg86_32 (c := c) (ii := k) (w2 := (schd m k).getD (k - 2) 0) (by kernel_rfl) rfl h16n hlt (HCC.out wr.drew.drew HC.out _ (by omega)) rfl rfl rfl (fun a hd hs hr hR => ?_)
            obtain ⟨z32_135, z32_136, z32_137, z32_138, z32_139, z32_140, z32_141, z32_142, z32_143, z32_144, z32_145, z32_146, z32_147, z32_148, z32_149, z32_150, z32_151, rfl⟩ := turn86_32 ⟨hd, hs, hr⟩ ((hR 17 (by decide)).trans (show _ = U p2 by rw [hp2]; rfl))
            clear hd hs hr hR hp2
            refine hKf _ _ ?_
            clear hKf
            go_upto_region 33 with (fail)
            refine reg86_33 (c := c) (ii := k) (w16 := (schd m k).getD (k - 16) 0) (w7 := (schd m k).getD (k - 7) 0) (pp := p15) (qq := p2) (y := U 0) (by kernel_rfl) rfl h16n hlt (HCC.out wr.drew.drew.drew HC.out _ (by omega)) (HCC.out wr.drew.drew.drew HC.out _ (by omega)) ((cell_of_row wr.drew.drew.drew c k _ 186 (0, 0) HC.out).trans (arr_free (o := k) (by omega) hlt)) (froz (show wr.drew.drew.drew.heap[c]? = _ from HC.out) k) rfl rfl rfl rfl rfl (fun a hd hs hr hR => ?_)
            obtain ⟨z33_152, z33_153, z33_154, z33_155, z33_156, z33_157, z33_158, z33_159, z33_160, z33_161, z33_162, z33_163, z33_164, z33_165, z33_166, rfl⟩ := turn86_33 ⟨hd, hs, hr⟩
            clear hd hs hr hR
            have hput := arr_push (l := schd m k) (nextW m (schd m k) k) (by omega)
            rw [hsl] at hput
            have hse : U ((schd m k).getD (k - 16) 0 + (schd m k).getD (k - 7) 0 + p15 + p2) = U (nextW m (schd m k) k) := by rw [← HNX.out]
            have HC2 := Lib.hid (show (wr.drew.drew.drew.setCell ⟨c, k, none⟩ (U ((schd m k).getD (k - 16) 0 + (schd m k).getD (k - 7) 0 + p15 + p2))).heap[c]? = some (.cells (arr (schd m (k + 1))) 186 (0, 0)) from by
             rw [hse]; exact (blk_set (show wr.drew.drew.drew.heap[c]? = _ from HC.out) k _).trans (by rw [hput]; rfl))
            have HAL2 := Lib.hid (show Also (fun b => b ≠ c) W5 (wr.drew.drew.drew.setCell ⟨c, k, none⟩ (U ((schd m k).getD (k - 16) 0 + (schd m k).getD (k - 7) 0 + p15 + p2))) from ⟨by rw [setCell_size]; exact HAL.out.size, fun b hb hlb => (Below.heap_setCell _ _ _ b hb).trans (HAL.out.block b hb hlb)⟩)
            have HBW2 := Lib.hid (HBW.out.drew.drew.drew.setCell (p := ⟨c, k, none⟩) hwc (U ((schd m k).getD (k - 16) 0 + (schd m k).getD (k - 7) 0 + p15 + p2)))
            generalize World.setCell _ _ _ = W7 at HC2 HAL2 HBW2 ⊢
            clear hput hse HC HAL HBW HNX HCC
            go_wp2
            go_roundw
            case rel => exact ⟨k + 1, by omega, (by first | rfl | go_num), HC2.out, HAL2.out, HBW2.out⟩
            case measure => simp [intOf]; omega
          ·obtain rfl : k = 64 := by omega
           have hlt' : ¬ ((64 : Nat) : Int) < 64 := by omega
           have hsb := fun i (hi : i < 8) => a8_cell (w := wr) (k := i) ((HAL.out.block S (by omega) (by omega)).trans HS5.out) (by rw [HSL.out]; exact hi)
           obtain ⟨x0, x1, x2, x3, x4, x5, x6, x7, rfl⟩ := eight HSL.out
           have e0 := hsb 0 (by omega)
           have e1 := hsb 1 (by omega)
           have e2 := hsb 2 (by omega)
           have e3 := hsb 3 (by omega)
           have e4 := hsb 4 (by omega)
           have e5 := hsb 5 (by omega)
           have e6 := hsb 6 (by omega)
           have e7 := hsb 7 (by omega)
           simp only [List.getD_cons_zero, List.getD_cons_succ] at e0 e1 e2 e3 e4 e5 e6 e7
           clear hsb
           go_upto_region 34 with (fail)
           rename_i Kf hKf
           refine reg86_34 (sb := S) (y0 := x0) (y1 := x1) (y2 := x2) (y3 := x3) (y4 := x4) (y5 := x5) (y6 := x6) (y7 := x7) (by kernel_rfl) rfl (by rw [World.cell?_drew]; exact e0) (by rw [World.cell?_drew]; exact e1) (by rw [World.cell?_drew]; exact e2) (by rw [World.cell?_drew]; exact e3) (by rw [World.cell?_drew]; exact e4) (by rw [World.cell?_drew]; exact e5) (by rw [World.cell?_drew]; exact e6) (by rw [World.cell?_drew]; exact e7) rfl rfl (fun a hd hs hr hR => ?_)
           obtain ⟨z34_167, z34_168, z34_169, z34_170, z34_171, z34_172, z34_173, z34_174, z34_175, z34_176, z34_177, z34_178, z34_179, z34_180, z34_181, z34_182, rfl⟩ := turn86_34 ⟨hd, hs, hr⟩ (hR 16 (by decide)) (hR 17 (by decide)) (hR 18 (by decide)) (hR 19 (by decide)) (hR 20 (by decide)) (hR 21 (by decide)) (hR 22 (by decide)) (hR 23 (by decide))
           clear hd hs hr hR e0 e1 e2 e3 e4 e5 e6 e7
           refine hKf _ _ ?_
           clear hKf
           have HCd := Lib.hid (show wr.drew.heap[c]? = _ from HC.out)
           have HALd := Lib.hid (show Also (fun b => b ≠ c) W5 wr.drew from ⟨HAL.out.size, HAL.out.block⟩)
           have HBWd := Lib.hid HBW.out.drew
           generalize World.drew wr = W7 at HCd HALd HBWd ⊢
           clear HC HAL HBW
           obtain ⟨ws, hws⟩ : ∃ ws, ws = schd m 64 := ⟨_, rfl⟩
           rw [← hws] at HCd hsl
           have HWS := Lib.hid hws
           clear hws
           obtain ⟨s8, hs8⟩ : ∃ s8, s8 = [x0, x1, x2, x3, x4, x5, x6, x7] := ⟨_, rfl⟩
           have HS8 := Lib.hid hs8
           clear hs8
           go_wp2_with fail
           go_loopw [16, 17, 18, 19, 20, 21, 22, 23, 24] (fun a b cc d e f gg h i w7 => ∃ (k : Nat) (ya yb yc yd ye yf yg yh : BitVec 32), k ≤ 64 ∧ i = .int .i64 k ∧ comp kl ws s8 k = [ya, yb, yc, yd, ye, yf, yg, yh] ∧ a = U ya ∧ b = U yb ∧ cc = U yc ∧ d = U yd ∧ e = U ye ∧ f = U yf ∧ gg = U yg ∧ h = U yh ∧ w7.heap[c]? = some (.cells (arr ws) 186 (0, 0)) ∧ Also (fun b => b ≠ c) W5 w7 ∧ Below w.heap.size w w7) (fun _ _ _ _ _ _ _ _ i _ => 64 - (intOf i).toNat)
           case atStart => exact ⟨0, x0, x1, x2, x3, x4, x5, x6, x7, by omega, rfl, HS8.out, rfl, rfl, rfl, rfl, rfl, rfl, rfl, rfl, HCd.out, HALd.out, HBWd.out⟩
           case round =>
            clear HCd HALd HBWd
            obtain ⟨k, ya, yb, yc, yd, ye, yf, yg, yh, hk, rfl, hco, rfl, rfl, rfl, rfl, rfl, rfl, rfl, rfl, hcc, hal, hbw⟩ := hrel
            have HC := Lib.hid hcc
            have HAL := Lib.hid hal
            have HBW := Lib.hid hbw
            have HCO := Lib.hid hco
            clear hcc hal hbw hco
            have hk0 : (0 : Int) ≤ (k : Int) := Int.natCast_nonneg _
            by_cases hlt : k < 64
            ·have hlt' : (k : Int) < 64 := by omega
             have ck := arr_cell (w := wr) (k := k) ((HAL.out.block (S + 1) (by omega) (by omega)).trans ((HA5.out.block (S + 1) (by omega) (by omega)).trans HK4.out)) (by rw [HP.out.kl64]; exact hlt)
             have cw := arr_cell (w := wr) (k := k) HC.out (by rw [hsl]; exact hlt)
             obtain ⟨kk, hkk⟩ : ∃ kk, kk = kl.getD k 0 := ⟨_, rfl⟩
             obtain ⟨ww, hww⟩ : ∃ ww, ww = ws.getD k 0 := ⟨_, rfl⟩
             rw [← hkk] at ck
             rw [← hww] at cw
             have hco : comp kl ws s8 (k + 1) = rnd [ya, yb, yc, yd, ye, yf, yg, yh] kk ww := by rw [comp_snoc, HCO.out, hkk, hww]
             obtain ⟨t1, ht1⟩ : ∃ t1, t1 = yh + Sg1 ye + ch ye yf yg + kk + ww := ⟨_, rfl⟩
             obtain ⟨t2, ht2⟩ : ∃ t2, t2 = Sg0 ya + mj ya yb yc := ⟨_, rfl⟩
             have hco2 : comp kl ws s8 (k + 1) = [t1 + t2, ya, yb, yc, yd + t1, ye, yf, yg] := by rw [hco, ht1, ht2]; rfl
             have HCO2 := Lib.hid hco2
             clear hco hco2 hkk hww HCO
             go_upto_region 38 with (fail)
             rename_i Kf hKf
             refine reg86_38 (c := c) (kb := S + 1) (ii := k) (ye := ye) (yf := yf) (yg := yg) (yh := yh) (kk := kk) (ww := ww) (by kernel_rfl) rfl hlt (by rw [World.cell?_drew]; exact ck) (by rw [World.cell?_drew]; exact cw) rfl rfl rfl rfl rfl rfl rfl rfl (fun a hd hs hr hR => ?_)
             obtain ⟨z38_187, z38_188, z38_189, z38_190, z38_191, z38_192, z38_193, z38_194, z38_195, z38_196, z38_197, z38_198, z38_199, z38_200, z38_201, z38_202, z38_203, z38_204, z38_205, z38_206, z38_207, z38_208, z38_209, z38_210, z38_211, z38_212, z38_213, rfl⟩ := turn86_38 ⟨hd, hs, hr⟩ ((hR 27 (by decide)).trans (show _ = U t1 by rw [ht1, ← ch_or]; rfl))
             clear hd hs hr hR ht1 ck cw
             refine hKf _ _ ?_
             clear hKf
             have HC2 := Lib.hid (show wr.drew.heap[c]? = _ from HC.out)
             have HAL2 := Lib.hid (show Also (fun b => b ≠ c) W5 wr.drew from ⟨HAL.out.size, HAL.out.block⟩)
             have HBW2 := Lib.hid HBW.out.drew
             generalize World.drew wr = W8 at HC2 HAL2 HBW2 ⊢
             clear HC HAL HBW
             go_upto_region 39 with (fail)
             rename_i Kf hKf
             refine reg86_39 (ya := ya) (yb := yb) (yc := yc) (by kernel_rfl) rfl rfl rfl rfl rfl (fun a hd hs hr hR => ?_)
             obtain ⟨z39_214, z39_215, z39_216, z39_217, z39_218, z39_219, z39_220, z39_221, z39_222, z39_223, z39_224, z39_225, z39_226, z39_227, z39_228, z39_229, z39_230, z39_231, z39_232, z39_233, rfl⟩ := turn86_39 ⟨hd, hs, hr⟩ ((hR 20 (by decide)).trans (show _ = U t2 by rw [ht2, ← mj_or]; rfl))
             clear hd hs hr hR ht2
             refine hKf _ _ ?_
             clear hKf
             have ha1 : IntKind.u32.wrap ((yd.toNat : Int) + (t1.toNat : Int)) = ((yd + t1).toNat : Int) := by rw [← Int.natCast_add, wrap_u32n, BitVec.toNat_add]
             have ha2 : IntKind.u32.wrap ((t1.toNat : Int) + (t2.toNat : Int)) = ((t1 + t2).toNat : Int) := by rw [← Int.natCast_add, wrap_u32n, BitVec.toNat_add]
             have HA1 := Lib.hid ha1
             have HA2 := Lib.hid ha2
             clear ha1 ha2
             go_wp2
             go_roundw
             case rel =>
              have ha1 := HA1.out
              have ha2 := HA2.out
              rw [IntKind.wrap_u32] at ha1 ha2
              refine ⟨k + 1, t1 + t2, ya, yb, yc, yd + t1, ye, yf, yg, by omega, (by first | rfl | go_num), HCO2.out, ?_, rfl, rfl, rfl, ?_, rfl, rfl, rfl, HC2.out, HAL2.out, HBW2.out⟩
              ·exact congrArg (Value.int .u32) ha2
              ·exact congrArg (Value.int .u32) ha1
             case measure => simp [intOf]; omega
            ·have hlt' : ¬ (k : Int) < 64 := by omega
             obtain rfl : k = 64 := by omega
             obtain ⟨xs, hxs⟩ : ∃ xs, xs = [ya, yb, yc, yd, ye, yf, yg, yh] := ⟨_, rfl⟩
             have HXS := Lib.hid hxs
             have hxl : xs.length = 8 := by rw [hxs]; rfl
             have hsl8 : s8.length = 8 := by rw [HS8.out]; rfl
             clear hxs
             obtain ⟨nb, hnb⟩ : ∃ nb, nb = wr.heap.size := ⟨_, rfl⟩
             have hcn : c + 1 ≤ nb := by have := HAL.out.size; omega
             go_upto_region 42 with (fail)
             change Code.wp _ _ _ _ (wr.alloc (.cells #[U ya, U yb, U yc, U yd, U ye, U yf, U yg, U yh] 184))
             rw [← hnb]
             have HNC := Lib.hid (show (wr.alloc (.cells #[U ya, U yb, U yc, U yd, U ye, U yf, U yg, U yh] 184)).heap[nb]? = some (.cells (xs.map (fun z => U z)).toArray 184 (0, 0)) from by
              rw [HXS.out]; exact alloc_at hnb)
             have HS9 := Lib.hid (show (wr.alloc (.cells #[U ya, U yb, U yc, U yd, U ye, U yf, U yg, U yh] 184)).heap[S]? = some (.cells (a8 (updN s8 xs 0)) 185 (0, 0)) from by
              rw [show updN s8 xs 0 = s8 from by unfold updN; simp, HS8.out]
              exact (alloc_before (by omega)).trans ((HAL.out.block S (by omega) (by omega)).trans HS5.out))
             have HA9 := Lib.hid (show Also (fun b => b ≠ S) wC (wr.alloc (.cells #[U ya, U yb, U yc, U yd, U ye, U yf, U yg, U yh] 184)) from ⟨by rw [alloc_size1]; have := HA5.out.size; omega, fun b hb hlb => (alloc_before (by omega)).trans ((HAL.out.block b (by omega) (by omega)).trans (HA5.out.block b hb hlb))⟩)
             have HB9 := Lib.hid (HBW.out.alloc (show w.heap.size ≤ wr.heap.size by omega) (.cells #[U ya, U yb, U yc, U yd, U ye, U yf, U yg, U yh] 184))
             have hz9 : (wr.alloc (.cells #[U ya, U yb, U yc, U yd, U ye, U yf, U yg, U yh] 184)).heap.size = nb + 1 := by rw [alloc_size1, hnb]
             generalize World.alloc _ _ = W9 at HNC HS9 HA9 HB9 hz9 ⊢
             clear hnb HC HAL HBW
             go_loopw [256] (fun i w9 => ∃ k : Nat, k ≤ 8 ∧ i = .int .i64 k ∧ w9.heap[S]? = some (.cells (a8 (updN s8 xs k)) 185 (0, 0)) ∧ Also (fun b => b ≠ S) W9 w9 ∧ Below w.heap.size w w9) (fun i _ => 8 - (intOf i).toNat)
             case atStart => exact ⟨0, by omega, rfl, HS9.out, Also.refl _ _, HB9.out⟩
             case round =>
              clear HS9 HB9
              obtain ⟨k, hk, rfl, hcc, hal, hbw⟩ := hrel
              have HS9 := Lib.hid hcc
              have HAL := Lib.hid hal
              have HBW := Lib.hid hbw
              clear hcc hal hbw
              have hk0 : (0 : Int) ≤ (k : Int) := Int.natCast_nonneg _
              have hul := updN_length (s := s8) (x := xs) hsl8 hxl hk
              by_cases hlt8 : k < 8
              ·have hlt8' : (k : Int) < 8 := by omega
               have hn := (cell_of_row wr nb k _ 184 (0, 0) ((HAL.out.block nb (by omega) (by omega)).trans HNC.out)).trans (show _ = some (U (xs.getD k 0)) from by
                rw [List.getElem?_toArray, List.getElem?_map, List.getElem?_eq_getElem (by omega), List.getD_eq_getElem?_getD, List.getElem?_eq_getElem (by omega)]; rfl)
               have cw := a8_cell (k := k) HS9.out (by omega)
               rw [updN_get hsl8 hxl hlt8] at cw
               obtain ⟨nk, hnk⟩ : ∃ nk, nk = xs.getD k 0 := ⟨_, rfl⟩
               obtain ⟨sk, hsk⟩ : ∃ sk, sk = s8.getD k 0 := ⟨_, rfl⟩
               rw [← hnk] at hn
               rw [← hsk] at cw
               have hset := updN_set (s := s8) (x := xs) hsl8 hxl hlt8
               rw [← hnk, ← hsk] at hset
               have HSET := Lib.hid hset
               have HCW := Lib.hid cw
               clear hset hnk hsk cw
               go_upto_region 44 with (fail)
               rename_i Kf hKf
               refine reg86_44 (sb := S) (ii := k) (xk := sk) (nk := nk) (by kernel_rfl) rfl hlt8 HCW.out (froz HS9.out k) rfl rfl rfl rfl (fun a hd hs hr hR => ?_)
               obtain ⟨z44_261, z44_262, z44_263, z44_264, z44_265, z44_266, rfl⟩ := turn86_44 ⟨hd, hs, hr⟩
               clear hd hs hr hR hn HCW
               have HS10 := Lib.hid ((blk_set HS9.out k (U (sk + nk))).trans (by rw [a8_set hul, HSET.out]))
               have HAL2 := Lib.hid (show Also (fun b => b ≠ S) W9 (wr.setCell ⟨S, k, none⟩ (U (sk + nk))) from ⟨by rw [setCell_size]; exact HAL.out.size, fun b hb hlb => (Below.heap_setCell _ _ _ b hb).trans (HAL.out.block b hb hlb)⟩)
               have HBW2 := Lib.hid (HBW.out.setCell (p := ⟨S, k, none⟩) (show w.heap.size ≤ S by omega) (U (sk + nk)))
               generalize World.setCell _ _ _ = W10 at HS10 HAL2 HBW2 ⊢
               clear HSET HS9 HAL HBW hul
               refine hKf _ _ ?_
               clear hKf
               go_wp2
               go_roundw
               case rel => exact ⟨k + 1, by omega, (by first | rfl | go_num), HS10.out, HAL2.out, HBW2.out⟩
               case measure => simp [intOf]; omega
              ·have hlt8' : ¬ (k : Int) < 8 := by omega
               obtain rfl : k = 8 := by omega
               have hst2 : updN s8 xs 8 = stN kl il t (j + 1) := by
                have h1 : updN s8 xs 8 = List.zipWith (· + ·) s8 xs := by
                 unfold updN
                 rw [List.take_of_length_le (by rw [List.length_zipWith, hsl8, hxl]; decide), List.drop_of_length_le (by omega), List.append_nil]
                rw [h1, stN, ← HST.out, ← HS8.out, ← HM.out, blk, ← HWS.out, HCO.out, HXS.out]
               rw [hst2] at HS9
               have HAF := Lib.hid (show Also (fun b => b ≠ S) wC wr from ⟨by have := HA9.out.size; have := HAL.out.size; omega, fun b hb hlb => (HAL.out.block b hb (by have := HA9.out.size; omega)).trans (HA9.out.block b hb hlb)⟩)
               have hat1 : (at0 : Int) + 64 = ((64 * (j + 1) : Nat) : Int) := by have := HAT.out; omega
               have HAT1 := Lib.hid hat1
               clear hst2 HA9 HAL hul hat1
               go_wp2
               go_roundw
               case rel => exact ⟨j + 1, by omega, by first | exact congrArg (Value.int .i64) HAT1.out | (have := HAT1.out; go_num), HS9.out, HAF.out, HBW.out⟩
               case measure => have := HAT.out; have := HTL.out; simp [intOf]; omega
        ·have hltq' : ¬ (at0 : Int) < (tlen : Int) := by have := HAT.out; have := HTL.out; omega
         obtain rfl : j = q := by omega
         obtain ⟨X, hX⟩ : ∃ X, X = wr.heap.size := ⟨_, rfl⟩
         go_upto_region 46 with (fail)
         rename_i Kf hKf
         refine reg86_46 (X := X) (by kernel_rfl) rfl hX.symm rfl (fun a hd hs hr hR => ?_)
         obtain rfl := turn86_46 ⟨hd, hs, hr⟩ (hR 1 (by decide)) (hR 0 (by decide))
         clear hd hs hr hR
         generalize hW : World.setCells _ _ _ _ = W5
         have N5 := Lib.hid (show NewB X 147 (arrB []) wr W5 from by rw [← hW]; exact newB hX.symm)
         clear hW
         refine hKf _ _ ?_
         clear hKf
         have hSX : S + 2 ≤ X := by omega
         have HS5 := Lib.hid ((N5.out.old S (by omega)).trans HS.out)
         have HR5 := Lib.hid ((N5.out.old w.heap.size (by omega)).trans ((HAL.out.block w.heap.size (by omega) (by omega)).trans HR4.out))
         have HB5 := Lib.hid (HBW.out.trans (N5.out.below.mono (by have := HBW.out.size; omega)))
         have HC5 := Lib.hid (show W5.heap[X]? = some (.cells (arrB ((outB st 8).take 0)) 147 (0, 0)) from N5.out.at')
         have hz5 : W5.heap.size = X + 1 := N5.out.size
         have hwX : w.heap.size ≤ X := by have := HBW.out.size; omega
         have hol := outB_length st 8
         clear N5 HS HAL HBW hzr hX
         go_wp2_with fail
         go_loopw [30] (fun i w9 => ∃ k : Nat, k ≤ 32 ∧ i = .int .i64 k ∧ w9.heap[X]? = some (.cells (arrB ((outB st 8).take k)) 147 (0, 0)) ∧ Also (fun b => b ≠ X) W5 w9 ∧ Below w.heap.size w w9) (fun i _ => 32 - (intOf i).toNat)
         case atStart => exact ⟨0, by omega, rfl, HC5.out, Also.refl _ _, HB5.out⟩
         case round =>
          clear HC5 HB5
          obtain ⟨k, hk, rfl, hcc, hal, hbw⟩ := hrel
          have HC := Lib.hid hcc
          have HAL := Lib.hid hal
          have HBW := Lib.hid hbw
          clear hcc hal hbw
          have hk0 : (0 : Int) ≤ (k : Int) := Int.natCast_nonneg _
          by_cases hlt : k < 32
          ·have hlt' : (k : Int) < 32 := by omega
           have cx := a8_cell (w := wr) (k := k / 4) ((HAL.out.block S (by omega) (by omega)).trans HS5.out) (by rw [HSL.out]; omega)
           have htl : ((outB st 8).take k).length = k := by rw [List.length_take]; omega
           have cw := (cell_of_row wr X k _ 147 (0, 0) HC.out).trans (arrB_free (o := k) (l := (outB st 8).take k) (by omega) hlt)
           have hob := outB_getD st (q := k / 4) (r := k % 4) (by omega) 8 (by omega)
           rw [show 4 * (k / 4) + k % 4 = k by omega] at hob
           have HOB := Lib.hid hob
           clear hob
           go_upto_region 50 with (fail)
           refine reg86_50 (sb := S) (ob := X) (kk := k) (xk := st.getD (k / 4) 0) (y := B8 0) (by kernel_rfl) rfl hlt cx cw (froz HC.out k) rfl rfl rfl rfl (fun a hd hs hr hR => ?_)
           obtain ⟨z50_273, z50_274, z50_275, z50_276, z50_277, z50_278, z50_279, z50_280, z50_281, z50_282, z50_283, z50_284, z50_285, rfl⟩ := turn86_50 ⟨hd, hs, hr⟩
           clear hd hs hr hR cx cw
           have hpu := arrB_push (l := (outB st 8).take k) ((st.getD (k / 4) 0 >>> (24 - k % 4 * 8)).toNat % 256) (by omega)
           have htk : (outB st 8).take (k + 1) = (outB st 8).take k ++ [(st.getD (k / 4) 0 >>> (24 - k % 4 * 8)).toNat % 256] := by
            rw [← HOB.out, List.take_succ_eq_append_getElem (by omega), List.getD_eq_getElem?_getD, List.getElem?_eq_getElem (by omega)]; rfl
           rw [htl, ← htk] at hpu
           have HC2 := Lib.hid (show (wr.setCell ⟨X, k, none⟩ (.int .u8 (((st.getD (k / 4) 0 >>> (24 - k % 4 * 8)).toNat % 256 : Nat) : Int))).heap[X]? = some (.cells (arrB ((outB st 8).take (k + 1))) 147 (0, 0)) from (blk_set HC.out k (.int .u8 (((st.getD (k / 4) 0 >>> (24 - k % 4 * 8)).toNat % 256 : Nat) : Int))).trans (congrArg (fun c => some (Obj.cells c 147 (0, 0))) hpu))
           have HAL2 := Lib.hid (show Also (fun b => b ≠ X) W5 (wr.setCell ⟨X, k, none⟩ (.int .u8 (((st.getD (k / 4) 0 >>> (24 - k % 4 * 8)).toNat % 256 : Nat) : Int))) from ⟨by rw [setCell_size]; exact HAL.out.size, fun b hb hlb => (Below.heap_setCell _ _ _ b hb).trans (HAL.out.block b hb hlb)⟩)
           have HBW2 := Lib.hid (HBW.out.setCell (p := ⟨X, k, none⟩) hwX (.int .u8 (((st.getD (k / 4) 0 >>> (24 - k % 4 * 8)).toNat % 256 : Nat) : Int)))
           generalize World.setCell _ _ _ = W7 at HC2 HAL2 HBW2 ⊢
           clear hpu htk htl HC HAL HBW HOB
           go_wp2
           go_roundw
           case rel => exact ⟨k + 1, by omega, (by first | rfl | go_num), HC2.out, HAL2.out, HBW2.out⟩
           case measure => simp [intOf]; omega
          ·have hlt' : ¬ (k : Int) < 32 := by omega
           obtain rfl : k = 32 := by omega
           rw [List.take_of_length_le (by omega)] at HC
           have hsz' := arrB_size (l := outB st 8) (by omega)
           have hlen : (arrB (outB st 8)).toList.length = 32 := by simp [hsz']
           have hrange := Lib.hid (range_of_heap HC.out)
           have hth := Lib.hid (there_of_heap ((HAL.out.block w.heap.size (by omega) (by omega)).trans HR5.out) (n := 32) (by simp))
           go_wp2_with (first | (refine wpList_load_mid (by rfl) 147 (.tmp 29) (by rfl) X 0 (by rfl) (arrB (outB st 8)).toList (.array 32 5) hrange.out hu147 rfl (by rw [hlen]; exact hi147) ?_) | (refine wpList_store_mid (by rfl) 147 (.tmp 2) (.tmp 286) (by rfl) w.heap.size 0 (arrB (outB st 8)) (by rfl) (by rfl) (by rw [hsz']; exact hth.out) (by rw [hsz']; exact hi147) (arrB_ones _) ?_))
           refine bodyPost_ret (results86 _ _ w.heap.size (arrB (outB st 8)).toList rfl (World.rangeAt_setCells_same _ _ _ _ (fun j hj => hth.out j (by rw [hlen] at hj; exact hj))) hlen) rfl ?_
           refine ⟨?_, setCells_below _ (Nat.le_refl _) _ _ HBW.out⟩
           rw [← HTF.out, HQ.out, show 64 * j / 64 = j by omega, ← HST.out]
    ·have h56 : (((nj : Nat) : Int) % 64 != 56) = true := by
      have h1 := HNJ.out
      have h2 := HJ.out
      have h3 : zerosN l.length = (119 - l.length % 64) % 64 := rfl
      simp; omega
     clear htm
     have HOa := Lib.hid (HO.out.alloc (.cells #[.int .u8 0] 5))
     have HBa := Lib.hid (HBL.out.alloc hTz3 (.cells #[.int .u8 0] 5))
     have hTza : T ≤ (wr.alloc (.cells #[.int .u8 0] 5)).heap.size := by rw [alloc_size1]; omega
     have hnj9 : nj ≤ 900000000 := by omega
     go_wp2_with (at_builtin; (refine wpList_append_own _ rfl _ _ 87 rfl T 5 i0 (.int .u8 0) 1 1 Tryz.underlying87 hi0 hz0 hzz1 hzz2 rfl (by decide) _ nj _ rfl HOa.out ⟨wr.heap.size, 0, none⟩ 1 1 [_] rfl rfl (cell_one_new _ _ _) (by simp [Value.oneCell']) (by unfold maxLen; omega) (by omega) hTza ?_; intro v' w4 hown' hgrow hnil))
     go_roundw
     case rel =>
      obtain ⟨g', c', hv⟩ := own_form hown' (by omega)
      subst hv
      refine ⟨j + 1, g', c', by have := HJ.out; omega, by rw [show l.length + 1 + (j + 1) = nj + 1 by have := HNJ.out; omega], ?_, HBa.out.grown hgrow hTza (fun k hk => (HOa.out.lt k hk).1)⟩
      rw [show l.length + 1 + (j + 1) = nj + 1 by have := HNJ.out; omega, List.replicate_succ', ← List.append_assoc, ← List.append_assoc, List.map_append, List.append_assoc]
      exact hown'
     case measure =>
      obtain ⟨g', c', hv⟩ := own_form hown' (by omega)
      subst hv
      simp only [sliceN]
      have := HNJ.out
      have := HJ.out
      omega
theorem docOf_any (l : List Nat) (A : Option Addr) (cap : Nat) (w : World) (hl : ∀ x ∈ l, x < 256) (hn : l.length ≤ 100000000) (hA : A = none → l.length = 0 ∧ cap = 0) (hc : l.length ≤ cap) (hb : BytesAt w A l) :
  Calls Tryz.prog 86 #[.slice A l.length cap] w fun e w' => e = .returned (.agg (arrB (shaL docH docK l))) ∧ Below w.heap.size w w' := by
 rw [shaL_stN _ _ _ docH_length]
 exact doc86 doc86_ok l A cap w hl hn hA hc hb
end Go.Proofs.YtoimjnmhinfbkaaGreatDoor
