/- strconv's ftoa64 at 'e' and -1, FormatFloat: a finite float's text hangs on its bits alone. -/
import Derived.Test.YtlmogijkkhdogaaGreatDoorGe
import Derived.Deep.RegionHeld3
namespace Go.Proofs.YtlmogijkkhdogaaGreatDoor
open Go.RowKit
set_option maxRecDepth 100000

theorem run165 (n : Nat) (w : World) : (callFunc 165 #[.float .f64 n]).run Tryz.prog w = .ok (.value (.int .u64 n)) w := by
  rw [run_callFunc_extern Tryz.func165 (by kernel_rfl) (by kernel_rfl) (by kernel_rfl) (e := Extern.MathFloatBits.float64bits) (by kernel_rfl)]; rfl
attribute [local go_sem] run165

theorem and_low (x n : Nat) (hx : x < 18446744073709551616) (hn : n ≤ 62) : (BitVec.ofNat 64 x &&& BitVec.ofNat 64 (2 ^ n - 1)).toNat = x % 2 ^ n := by
  have hp : 2 ^ n ≤ 2 ^ 62 := Nat.pow_le_pow_right (by omega) hn
  rw [BitVec.toNat_and, BitVec.toNat_ofNat, BitVec.toNat_ofNat, Nat.mod_eq_of_lt (by omega), Nat.mod_eq_of_lt (by omega), Nat.and_two_pow_sub_one_eq_mod]
theorem bits_and64 (x y : Nat) : bits .and .u64 (x : Int) (y : Int) = ((BitVec.ofNat 64 x &&& BitVec.ofNat 64 y).toNat : Int) := by
  refine bits64 _ _ _ _ ?_
  unfold bits
  simp only [IntKind.bits]
  rw [ofInt64, ofInt64]; rfl
theorem bits_andI (x y : Nat) : bits .and .i64 (x : Int) (y : Int) = IntKind.i64.wrap ((BitVec.ofNat 64 x &&& BitVec.ofNat 64 y).toNat : Int) := by
  unfold bits
  simp only [IntKind.bits]
  rw [ofInt64, ofInt64]; rfl
theorem andLowU (x n : Nat) (hx : x < 18446744073709551616) (hn : n ≤ 62) : bits .and .u64 (x : Int) ((2 ^ n - 1 : Nat) : Int) = ((x % 2 ^ n : Nat) : Int) := by
  rw [bits_and64, and_low x n hx hn]
theorem andLowI (x n : Nat) (hx : x < 18446744073709551616) (hn : n ≤ 62) : bits .and .i64 (x : Int) ((2 ^ n - 1 : Nat) : Int) = ((x % 2 ^ n : Nat) : Int) := by
  have hp : 2 ^ n ≤ 2 ^ 62 := Nat.pow_le_pow_right (by omega) hn
  have hm : x % 2 ^ n < 2 ^ n := Nat.mod_lt _ (Nat.two_pow_pos n)
  rw [bits_andI, and_low x n hx hn, IntKind.wrap_i64]
  omega
theorem bits_orHigh (x : Nat) (h : x < 4503599627370496) : bits .or .u64 (x : Int) 4503599627370496 = ((x + 4503599627370496 : Nat) : Int) := by
  have h2 := bits_or64 x 4503599627370496
  rw [show ((4503599627370496 : Nat) : Int) = 4503599627370496 from rfl] at h2
  rw [h2, BitVec.toNat_or, BitVec.toNat_ofNat, BitVec.toNat_ofNat, Nat.mod_eq_of_lt (by omega), Nat.mod_eq_of_lt (by omega)]
  have h3 := Nat.two_pow_add_eq_or_of_lt (i := 52) (b := x) (by omega) 1
  rw [Nat.or_comm, show (4503599627370496 : Nat) = 2 ^ 52 * 1 from rfl, ← h3]
  omega

/-- a finite float's exponent and mantissa, as ftoa64 takes them. -/
def fexp (x : Nat) : Int := (if x / 4503599627370496 % 2048 = 0 then 1 else ((x / 4503599627370496 % 2048 : Nat) : Int)) - 1023
def fman (x : Nat) : Nat := if x / 4503599627370496 % 2048 = 0 then x % 4503599627370496 else x % 4503599627370496 + 4503599627370496
theorem fman_pos {x : Nat} (h : frung x ≠ 0) : 1 ≤ fman x ∧ fman x < 9007199254740992 := by
  unfold fman
  unfold frung W63 at h
  split <;> omega
theorem fexp_bound {x : Nat} (h : frung x < I52) : -1022 ≤ fexp x ∧ fexp x ≤ 1023 := by
  unfold fexp
  unfold frung W63 I52 at h
  split <;> omega

theorem figT_len {d : Nat} (h : d < 18446744073709551616) : (figT d).length ≤ 20 := by
  have := figL_len h
  unfold figT; rw [List.length_take]; omega
theorem efgL_len (neg : Bool) (ds : List UInt8) (dp : Int) (h : ds.length ≤ 20) : (efgL neg ds dp).length ≤ 60 := by
  have h1 : (efHead neg).length ≤ 1 := by cases neg <;> simp [efHead]
  have h2 : (efMid ds).length ≤ 20 := by unfold efMid; split <;> simp <;> omega
  have h3 : ∀ e, (expB e).length ≤ 3 := by intro e; unfold expB; split <;> (try split) <;> simp
  have := h3 (efExp ds dp).natAbs
  unfold efgL
  simp only [List.length_append, List.length_cons, List.length_nil]
  omega
theorem ownsRow_below {w w' : World} {B n : Nat} {v : Value} {xs : List Value} (h : w.ownsRow B 5 1 v n xs) (hb : Below w.heap.size w w') : w'.ownsRow B 5 1 v n xs := by
  refine ⟨h.1, ?_⟩
  rcases h.2 with hn | ⟨g, cap, cur, rfl, h1, hg, rest⟩
  · exact .inl hn
  · refine .inr ⟨g, cap, cur, rfl, h1, ?_, rest⟩
    have hlt : g < w.heap.size := by
      rcases Nat.lt_or_ge g w.heap.size with h2 | h2
      · exact h2
      · rw [Array.getElem?_eq_none h2] at hg; cases hg
    exact (hb.block g hlt).trans hg
theorem ftoa_ex (x : Nat) (hx : x < 18446744073709551616) (h0 : frung x ≠ 0) (hi : frung x < I52) :
    ∃ txt : List UInt8, txt.length ≤ 60 ∧ ∀ (w : World) (B : Nat) (v : Value), Glob w → Tab10 w → 9 < B → B ≤ w.heap.size → w.ownsRow B 5 1 v 0 [] →
      Calls Tryz.prog 118 #[v, .float .f64 x, .int .u8 101, .int .i64 (-1)] w fun e w' => ∃ v', e = .returned v' ∧ w'.ownsRow B 5 1 v' txt.length (Lib.byteCells txt) ∧ Below B w w' := by
  obtain ⟨hm1, hm2⟩ := fman_pos h0
  obtain ⟨he1, he2⟩ := fexp_bound hi
  have hmm : fman x = if x / 4503599627370496 % 2048 = 0 then x % 4503599627370496 else x % 4503599627370496 + 4503599627370496 := rfl
  have hee : fexp x = (if x / 4503599627370496 % 2048 = 0 then 1 else ((x / 4503599627370496 % 2048 : Nat) : Int)) - 1023 := rfl
  have hfx : x / 4503599627370496 % 2048 ≤ 2046 := by unfold frung W63 I52 at hi; omega
  generalize fman x = mt at *
  generalize fexp x = ex at *
  obtain ⟨sL, hsL⟩ : ∃ s, s = Lib.bitLen mt := ⟨_, rfl⟩
  have hsb : 1 ≤ sL ∧ sL ≤ 53 := by
    have h := Lib.bitLenAux_bounds 64 mt (by omega) (by omega)
    have e : Lib.bitLen mt = Lib.bitLenAux 64 mt := rfl
    rw [hsL, e]
    refine ⟨h.1, ?_⟩
    rcases Nat.lt_or_ge 53 (Lib.bitLenAux 64 mt) with hc | hc
    · exfalso
      have h2 := Nat.pow_le_pow_right (n := 2) (by omega) (show 53 ≤ Lib.bitLenAux 64 mt - 1 by omega)
      have h3 : (2 : Nat) ^ 53 = 9007199254740992 := rfl
      omega
    · exact hc
  obtain ⟨mm, hmm1, hmm2⟩ := wrapN ((mt : Int) * 2 ^ (64 - sL))
  obtain ⟨d, p, hd, hp1, hp2, HS⟩ := short_ex mm (ex + 1023 + -1023 - (64 - (Lib.bitLen mt : Int)) - 52) hmm1 (by omega) (by omega)
  refine ⟨efgL (fneg x) (figT d) ((figL d).length + p), efgL_len _ _ _ (figT_len (by omega)), fun w B v hg ht hB hBw hown => ?_⟩
  have n1 : ((x : Int) / 9223372036854775808 != 0) = fneg x := by
    rcases fsplit hx with ⟨a, b, c⟩ | ⟨a, b, c⟩ <;> rw [a] <;> unfold W63 at * <;> simp <;> omega
  have n2 : (x : Int) / 4503599627370496 ≤ 4095 := by omega
  have n3 : (0 : Int) ≤ (x : Int) / 4503599627370496 := by omega
  have n4 : bits .and .i64 ((x : Int) / 4503599627370496) 2047 = ((x / 4503599627370496 % 2048 : Nat) : Int) := by
    exact andLowI (x / 4503599627370496) 11 (by omega) (by omega)
  have n5 : bits .and .u64 (x : Int) 4503599627370495 = ((x % 4503599627370496 : Nat) : Int) := by
    exact andLowU x 52 hx (by omega)
  have HSH := Lib.hid HS
  have HG := Lib.hid hg
  have HT := Lib.hid ht
  have HO := Lib.hid hown
  have HMM := Lib.hid hmm
  have HEE := Lib.hid hee
  clear HS hg ht hown hmm hee
  generalize hfe : x / 4503599627370496 % 2048 = fe at *
  generalize hfm : x % 4503599627370496 = fm at *
  have hfm2 : fm < 4503599627370496 := by rw [← hfm]; exact Nat.mod_lt _ (by decide)
  clear hfe hfm
  go_enter Tryz.func118, Tryz.ntmps118
  have f1 : ((fe : Int) == 2047) = false := by simp; omega
  go_upto_region 14 with fail
  go_quiet (fail)
  rename_i nq
  have HG1 : Hid (Glob (w.drewN nq)) := Lib.hid (HG.out.keep fun _ _ _ => rfl)
  have HT1 : Hid (Tab10 (w.drewN nq)) := Lib.hid fun k hk => HT.out k hk
  have HO1 : Hid ((w.drewN nq).ownsRow B 5 1 v 0 []) := Lib.hid HO.out
  have HB1 : Hid (Below B w (w.drewN nq)) := Lib.hid (below_drewN (Below.refl _ _) nq)
  have hs1 : B ≤ (w.drewN nq).heap.size := hBw
  generalize w.drewN nq = W at *
  clear HG HT HO
  go_upto_if 78 with fail
  go_cut [14, 15] from 78 to 84 (fun a b wx => a = .int .i64 (ex + 1023) ∧ b = .int .u64 mt ∧ W = wx)
  case first =>
    by_cases h0 : fe = 0
    · have e1 : mt = fm := by rw [HMM.out, if_pos h0]
      have e2 : ex = 1 - 1023 := by rw [HEE.out, if_pos h0]
      have E2 := Lib.hid e2
      have E1 := Lib.hid e1
      clear e1 e2 HMM HEE
      subst h0
      go_wp2_with fail
      go_meet
      exact ⟨by rw [E2.out]; rfl, by rw [E1.out], rfl⟩
    · have e1 : mt = fm + 4503599627370496 := by rw [HMM.out, if_neg h0]
      have e2 : ex = (fe : Int) - 1023 := by rw [HEE.out, if_neg h0]
      have h0' : ((fe : Int) == 0) = false := by simp; omega
      have h1' := bits_orHigh fm hfm2
      have E2 := Lib.hid e2
      have E1 := Lib.hid e1
      clear e1 e2 HMM HEE
      go_wp2_with fail
      go_meet
      exact ⟨by rw [E2.out]; simp, by rw [E1.out]; rfl, rfl⟩
  case rest =>
    obtain ⟨rfl, rfl, rfl⟩ := hcut
    clear HMM HEE
    have hl0 : ((mt : Int) == 0) = false := by simp; omega
    have hmb : (mt : Int) ≤ 18446744073709551615 := by omega
    have hmb0 : (0 : Int) ≤ (mt : Int) := by omega
    subst hsL
    have hsL1 : (Lib.bitLen mt : Int) ≤ 53 := by omega
    have hsL2 : (1 : Int) ≤ (Lib.bitLen mt : Int) := by omega
    have hs9 : 9 < (W.alloc (.cells (Array.replicate 32 (.int .u8 0)) 202)).heap.size := by simp; omega
    have HT2 : Hid (Tab10 (W.alloc (.cells (Array.replicate 32 (.int .u8 0)) 202))) := Lib.hid (HT1.out.below (show 9 < W.heap.size by omega) ((Below.refl _ _).alloc (Nat.le_refl _) _))
    go_upto_region 38 with (first | (go_at_call 160; refine (Tryz.bits_Len64 _ _ hmb0 hmb).mono ?_; rintro e w' ⟨rfl, rfl⟩) | (go_at_call 175; refine (HSH.out _ HT2.out hs9).mono ?_; rintro e w2 ⟨rfl, hb2⟩))
    have hlt2 : W.heap.size < w2.heap.size := by have h := hb2.size; simp at h; omega
    have hbuf : w2.heap[W.heap.size]? = some (.cells zeros32 202 (0, 0)) := (hb2.block W.heap.size (by simp)).trans (heap_new W _)
    have hbW : Below W.heap.size W w2 := ((Below.refl _ _).alloc (Nat.le_refl _) _).trans (hb2.mono (by simp))
    have hown2 : w2.ownsRow B 5 1 v 0 [] := ownsRow_below HO1.out hbW
    have HZ := Lib.hid hbuf
    have HO2 := Lib.hid hown2
    have HG2 := Lib.hid (HG1.out.below hbW)
    have HB2 := Lib.hid (HB1.out.trans (hbW.mono hs1))
    have hs2 : B ≤ w2.heap.size := by omega
    have hbig : 9 < W.heap.size := by omega
    have hfast : w2.cell? ⟨2, 0, none⟩ = some (.bool true) := HG2.out.fast
    have HBW := Lib.hid hbW
    clear hb2 hbuf hown2 hbW HG1 HT1 HT2 HSH
    obtain ⟨bb, hbb⟩ : ∃ bb, bb = W.heap.size := ⟨_, rfl⟩
    have HBB := Lib.hid hbb
    rw [← hbb] at HZ hlt2 hbig hs1 HBW ⊢
    clear hbb hs9
    have hd64 : d < 18446744073709551616 := by omega
    have HND := Lib.hid (fun w hg => numDig_any d hd64 w hg)
    have HSD := Lib.hid (fun w h => setDigits_any bb d p hd64 (by omega) (by omega) w h)
    have hTl : (figT d).length ≤ 20 := figT_len hd64
    have hLl := figL_len hd64
    generalize hLn : (figL d).length = Ln at *
    generalize hTT : figT d = ds at *
    go_region_held3 (fun w' => w'.cell? ⟨2, 0, none⟩ = some (.bool true))
      (first | go_keep | (rw [hc1 _ _ (by omega)]; simp [go_sem, hfast]))
      ((first | (go_at_call 114; refine (HND.out _ (by exact HG2.out.keep fun _ _ _ => rfl)).mono ?_; rintro e w' ⟨rfl, rfl⟩) | (go_at_call 170; refine (HSD.out _ (by exact HZ.out)).mono ?_; rintro e w3 ⟨rfl, hb3, C, hC1, hC2⟩; obtain ⟨hc1, hf1⟩ := bcell hb3)))
    have hb32 : Below bb w2 w3 := ((Below.refl bb w2).drew).trans hb3
    have hbW3 : Below bb W w3 := HBW.out.trans hb32
    have hown3 : w3.ownsRow B 5 1 v 0 [] := ownsRow_below HO1.out (by rw [← HBB.out]; exact hbW3)
    have hEF : EF B bb C [] v w3 w3 := ⟨hown3, Below.refl _ _, hC1, Nat.le_trans hs2 hb32.size, ef_far hown3 hC1⟩
    have HEF := Lib.hid hEF
    have hs3 : B ≤ w3.heap.size := hEF.sz
    have HB3 := Lib.hid (HB1.out.trans (hbW3.mono hs1))
    have HC2 := Lib.hid hC2
    clear hEF hown3 hbW3 hb32 hb3 hC1 hC2 hc1 hf1 HO2 HG2 HB2 HZ HBW HBB HO1 HB1 HND HSD
    go_upto_block 1 with fail
    obtain ⟨M, hM⟩ : ∃ M, M = ds.length - 1 := ⟨_, rfl⟩
    have HM := Lib.hid hM
    clear hM
    go_cut [3] from 149 to 164 (fun a wx => a = .int .i64 (M : Nat) ∧ w3 = wx)
    case first =>
      by_cases hl : ds.length = 0
      · have e : (M : Int) = 0 := by have := HM.out; omega
        go_wp2_with fail
        go_meet
        exact ⟨by first | (rw [e]; done) | (rw [e]; rfl) | rfl | (simp [e]; done) | (simp; omega), rfl⟩
      · have e : (M : Int) = (ds.length : Int) - 1 := by have := HM.out; omega
        go_wp2_with fail
        go_meet
        exact ⟨by first | (rw [e]; done) | (rw [e]; rfl) | rfl | (simp [e]; done) | (simp; omega), rfl⟩
    case rest =>
      obtain ⟨rfl, rfl⟩ := hcut
      go_wp2_with (go_at_call 168; refine (efg_any (fneg x) ds _ hTl (by omega) (by omega) B bb C v _ HEF.out M HM.out HC2.out).mono ?_; rintro e w4 ⟨v', rfl, hE⟩)
      go_ret
      refine ⟨v', rfl, ?_, HB3.out.trans (hE.bel.mono ?_)⟩
      · rw [hTT, hLn]; exact hE.own
      · omega
end Go.Proofs.YtlmogijkkhdogaaGreatDoor
