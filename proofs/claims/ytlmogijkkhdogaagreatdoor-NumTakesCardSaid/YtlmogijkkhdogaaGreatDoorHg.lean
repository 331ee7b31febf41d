/- strconv's leftShift. -/
import Derived.Test.YtlmogijkkhdogaaGreatDoorHf
namespace Go.Proofs.YtlmogijkkhdogaaGreatDoor
open Go.RowKit
set_option maxRecDepth 100000

def powT : List Nat := [1, 3, 6, 9, 13, 16, 19, 23, 26]
/-- what the slow path reads of the library's own variables: it lies below block B. -/
structure Slow (B : Nat) (w : World) : Prop where
  b17 : 14 ≤ B
  inf0 : w.cell? ⟨6, 0, none⟩ = some (.int .u64 52)
  inf1 : w.cell? ⟨6, 1, none⟩ = some (.int .u64 11)
  inf2 : w.cell? ⟨6, 2, none⟩ = some (.int .i64 (-1023))
  pow : ∃ b o cap : Nat, b < B ∧ w.cell? ⟨12, 0, none⟩ = some (.slice (some ⟨b, o, none⟩) 9 cap) ∧ ∀ i n, powT[i]? = some n → w.cell? ⟨b, o + i, none⟩ = some (.int .i64 (n : Nat))
  cheat : ∃ b o cap : Nat, b < B ∧ w.cell? ⟨10, 0, none⟩ = some (.slice (some ⟨b, o, none⟩) 61 cap) ∧ ∀ k δ c, Go.Pinned.cheatRows[k]? = some (δ, c) → w.cell? ⟨b, o + k * 2, none⟩ = some (.int .i64 (δ : Nat)) ∧ w.cell? ⟨b, o + k * 2 + 1, none⟩ = some (.string ⟨c.toArray⟩)
theorem Slow.keep {B : Nat} {w w' : World} (h : Slow B w) (hk : ∀ b o, b < B → w'.cell? ⟨b, o, none⟩ = w.cell? ⟨b, o, none⟩) : Slow B w' := by
  obtain ⟨h17, a, b, c, ⟨b1, o1, c1, l1, p1, q1⟩, ⟨b2, o2, c2, l2, p2, q2⟩⟩ := h
  refine ⟨h17, by rw [hk _ _ (by omega)]; exact a, by rw [hk _ _ (by omega)]; exact b, by rw [hk _ _ (by omega)]; exact c, ⟨b1, o1, c1, l1, by rw [hk _ _ (by omega)]; exact p1, fun i n hi => by rw [hk _ _ l1]; exact q1 i n hi⟩, ⟨b2, o2, c2, l2, by rw [hk _ _ (by omega)]; exact p2, fun k δ c hc => ?_⟩⟩
  rw [hk _ _ l2, hk _ _ l2]
  exact q2 k δ c hc
theorem Slow.below {B : Nat} {w w' : World} (h : Slow B w) (hb : Below B w w') : Slow B w' := h.keep fun b o hb' => hb.cell (p := ⟨b, o, none⟩) hb'
theorem Slow.kin {B E : Nat} {w w' : World} (h : Slow B w) (hB : B ≤ E) (hb : Kin E w w') : Slow B w' := h.below (hb.below hB)

theorem cheats_ok : (List.range 61).all (fun k => k == 0 || match Go.Pinned.cheatRows[k]? with | some (δ, c) => cheatB k δ c | none => false) = true := by kernel_rfl
theorem cheat_row (k : Nat) (h1 : 1 ≤ k) (h2 : k ≤ 60) : ∃ δ c, Go.Pinned.cheatRows[k]? = some (δ, c) ∧ Cheat k δ c := by
  have h := List.all_eq_true.1 cheats_ok k (List.mem_range.2 (by omega))
  simp only [Bool.or_eq_true, beq_iff_eq] at h
  rcases h with h | h
  · omega
  · cases hr : Go.Pinned.cheatRows[k]? with
    | none => rw [hr] at h; cases h
    | some x => rw [hr] at h; exact ⟨x.1, x.2, rfl, cheat_of h⟩

def lt (D : Dec) (k N : Nat) : Nat → Bool
  | 0 => D.tr
  | m + 1 => lt D k N m || (decide (800 ≤ N - 1 - m) && decide (lo D k m ≠ 0))
def lsD (D : Dec) (k N m : Nat) : Dec := { D with d := fun i => if N - m ≤ i ∧ i < N ∧ i < 800 then lo D k (N - 1 - i) + 48 else D.d i, tr := lt D k N m }
theorem lsD_zero (D : Dec) (k N : Nat) : lsD D k N 0 = D := by
  unfold lsD lt
  have : (fun i => if N - 0 ≤ i ∧ i < N ∧ i < 800 then lo D k (N - 1 - i) + 48 else D.d i) = D.d := by
    funext i; rw [if_neg (by omega)]
  rw [this]
theorem lsD_put (D : Dec) (k N m : Nat) (hm : m < N) (hw : N - 1 - m < 800) : (lsD D k N m).put (N - 1 - m) (lo D k m + 48) = lsD D k N (m + 1) := by
  have e : lt D k N (m + 1) = lt D k N m := by
    show (lt D k N m || (decide (800 ≤ N - 1 - m) && _)) = _
    rw [show decide (800 ≤ N - 1 - m) = false from by simp; omega]
    simp
  unfold lsD Dec.put
  rw [e]
  congr 1
  funext i
  simp only
  by_cases h : i = N - 1 - m
  · subst h
    rw [if_pos rfl, if_pos ⟨by omega, by omega, hw⟩, show N - 1 - (N - 1 - m) = m from by omega]
  · rw [if_neg h]
    by_cases h2 : N - m ≤ i ∧ i < N ∧ i < 800
    · rw [if_pos h2, if_pos ⟨by omega, h2.2⟩]
    · rw [if_neg h2, if_neg (by omega)]
theorem lsD_big (D : Dec) (k N m : Nat) (hm : m < N) (hw : 800 ≤ N - 1 - m) (b : Bool) (hb : lt D k N (m + 1) = b) : { lsD D k N m with tr := b } = lsD D k N (m + 1) := by
  have hf : (fun i => if N - m ≤ i ∧ i < N ∧ i < 800 then lo D k (N - 1 - i) + 48 else D.d i) = fun i => if N - (m + 1) ≤ i ∧ i < N ∧ i < 800 then lo D k (N - 1 - i) + 48 else D.d i := by
    funext i
    by_cases h2 : N - m ≤ i ∧ i < N ∧ i < 800
    · rw [if_pos h2, if_pos ⟨by omega, h2.2⟩]
    · rw [if_neg h2, if_neg (by omega)]
  unfold lsD
  rw [hb, hf]

set_option maxHeartbeats 1000000 in
theorem lshift_walk (D : Dec) (k δ Δ N : Nat) (c : List UInt8) (hk1 : 1 ≤ k) (hk2 : k ≤ 60) (hrow : Go.Pinned.cheatRows[k]? = some (δ, c)) (hc : Cheat k δ c) (hf : Fit D) (hΔ : Δ = dlt D δ c) (hN : N = D.nd + Δ) (hp1 : -1000000 ≤ D.dp) (hp2 : D.dp ≤ 1000000)
    (w : World) (E B : Nat) (hB : B ≤ E) (hs : Slow B w) (h : DecAt w E D) :
    Calls Tryz.prog 225 #[.pointer (some ⟨E, 0, none⟩), .int .u64 k] w fun e w' => e = .returned (.tuple #[]) ∧ DecAt w' E (trimD { lsD D k N N with nd := min N 800, dp := D.dp + (Δ : Nat) }) ∧ Kin E w w' := by
  obtain ⟨hT1, hT2⟩ := dlt_ok hf hc
  rw [← hΔ, ← hN] at hT1 hT2
  have hend := lc_end (D := D) (k := k) (Δ := Δ) (by rw [← hN]; exact hT2)
  have hpos := fun e he => lc_pos (D := D) (k := k) (Δ := Δ) (by rw [← hN]; exact hT1) e he
  have hnd := h.nd
  have hdp := h.dp
  have hfr := h.froz
  obtain ⟨cb, co, ccap, hcb, hcs, hcc⟩ := hs.cheat
  obtain ⟨hc1, hc2⟩ := hcc k δ c hrow
  have hne10 : ¬ (10 : Nat) = E := by have := hs.b17; omega
  have hnecb : ¬ cb = E := by omega
  have HPRE := Lib.hid (fun w1 h1 => pre_any E D D.nd 800 hf.n8 c (by have := hc.l100; omega) w1 h1)
  obtain ⟨n1, n8, hd, d0⟩ := hf
  have hδ1 := hc.d1
  have hδ20 := hc.d20
  obtain ⟨ls, hls⟩ : ∃ ls, ls = preL D.d D.nd c 0 := ⟨_, rfl⟩
  have hΔ2 : Δ = if ls then δ - 1 else δ := by rw [hΔ, hls]; rfl
  rw [← hls] at HPRE
  have H := Lib.hid h
  have HD := Lib.hid hd
  have HE := Lib.hid hend
  have HPOS := Lib.hid hpos
  have HLT := Lib.hid (lc_lt (D := D) (k := k) hd)
  have hkk : (k : Int) < 64 := by omega
  have hk61 : (k : Int) < 61 := by omega
  have hk0 : (0 : Int) ≤ k := by omega
  obtain ⟨n, hn⟩ : ∃ n, n = D.nd := ⟨_, rfl⟩
  have HN := Lib.hid hn
  rw [← hn] at hnd n1 n8 hN HPRE
  have n8' : (n : Int) ≤ 800 := by omega
  have n0' : (0 : Int) ≤ n := by omega
  have HNN := Lib.hid hN
  have HW := Lib.hid hΔ2
  clear h hd hend hpos hs hcc hrow hc hΔ hls hT1 hT2 hn hN hΔ2
  go_enter Tryz.func225, Tryz.ntmps225
  go_wp2_with fail
  go_quiet ((go_at_call 263; exact Calls.quiet_of (HPRE.out _ (H.out.drewN _))))
  have hD1 := H.out.drewN nq
  have hK1 := Kin.drewN E w nq
  generalize w.drewN nq = W at *
  have H1 := Lib.hid hD1
  have K1 := Lib.hid hK1
  clear hnd hdp hfr hcs hc1 hc2 hD1 hK1 HPRE H
  have hnd : W.cell? ⟨E, 800, none⟩ = some (.int .i64 (n : Nat)) := by rw [HN.out]; exact H1.out.nd
  go_upto_if 30 with fail
  go_cut [4] from 31 to 32 (fun v wx => v = .int .i64 (Δ : Nat) ∧ W = wx)
  case first =>
    cases ls with
    | true =>
      go_wp2_with fail
      go_meet
      refine ⟨?_, rfl⟩
      have hw : Δ = δ - 1 := by have := HW.out; simpa using this
      rw [hw]; go_num
    | false =>
      go_wp2_with fail
      go_meet
      refine ⟨?_, rfl⟩
      have hw : Δ = δ := by have := HW.out; simpa using this
      rw [hw]
  case rest =>
    obtain ⟨rfl, rfl⟩ := hcut
    have hΔ20 : (Δ : Int) ≤ 20 := by have := HW.out; split at this <;> omega
    have hΔ0 : (0 : Int) ≤ Δ := by omega
    go_wp2_with fail
    have hNn := HNN.out
    go_loopw [5, 6, 7, 8, 9] (fun r v u _q _m wr => ∃ m : Nat, m ≤ n ∧ r = .int .i64 ((n : Int) - 1 - m) ∧ v = .int .i64 ((N : Int) - m) ∧ u = .int .u64 (lc D k m : Nat) ∧ DecAt wr E (lsD D k N m) ∧ Kin E w wr) (fun r _ _ _ _ _ => (RowKit.intOf r + 1).toNat)
    case atStart => exact ⟨0, Nat.zero_le _, by go_num, by rw [hNn]; go_num, rfl, by rw [lsD_zero]; exact H1.out, K1.out⟩
    case round =>
      obtain ⟨m, hm, rfl, rfl, rfl, hD, hK⟩ := hrel
      have hfr := hD.froz
      have htr := hD.tr
      have HDm := Lib.hid hD
      have HKm := Lib.hid hK
      have hll := HLT.out m
      have hP : 2 ^ k ≤ 1152921504606846976 := Nat.le_trans (Nat.pow_le_pow_right (by decide) hk2) (by decide)
      have HP := Lib.hid hP
      have hnd : wr.cell? ⟨E, 800, none⟩ = some (.int .i64 (n : Nat)) := by rw [HN.out]; exact hD.nd
      have hy1 : lc D k m < 1152921504606846976 := by omega
      clear hD hK hP hll
      by_cases hlt : m < n
      · have hdg : wr.cell? ⟨E, n - 1 - m, none⟩ = some (.int .u8 (D.d (n - 1 - m) : Nat)) := by
          have h := HDm.out.dig (n - 1 - m) (by omega)
          rw [h]
          show some (Value.int IntKind.u8 ((if N - m ≤ n - 1 - m ∧ n - 1 - m < N ∧ n - 1 - m < 800 then _ else D.d (n - 1 - m) : Nat) : Int)) = _
          rw [if_neg (by omega)]
        have hdd := HD.out (n - 1 - m) (by have := HN.out; omega)
        have hxs : xs D m = D.d (n - 1 - m) - 48 := by unfold xs; rw [if_pos (by have := HN.out; omega), ← HN.out]
        obtain ⟨t, ht⟩ : ∃ t, t = n - 1 - m := ⟨_, rfl⟩
        rw [← ht] at hdg hdd hxs
        have hrt : ((n : Int) - 1 - m) = (t : Int) := by omega
        rw [hrt]
        obtain ⟨v, hv⟩ : ∃ v, v = N - 1 - m := ⟨_, rfl⟩
        have hvv : ((N : Int) - m) = (v : Int) + 1 := by omega
        rw [hvv]
        have hv5 : v ≤ 1000 := by omega
        obtain ⟨cc, hcc⟩ : ∃ cc, cc = D.d t := ⟨_, rfl⟩
        rw [← hcc] at hdg hdd hxs
        obtain ⟨y, hy⟩ : ∃ y, y = lc D k m := ⟨_, rfl⟩
        rw [← hy] at hy1 ⊢
        obtain ⟨s, hs⟩ : ∃ s, s = xs D m * 2 ^ k := ⟨_, rfl⟩
        have hs9 : s ≤ 10376293541461622784 := by
          rw [hs]
          exact Nat.le_trans (Nat.mul_le_mul (show xs D m ≤ 9 by omega) HP.out) (by decide)
        have hsh : IntKind.u64.wrap (((cc : Int) - 48) * 2 ^ k) = (s : Int) := by
          have e : ((cc : Int) - 48) * 2 ^ k = (s : Int) := by rw [hs, hxs]; push_cast [show 48 ≤ cc by omega]; rfl
          rw [e, IntKind.wrap_u64]; omega
        have ht0 : (0 : Int) ≤ t := by omega
        have ht8 : (t : Int) < 800 := by omega
        have hv0 : (0 : Int) ≤ v := by omega
        have hlc : lc D k (m + 1) = (y + s) / 10 := by rw [hy, hs]; rfl
        have hlo : lo D k m = (y + s) % 10 := by rw [hy, hs]; rfl
        have HLC := Lib.hid hlc
        have HLO := Lib.hid hlo
        have HV := Lib.hid hv
        have HRT := Lib.hid hrt
        clear ht hrt hv hvv hcc hy hs hxs hlc hlo HP
        by_cases hv8 : v < 800
        · have hv8' : (v : Int) < 800 := by omega
          have hdv := HDm.out.dig v hv8
          go_wp2_with fail
          have hset := HDm.out.setDig (i := v) hv8 ((y + s) % 10 + 48)
          rw [← HLO.out, HV.out, lsD_put D k N m (by omega) (by have := HV.out; omega), ← HV.out, HLO.out] at hset
          have e1 : ((y : Int) + s - 10 * (((y : Int) + s) / 10) + 48) = (((y + s) % 10 + 48 : Nat) : Int) := by omega
          rw [e1]
          refine ⟨⟨m + 1, by omega, ?_, ?_, ?_, hset, HKm.out.trans (Kin.set E v _ _)⟩, by simp [RowKit.intOf]⟩
          · have := HRT.out; congr 1; omega
          · have := HV.out; congr 1; omega
          · rw [HLC.out]; congr 1
        · have hv8' : (800 : Int) ≤ v := by omega
          have HTU := Lib.hid (show lt D k N (m + 1) = (lt D k N m || decide (lo D k m ≠ 0)) from by
            show (lt D k N m || (decide (800 ≤ N - 1 - m) && decide (lo D k m ≠ 0))) = _
            rw [← HV.out, show decide (800 ≤ v) = true from by simp; omega, Bool.true_and])
          by_cases hr0 : (y + s) % 10 = 0
          · have hr1 : (((y : Int) + s - 10 * (((y : Int) + s) / 10)) != 0) = false := by
              have : ((y : Int) + s - 10 * (((y : Int) + s) / 10)) = 0 := by omega
              rw [this]; rfl
            go_wp2_with fail
            have e := lsD_big D k N m (by omega) (by have := HV.out; omega) (lt D k N m) (by rw [HTU.out, HLO.out, hr0]; simp)
            refine ⟨⟨m + 1, by omega, ?_, ?_, ?_, by rw [← e]; exact HDm.out, HKm.out⟩, by simp [RowKit.intOf]⟩
            · have := HRT.out; congr 1; omega
            · have := HV.out; congr 1; omega
            · rw [HLC.out]; congr 1
          · have hr1 : (((y : Int) + s - 10 * (((y : Int) + s) / 10)) != 0) = true := by
              have : ((y : Int) + s - 10 * (((y : Int) + s) / 10)) = (((y + s) % 10 : Nat) : Int) := by omega
              rw [this]; simp; omega
            go_wp2_with fail
            have hset := HDm.out.setTr true
            rw [lsD_big D k N m (by omega) (by have := HV.out; omega) true (by rw [HTU.out, HLO.out]; simp [hr0])] at hset
            refine ⟨⟨m + 1, by omega, ?_, ?_, ?_, hset, HKm.out.trans (Kin.set E 803 _ _)⟩, by simp [RowKit.intOf]⟩
            · have := HRT.out; congr 1; omega
            · have := HV.out; congr 1; omega
            · rw [HLC.out]; congr 1
      · obtain rfl : m = n := by omega
        have hr0 : ((m : Int) - 1 - m) = -1 := by omega
        rw [hr0]
        have hvv : ((N : Int) - m) = (Δ : Int) := by omega
        rw [hvv]
        obtain ⟨y, hy⟩ : ∃ y, y = lc D k m := ⟨_, rfl⟩
        rw [← hy]
        rw [← hy] at hy1
        have hrel0 : ∃ e : Nat, e ≤ Δ ∧ Value.int .i64 (Δ : Nat) = .int .i64 ((Δ : Int) - e) ∧ Value.int .u64 (y : Nat) = .int .u64 (lc D k (m + e) : Nat) ∧ DecAt wr E (lsD D k N (m + e)) ∧ Kin E w wr :=
          ⟨0, Nat.zero_le _, by simp, by rw [hy]; rfl, HDm.out, HKm.out⟩
        have HREL := Lib.hid hrel0
        clear hrel0 hr0 hvv hy hfr htr hlt HDm HKm hnd
        go_wp2_with fail
        go_loopw [6, 7, 10, 11] (fun v u _q _m wr => ∃ e : Nat, e ≤ Δ ∧ v = .int .i64 ((Δ : Int) - e) ∧ u = .int .u64 (lc D k (m + e) : Nat) ∧ DecAt wr E (lsD D k N (m + e)) ∧ Kin E w wr) (fun v _ _ _ _ => (RowKit.intOf v).toNat)
        case atStart => exact HREL.out
        case round =>
          clear HREL hy1
          obtain ⟨e, he, rfl, rfl, hD, hK⟩ := hrel
          have hfr := hD.froz
          have HDm := Lib.hid hD
          have HKm := Lib.hid hK
          have hll := HLT.out (m + e)
          have hP : 2 ^ k ≤ 1152921504606846976 := Nat.le_trans (Nat.pow_le_pow_right (by decide) hk2) (by decide)
          have hnd : wr.cell? ⟨E, 800, none⟩ = some (.int .i64 (m : Nat)) := by rw [HN.out]; exact hD.nd
          have hdp : wr.cell? ⟨E, 801, none⟩ = some (.int .i64 D.dp) := hD.dp
          have hy1 : lc D k (m + e) < 1152921504606846976 := by omega
          clear hD hK hP hll
          by_cases hlt : e < Δ
          · have hy0 : 1 ≤ lc D k (m + e) := by rw [HN.out]; exact HPOS.out e hlt
            have hx : xs D (m + e) = 0 := by unfold xs; rw [if_neg (by have := HN.out; omega)]
            have hlc : lc D k (m + e + 1) = lc D k (m + e) / 10 := by
              show (lc D k (m + e) + xs D (m + e) * 2 ^ k) / 10 = _
              rw [hx, Nat.zero_mul]; rfl
            have hlo : lo D k (m + e) = lc D k (m + e) % 10 := by
              show (lc D k (m + e) + xs D (m + e) * 2 ^ k) % 10 = _
              rw [hx, Nat.zero_mul]; rfl
            obtain ⟨y, hy⟩ : ∃ y, y = lc D k (m + e) := ⟨_, rfl⟩
            rw [← hy] at hy1 hy0 hlc hlo ⊢
            obtain ⟨v, hv⟩ : ∃ v, v = Δ - 1 - e := ⟨_, rfl⟩
            have hvv : ((Δ : Int) - e) = (v : Int) + 1 := by omega
            rw [hvv]
            have hv0 : (0 : Int) ≤ v := by omega
            have hv8 : (v : Int) < 800 := by omega
            have hdv := HDm.out.dig v (by omega)
            have hy0' : (0 : Int) < y := by omega
            have HLC := Lib.hid hlc
            have HLO := Lib.hid hlo
            have HV := Lib.hid hv
            clear hx hlc hlo hy hv hvv
            go_wp2_with fail
            have hset := HDm.out.setDig (i := v) (by omega) (y % 10 + 48)
            have hvN : v = N - 1 - (m + e) := by have := HV.out; have := HNN.out; omega
            rw [← HLO.out, hvN, lsD_put D k N (m + e) (by have := HNN.out; omega) (by omega), ← hvN, HLO.out] at hset
            have e1 : ((y : Int) - 10 * ((y : Int) / 10) + 48) = ((y % 10 + 48 : Nat) : Int) := by omega
            rw [e1]
            refine ⟨⟨e + 1, by omega, ?_, ?_, hset, HKm.out.trans (Kin.set E v _ _)⟩, by simp [RowKit.intOf]⟩
            · have := HV.out; congr 1; omega
            · rw [show m + (e + 1) = m + e + 1 from rfl, HLC.out]; congr 1
          · obtain rfl : e = Δ := by omega
            have h0 : lc D k (m + e) = 0 := by rw [HN.out]; exact HE.out
            rw [h0]
            have hme : m + e = N := HNN.out.symm
            rw [hme] at HDm
            have hvv : ((e : Int) - e) = 0 := by omega
            rw [hvv]
            have hsp : ((m : Int) + e) = (N : Int) := by omega
            have HTM := Lib.hid (trim_dec E { lsD D k N N with nd := min N 800, dp := D.dp + (e : Nat) } (show min N 800 ≤ 800 by omega))
            clear h0 hme hvv hy1 hlt he
            by_cases hN8 : N < 800
            · have hN8' : ((m : Int) + e) < 800 := by omega
              have hs1 := HDm.out.setNd N
              have hs2 := hs1.setDp (D.dp + (e : Nat))
              have hs3 : DecAt ((wr.setCell ⟨E, 800, none⟩ (.int .i64 ((m : Int) + e))).setCell ⟨E, 801, none⟩ (.int .i64 (D.dp + (e : Nat)))) E { lsD D k N N with nd := min N 800, dp := D.dp + (e : Nat) } := by
                rw [Nat.min_eq_left (by omega), hsp]; exact hs2
              have HS := Lib.hid hs3
              clear hs1 hs2 hs3 hsp
              go_wp2_with (go_at_call 224; refine (HTM.out _ HS.out).mono ?_; rintro e w2 ⟨rfl, hD2, hK2⟩; have HD2 := Lib.hid hD2; have HK2 := Lib.hid hK2; clear hD2 hK2)
              go_end0
              exact ⟨rfl, HD2.out, HKm.out.trans ((Kin.set E 800 _ _).trans ((Kin.set E 801 _ _).trans HK2.out))⟩
            · have hN8' : 800 ≤ ((m : Int) + e) := by omega
              have hs1 := (HDm.out.setNd N).setNd 800
              have hs2 := hs1.setDp (D.dp + (e : Nat))
              have hs3 : DecAt (((wr.setCell ⟨E, 800, none⟩ (.int .i64 ((m : Int) + e))).setCell ⟨E, 800, none⟩ (.int .i64 800)).setCell ⟨E, 801, none⟩ (.int .i64 (D.dp + (e : Nat)))) E { lsD D k N N with nd := min N 800, dp := D.dp + (e : Nat) } := by
                rw [Nat.min_eq_right (by omega), hsp]; exact hs2
              have HS := Lib.hid hs3
              clear hs1 hs2 hs3 hsp
              go_wp2_with (go_at_call 224; refine (HTM.out _ HS.out).mono ?_; rintro e w2 ⟨rfl, hD2, hK2⟩; have HD2 := Lib.hid hD2; have HK2 := Lib.hid hK2; clear hD2 hK2)
              go_end0
              exact ⟨rfl, HD2.out, HKm.out.trans ((Kin.set E 800 _ _).trans ((Kin.set E 800 _ _).trans ((Kin.set E 801 _ _).trans HK2.out)))⟩

theorem lshift_ex (D : Dec) (k : Nat) (hk1 : 1 ≤ k) (hk2 : k ≤ 60) (hf : Fit D) (hp1 : -1000000 ≤ D.dp) (hp2 : D.dp ≤ 1000000) :
    ∃ (D' : Dec) (Δ : Nat), Δ ≤ 20 ∧ (Δ = 0 → D.d 0 < D'.d 0) ∧ Fit D' ∧ D'.dp = D.dp + (Δ : Nat) ∧ D'.neg = D.neg ∧
      ∀ (w : World) (E B : Nat), B ≤ E → Slow B w → DecAt w E D → Calls Tryz.prog 225 #[.pointer (some ⟨E, 0, none⟩), .int .u64 k] w fun e w' => e = .returned (.tuple #[]) ∧ DecAt w' E D' ∧ Kin E w w' := by
  obtain ⟨δ, c, hrow, hc⟩ := cheat_row k hk1 hk2
  obtain ⟨Δ, hΔ⟩ : ∃ Δ, Δ = dlt D δ c := ⟨_, rfl⟩
  obtain ⟨N, hN⟩ : ∃ N, N = D.nd + Δ := ⟨_, rfl⟩
  obtain ⟨hT1, hT2⟩ := dlt_ok hf hc
  rw [← hΔ] at hT1 hT2
  obtain ⟨f1, f2⟩ := lo_first hf hT1 hT2
  rw [← hN] at f1 f2
  have n1 := hf.n1
  have d0 := hf.d0
  have e0 : (lsD D k N N).d 0 = lo D k (N - 1) + 48 := by
    show (if N - N ≤ 0 ∧ 0 < N ∧ 0 < 800 then lo D k (N - 1 - 0) + 48 else D.d 0) = _
    rw [if_pos ⟨by omega, by omega, by omega⟩]; rfl
  obtain ⟨t1, t2, t3, t4, t5⟩ := trim_first (D := { lsD D k N N with nd := min N 800, dp := D.dp + (Δ : Nat) }) (show 1 ≤ min N 800 by omega) (show 49 ≤ (lsD D k N N).d 0 by rw [e0]; omega)
  have hΔ20 : Δ ≤ 20 := by
    have := hc.d20
    rw [hΔ]; unfold dlt; split <;> omega
  refine ⟨trimD { lsD D k N N with nd := min N 800, dp := D.dp + (Δ : Nat) }, Δ, hΔ20, ?_, ⟨t1, ?_, ?_, ?_⟩, t3, t5, fun w E B hB hs h => lshift_walk D k δ Δ N c hk1 hk2 hrow hc hf hΔ hN hp1 hp2 w E B hB hs h⟩
  · intro h
    rw [t4]
    show D.d 0 < (lsD D k N N).d 0
    rw [e0]
    have h1 := f2 h
    have h2 : (D.d 0 - 48) * 2 ≤ (D.d 0 - 48) * 2 ^ k := Nat.mul_le_mul_left _ (by
      have : (2 : Nat) ^ 1 ≤ 2 ^ k := Nat.pow_le_pow_right (by decide) hk1
      omega)
    omega
  · have : (trimD { lsD D k N N with nd := min N 800, dp := D.dp + (Δ : Nat) }).nd ≤ min N 800 := t2
    omega
  · intro j hj
    have hj2 : j < min N 800 := Nat.lt_of_lt_of_le hj t2
    rw [t4]
    show 48 ≤ (if N - N ≤ j ∧ j < N ∧ j < 800 then lo D k (N - 1 - j) + 48 else D.d j) ∧ (if N - N ≤ j ∧ j < N ∧ j < 800 then lo D k (N - 1 - j) + 48 else D.d j) ≤ 57
    rw [if_pos ⟨by omega, by omega, by omega⟩]
    have : lo D k (N - 1 - j) < 10 := Nat.mod_lt _ (by decide)
    exact ⟨Nat.le_add_left _ _, by omega⟩
  · rw [t4]
    show 49 ≤ (lsD D k N N).d 0
    rw [e0]; omega
end Go.Proofs.YtlmogijkkhdogaaGreatDoor
