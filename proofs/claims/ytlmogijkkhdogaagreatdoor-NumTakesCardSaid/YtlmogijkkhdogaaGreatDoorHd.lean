/- strconv's prefixIsLessThan, shouldRoundUp, RoundedInteger: what they answer hangs on the decimal alone. -/
import Derived.Test.YtlmogijkkhdogaaGreatDoorHc
namespace Go.Proofs.YtlmogijkkhdogaaGreatDoor
open Go.RowKit
set_option maxRecDepth 100000

def preL (d : Nat → Nat) (n : Nat) : List UInt8 → Nat → Bool
  | [], _ => false
  | x :: c, i => if n ≤ i then true else if d i = x.toNat then preL d n c (i + 1) else decide (d i < x.toNat)

theorem pre_any (E : Nat) (D : Dec) (n cap : Nat) (hn : n ≤ 800) (c : List UInt8) (hc : c.length ≤ 1000) (w : World) (h : DecAt w E D) :
    Calls Tryz.prog 263 #[.slice (some ⟨E, 0, none⟩) n cap, .string ⟨c.toArray⟩] w fun e w' => e = .returned (.bool (preL D.d n c 0)) ∧ ∃ m, w' = w.drewN m := by
  have H := Lib.hid h
  clear h
  go_enter Tryz.func263, Tryz.ntmps263
  go_wp2_with fail
  go_loopw [5] (fun u wr => ∃ i m : Nat, i ≤ c.length ∧ u = .int .i64 i ∧ preL D.d n c 0 = preL D.d n (c.drop i) i ∧ wr = w.drewN m) (fun u _ => c.length - (RowKit.intOf u).toNat)
  case atStart => exact ⟨0, 0, Nat.zero_le _, rfl, rfl, rfl⟩
  case round =>
    obtain ⟨i, m, hi, rfl, hp, rfl⟩ := hrel
    have HP := Lib.hid hp
    clear hp
    by_cases hlt : i < c.length
    · have hk0 : (0 : Int) ≤ (i : Int) := Int.natCast_nonneg _
      have hk1 : (i : Int) ≤ (c.length : Int) := by omega
      have hsz : i < (⟨c.toArray⟩ : ByteArray).size := hlt
      have hdr : c.drop i = c[i] :: c.drop (i + 1) := List.drop_eq_getElem_cons hlt
      by_cases hni : n ≤ i
      · have e1 : preL D.d n c 0 = true := by rw [HP.out, hdr]; exact if_pos hni
        have E1 := Lib.hid e1
        have hni' : (n : Int) ≤ (i : Int) := by omega
        clear hdr e1
        go_wp2_with fail
        refine bodyPost_ret (v := .bool true) (by simp [results, Tryz.results263, go_sem]) rfl ?_
        exact ⟨by rw [E1.out], m, rfl⟩
      · have hni' : (i : Int) < (n : Int) := by omega
        have hdig := H.out.dig i (by omega)
        by_cases hdc : D.d i = (c[i]).toNat
        · have e1 : preL D.d n c 0 = preL D.d n (c.drop (i + 1)) (i + 1) := by rw [HP.out, hdr]; exact (if_neg hni).trans (if_pos hdc)
          have E1 := Lib.hid e1
          have hv : ((D.d i : Nat) : Int) = (((⟨c.toArray⟩ : ByteArray)[i]'hsz).toNat : Int) := by rw [hdc]; rfl
          rw [hv] at hdig
          clear hdr e1 hv hdc
          go_wp2_with fail
          go_quiet (fail)
          go_wp2_with fail
          go_roundw
          case rel => exact ⟨i + 1, m + nq, hlt, by go_num, E1.out, rfl⟩
          case measure => simp [RowKit.intOf]; omega
        · have e1 : preL D.d n c 0 = decide (D.d i < (c[i]).toNat) := by rw [HP.out, hdr]; exact (if_neg hni).trans (if_neg hdc)
          have E1 := Lib.hid e1
          have hv : (((D.d i : Nat) : Int) == (((⟨c.toArray⟩ : ByteArray)[i]'hsz).toNat : Int)) = false := by
            simp only [beq_eq_false_iff_ne, ne_eq]
            intro h
            apply hdc
            have h2 : ((c[i]).toNat : Int) = (((⟨c.toArray⟩ : ByteArray)[i]'hsz).toNat : Int) := rfl
            omega
          clear hdr e1 hdc
          go_wp2_with fail
          go_quiet (fail)
          go_wp2_with fail
          go_quiet (fail)
          go_wp2_with fail
          refine bodyPost_ret (v := .bool (decide (D.d i < (c[i]).toNat))) (by simp [results, Tryz.results263, go_sem]; rfl) rfl ?_
          exact ⟨by rw [E1.out], _, by rw [World.drewN_drewN, World.drewN_drewN]⟩
    · have e1 : preL D.d n c 0 = false := by rw [HP.out, List.drop_eq_nil_of_le (by omega)]; rfl
      have E1 := Lib.hid e1
      have hk1 : (c.length : Int) ≤ (i : Int) := by omega
      clear e1
      go_wp2_with fail
      refine bodyPost_ret (v := .bool false) (by simp [results, Tryz.results263, go_sem]) rfl ?_
      exact ⟨by rw [E1.out], m, rfl⟩

def DigOk (D : Dec) : Prop := ∀ i, i < D.nd → 48 ≤ D.d i ∧ D.d i ≤ 57

theorem sru_ex (D : Dec) (hn : D.nd ≤ 800) (hd : DigOk D) (p : Int) (hp1 : -1000000 ≤ p) (hp2 : p ≤ 1000) :
    ∃ b : Bool, ∀ (w : World) (E : Nat), DecAt w E D → Calls Tryz.prog 227 #[.pointer (some ⟨E, 0, none⟩), .int .i64 p] w fun e w' => e = .returned (.bool b) ∧ w' = w := by
  by_cases h0 : p < 0
  · refine ⟨false, fun w E h => ?_⟩
    have hnd := h.nd
    clear h hd
    go_enter Tryz.func227, Tryz.ntmps227
    go_wp2_with fail
    go_ret
    exact ⟨rfl, rfl⟩
  · obtain ⟨q, rfl⟩ : ∃ q : Nat, p = q := ⟨p.toNat, by omega⟩
    clear h0 hp1
    have hq0 : (0 : Int) ≤ q := by omega
    by_cases h1 : D.nd ≤ q
    · refine ⟨false, fun w E h => ?_⟩
      have hnd := h.nd
      have h1' : (D.nd : Int) ≤ q := by omega
      clear h hd
      go_enter Tryz.func227, Tryz.ntmps227
      go_wp2_with fail
      go_ret
      exact ⟨rfl, rfl⟩
    · have h1' : (q : Int) < D.nd := by omega
      have hq8 : (q : Int) < 800 := by omega
      have hdq := hd q (by omega)
      obtain ⟨x, hx⟩ : ∃ x, x = D.d q := ⟨_, rfl⟩
      obtain ⟨nn, hnn⟩ : ∃ nn, nn = D.nd := ⟨_, rfl⟩
      rw [← hx] at hdq
      rw [← hnn] at h1 h1' hn
      have HX := Lib.hid hx
      have HNN := Lib.hid hnn
      clear hx hnn
      by_cases h2 : x = 53 ∧ q + 1 = nn
      · obtain ⟨rfl, h3⟩ := h2
        by_cases ht : D.tr = true
        · refine ⟨true, fun w E h => ?_⟩
          have hnd := h.nd
          have htr := h.tr
          have hdg := h.dig q (by omega)
          rw [← HX.out] at hdg
          rw [← HNN.out, ← h3] at hnd
          rw [ht] at htr
          subst h3
          clear h hd hdq ht HX HNN h1 h1'
          go_enter Tryz.func227, Tryz.ntmps227
          go_wp2_with fail
          go_ret
          exact ⟨rfl, rfl⟩
        · have ht' : D.tr = false := by simpa using ht
          clear ht
          cases q with
          | zero =>
            refine ⟨false, fun w E h => ?_⟩
            have hnd := h.nd
            have htr := h.tr
            have hdg := h.dig 0 (by omega)
            rw [← HX.out] at hdg
            rw [← HNN.out, ← h3] at hnd
            rw [ht'] at htr
            subst h3
            clear h hd hdq ht' HX HNN h1 h1'
            go_enter Tryz.func227, Tryz.ntmps227
            go_wp2_with fail
            go_ret
            exact ⟨rfl, rfl⟩
          | succ q =>
            have hy := hd q (by have := HNN.out; omega)
            obtain ⟨y, hyy⟩ : ∃ y, y = D.d q := ⟨_, rfl⟩
            rw [← hyy] at hy
            have HY := Lib.hid hyy
            clear hyy
            refine ⟨((y : Int) - 48) % 2 != 0, fun w E h => ?_⟩
            have hnd := h.nd
            have htr := h.tr
            have hdg := h.dig (q + 1) (by omega)
            have hdy := h.dig q (by omega)
            rw [← HX.out] at hdg
            rw [← HY.out] at hdy
            rw [← HNN.out, ← h3] at hnd
            rw [ht'] at htr
            subst h3
            clear h hd hdq ht' HX HNN h1 h1' HY
            go_enter Tryz.func227, Tryz.ntmps227
            go_wp2_with fail
            go_ret
            exact ⟨rfl, rfl⟩
      · by_cases h4 : x = 53
        · have h5 : ¬ q + 1 = nn := fun h => h2 ⟨h4, h⟩
          have h5' : (((q : Int) + 1) == (nn : Int)) = false := by simp; omega
          refine ⟨true, fun w E h => ?_⟩
          have hnd := h.nd
          have hdg := h.dig q (by omega)
          rw [← HX.out, h4] at hdg
          rw [← HNN.out] at hnd
          clear h hd hdq HX HNN h1 h2 h4 h5
          go_enter Tryz.func227, Tryz.ntmps227
          go_wp2_with fail
          go_ret
          exact ⟨rfl, rfl⟩
        · have h4' : ((x : Int) == 53) = false := by simp; omega
          refine ⟨decide (53 ≤ (x : Int)), fun w E h => ?_⟩
          have hnd := h.nd
          have hdg := h.dig q (by omega)
          rw [← HX.out] at hdg
          rw [← HNN.out] at hnd
          clear h hd hdq HX HNN h1 h2 h4
          go_enter Tryz.func227, Tryz.ntmps227
          go_wp2_with fail
          go_ret
          exact ⟨rfl, rfl⟩

def ri (d : Nat → Nat) : Nat → Nat
  | 0 => 0
  | k + 1 => (ri d k * 10 % 18446744073709551616 + (d k - 48)) % 18446744073709551616
def rz (n : Nat) : Nat → Nat
  | 0 => n
  | k + 1 => rz n k * 10 % 18446744073709551616
theorem ri_lt (d : Nat → Nat) (k : Nat) : ri d k < 18446744073709551616 := by
  cases k with
  | zero => exact (by decide : (0 : Nat) < 18446744073709551616)
  | succ k => exact Nat.mod_lt _ (by decide)
theorem rz_lt (n : Nat) (h : n < 18446744073709551616) (k : Nat) : rz n k < 18446744073709551616 := by
  cases k with
  | zero => exact h
  | succ k => exact Nat.mod_lt _ (by decide)

theorem rint_ex (D : Dec) (hn : D.nd ≤ 800) (hd : DigOk D) (hp1 : -1000000 ≤ D.dp) (hp2 : D.dp ≤ 1000) :
    ∃ m : Nat, m < 18446744073709551616 ∧ ∀ (w : World) (E : Nat), DecAt w E D → Calls Tryz.prog 268 #[.pointer (some ⟨E, 0, none⟩)] w fun e w' => e = .returned (.int .u64 m) ∧ w' = w := by
  by_cases h0 : 20 < D.dp
  · refine ⟨18446744073709551615, by decide, fun w E h => ?_⟩
    have hdp := h.dp
    clear h hd
    go_enter Tryz.func268, Tryz.ntmps268
    go_wp2_with fail
    go_ret
    exact ⟨rfl, rfl⟩
  · obtain ⟨up, hup⟩ := sru_ex D hn hd D.dp hp1 hp2
    obtain ⟨p, hp⟩ : ∃ p, p = D.dp := ⟨_, rfl⟩
    obtain ⟨n, hnn⟩ : ∃ n, n = D.nd := ⟨_, rfl⟩
    rw [← hp] at hp1 hp2 h0
    rw [← hnn] at hn
    have h0' : p ≤ 20 := by omega
    have HNN := Lib.hid hnn
    have HP := Lib.hid hp
    have HUP := Lib.hid hup
    clear hup hnn hp h0
    obtain ⟨K, hK⟩ : ∃ K : Nat, K = min p.toNat n := ⟨_, rfl⟩
    obtain ⟨r, hr, er⟩ := wrapN ((rz (ri D.d K) (p.toNat - K) : Nat) + 1 : Int)
    obtain ⟨M, hM⟩ : ∃ M, M = if up then r else rz (ri D.d K) (p.toNat - K) := ⟨_, rfl⟩
    have hMl : M < 18446744073709551616 := by
      rw [hM]
      split
      · exact hr
      · exact rz_lt _ (ri_lt _ _) _
    refine ⟨M, hMl, fun w E h => ?_⟩
    have HM := Lib.hid hM
    clear hM
    have HK := Lib.hid hK
    have HER := Lib.hid er
    have HR := Lib.hid hr
    have HD := Lib.hid hd
    have H := Lib.hid h
    have hnd := h.nd
    have hdp := h.dp
    rw [← HNN.out] at hnd
    rw [← HP.out] at hdp
    clear hK er hr hd h
    go_enter Tryz.func268, Tryz.ntmps268
    go_wp2_with fail
    go_loop [3, 4] (fun i u => ∃ k : Nat, k ≤ K ∧ i = .int .i64 k ∧ u = .int .u64 (ri D.d k : Nat)) (fun i _ => K - (RowKit.intOf i).toNat)
    case atStart => exact ⟨0, Nat.zero_le _, rfl, rfl⟩
    case round =>
      obtain ⟨k, hk, rfl, rfl⟩ := hrel
      have hk0 : (0 : Int) ≤ k := by omega
      by_cases hlt : k < K
      · have hKK := HK.out
        have hk1 : (k : Int) < p := by omega
        have hk2 : (k : Int) < n := by omega
        have hk8 : (k : Int) < 800 := by omega
        have hdg := H.out.dig k (by omega)
        have hdk := HD.out k (by have := HNN.out; omega)
        obtain ⟨x, hx⟩ : ∃ x, x = D.d k := ⟨_, rfl⟩
        rw [← hx] at hdg hdk
        have hru : ri D.d (k + 1) = (ri D.d k * 10 % 18446744073709551616 + (x - 48)) % 18446744073709551616 := by rw [hx]; rfl
        obtain ⟨y, hy⟩ : ∃ y, y = ri D.d k := ⟨_, rfl⟩
        rw [← hy] at hru ⊢
        have hy1 : y < 18446744073709551616 := by rw [hy]; exact ri_lt _ _
        obtain ⟨z, hz, ez⟩ := wrapN ((y : Int) * 10)
        obtain ⟨t, ht, et⟩ := wrapN ((z : Int) + ((x : Int) - 48))
        have ht2 : ri D.d (k + 1) = t := by
          rw [hru]
          rw [IntKind.wrap_u64] at ez et
          omega
        have HT := Lib.hid ht2
        have HY := Lib.hid hy
        clear hru hx hKK ht2 hy
        go_wp2_with fail
        exact ⟨⟨k + 1, by omega, by go_num, by rw [HT.out]⟩, by simp [RowKit.intOf]; omega⟩
      · have hkK : k = K := by omega
        subst hkK
        clear hlt hk
        have hend : p ≤ k ∨ ((k : Int) < p ∧ n ≤ k) := by have := HK.out; omega
        obtain ⟨J, hJ⟩ : ∃ J, J = p.toNat - k := ⟨_, rfl⟩
        have HJ := Lib.hid hJ
        rw [← hJ] at HER HM
        obtain ⟨y0, hy0⟩ : ∃ y0, y0 = ri D.d k := ⟨_, rfl⟩
        rw [← hy0] at HER HM
        rw [← hy0]
        have hy01 : y0 < 18446744073709551616 := by rw [hy0]; exact ri_lt _ _
        clear hJ hy0
        have hpk : p ≤ k + J := by have := HJ.out; omega
        have HLE := Lib.hid (show ∀ j : Nat, (j : Int) + k < p ↔ j < J by intro j; have := HJ.out; omega)
        have step : ∀ W : World → Prop, True := fun _ => trivial
        clear step
        rcases hend with he | he
        all_goals (
          go_wp2_with fail
          go_loop [3, 4] (fun i u => ∃ j : Nat, j ≤ J ∧ i = .int .i64 (k + j : Nat) ∧ u = .int .u64 (rz y0 j : Nat)) (fun i _ => k + J - (RowKit.intOf i).toNat)
          case atStart => exact ⟨0, Nat.zero_le _, rfl, rfl⟩
          case round =>
            obtain ⟨j, hj, rfl, rfl⟩ := hrel
            have hk0 : (0 : Int) ≤ ((k + j : Nat) : Int) := by omega
            by_cases hlt : j < J
            · have hk1 : ((k + j : Nat) : Int) < p := by have := (HLE.out j).2 hlt; omega
              obtain ⟨y, hy⟩ : ∃ y, y = rz y0 j := ⟨_, rfl⟩
              rw [← hy]
              obtain ⟨z, hz, ez⟩ := wrapN ((y : Int) * 10)
              have ht2 : rz y0 (j + 1) = z := by
                rw [show rz y0 (j + 1) = rz y0 j * 10 % 18446744073709551616 from rfl, ← hy]
                rw [IntKind.wrap_u64] at ez
                omega
              have HT := Lib.hid ht2
              clear ht2 hy
              obtain ⟨kj, hkj⟩ : ∃ kj, kj = k + j := ⟨_, rfl⟩
              have HKJ := Lib.hid hkj
              rw [← hkj] at hk0 hk1 ⊢
              clear hkj
              go_wp2_with fail
              have e1 := HKJ.out
              exact ⟨⟨j + 1, by omega, by rw [e1]; go_num, by rw [HT.out]⟩, by simp [RowKit.intOf]; omega⟩
            · have hjJ : j = J := by omega
              subst hjJ
              have hk1 : p ≤ ((k + j : Nat) : Int) := by omega
              obtain ⟨kj, hkj⟩ : ∃ kj, kj = k + j := ⟨_, rfl⟩
              rw [← hkj] at hk0 hk1 ⊢
              clear hkj he
              have hU := HUP.out w E H.out
              rw [← HP.out] at hU
              have HU := Lib.hid hU
              clear hU hlt hj hpk
              have er := HER.out
              obtain ⟨y, hy⟩ : ∃ y, y = rz y0 j := ⟨_, rfl⟩
              have hm := HM.out
              rw [← hy] at er hm ⊢
              clear hy HER
              cases up with
              | true =>
                obtain rfl : M = r := hm
                go_wp2_with (go_at_call 227; refine HU.out.mono ?_; rintro e w' ⟨rfl, rfl⟩)
                go_ret
                exact ⟨rfl, rfl⟩
              | false =>
                obtain rfl : M = y := hm
                go_wp2_with (go_at_call 227; refine HU.out.mono ?_; rintro e w' ⟨rfl, rfl⟩)
                go_ret
                exact ⟨rfl, rfl⟩)
end Go.Proofs.YtlmogijkkhdogaaGreatDoor
