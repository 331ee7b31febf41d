/- strconv's numDigits at any number, setDigits: the figures of a number, without noughts behind. -/
import Derived.Test.YtlmogijkkhdogaaGreatDoorGd
namespace Go.Proofs.YtlmogijkkhdogaaGreatDoor
open Go.RowKit Go.Lib Go.Sort
set_option maxRecDepth 100000

def figL (d : Nat) : List UInt8 := if d = 0 then [] else decDigits d
theorem figL_len {d : Nat} (h : d < 18446744073709551616) : (figL d).length ≤ 20 := by
  unfold figL
  split
  · simp
  · rename_i h0
    rw [decDigits_length]
    have := numDigits_eq d (by omega) h
    split at this <;> omega
theorem figL_lt (d : Nat) : d < 10 ^ (figL d).length := by
  unfold figL
  split
  · rename_i h; subst h; decide
  · rw [decDigits_length]; exact lt_pow_nDigits d

theorem numDig_any (d : Nat) (h : d < 18446744073709551616) (w : World) (hg : Glob w) : Calls Tryz.prog 114 #[.int .u64 d] w fun e w' => e = .returned (.int .i64 ((figL d).length : Nat)) ∧ w' = w := by
  by_cases h0 : d = 0
  · subst h0
    have hc : w.cell? ⟨1, 0, none⟩ = some (.int .u64 1) := by
      have := TabIs.cell hg.pow gPow 0 (by decide)
      rw [this]; rfl
    clear h
    go_enter Tryz.func114, Tryz.ntmps114
    go_wp2_with (first | (go_at_call 160; refine (Tryz.bits_Len64 0 _ (by decide) (by decide)).mono ?_; rintro e w' ⟨rfl, rfl⟩) | (go_at_call 159; refine (log10_any 0 (by decide) (by decide) _).mono ?_; rintro e w' ⟨rfl, rfl⟩) | (go_at_call 161; refine (Tryz.internal_strconv_bool2_int _ _).mono ?_; rintro e w' ⟨rfl, rfl⟩))
    go_ret
    exact ⟨rfl, rfl⟩
  · refine (Tryz.internal_strconv_numDigits d (by omega) h w hg.pow).mono fun e w' h => ⟨?_, h.2⟩
    rw [h.1]
    unfold figL
    rw [if_neg h0, decDigits_length]

/-- how many figures are left, noughts behind struck. -/
def trimN (l : List UInt8) : Nat → Nat
  | 0 => 0
  | k + 1 => if l[k]? = some 48 then trimN l k else k + 1
theorem trimN_le (l : List UInt8) : ∀ k, trimN l k ≤ k
  | 0 => Nat.le_refl _
  | k + 1 => by unfold trimN; split; · exact Nat.le_succ_of_le (trimN_le l k)
                · exact Nat.le_refl _
def figT (d : Nat) : List UInt8 := (figL d).take (trimN (figL d) (figL d).length)

def zeros32 : Array Value := Array.replicate 32 (.int .u8 0)
theorem holds32 (w : World) (bb nd : Nat) (h : w.heap[bb]? = some (.cells zeros32 202 (0, 0))) (hn : nd ≤ 32) : Holds (fun (b : UInt8) => Value.int .u8 (b.toNat : Int)) w bb 0 (Array.replicate nd (0 : UInt8)) := by
  intro j hj
  have hj' : j < nd := by simpa using hj
  refine ⟨?_, ?_⟩
  · unfold World.cell?
    rw [h, getElem!_pos _ j hj]
    simp [zeros32, Array.getElem?_replicate]
    omega
  · simp [World.frozen?, h]
theorem putRow_heap (w : World) (bb : Nat) (dk : Array UInt8) (h : w.heap[bb]? = some (.cells zeros32 202 (0, 0))) : ∃ C : Array Value, (Go.Sort.putRow (fun (b : UInt8) => Value.int .u8 (b.toNat : Int)) w bb 0 dk).heap[bb]? = some (.cells C 202 (0, 0)) := by
  refine ⟨Go.Sort.putCells (fun (b : UInt8) => Value.int .u8 (b.toNat : Int)) 0 dk zeros32, ?_⟩
  simp only [Go.Sort.putRow, Go.Sort.mapBlock, Array.getElem?_modify, if_true, h, Option.map_some]
  rfl
theorem putRow_below (w : World) (bb : Nat) (dk : Array UInt8) : Below bb w (Go.Sort.putRow (fun (b : UInt8) => Value.int .u8 (b.toNat : Int)) w bb 0 dk) := by
  refine ⟨rfl, rfl, rfl, by simp [Go.Sort.putRow, Go.Sort.mapBlock], fun k hk => ?_⟩
  simp only [Go.Sort.putRow, Go.Sort.mapBlock, Array.getElem?_modify]
  rw [if_neg (by omega)]
theorem below_drews {B : Nat} {w W : World} (h : Below B w W) (n : Nat) : Below B w (W.drewN n) := ⟨h.os, h.tape, h.output, h.size, h.block⟩

theorem setDigits_any (bb d : Nat) (p : Int) (hd : d < 18446744073709551616) (hp1 : -1000 ≤ p) (hp2 : p ≤ 1000) (w : World) (h : w.heap[bb]? = some (.cells zeros32 202 (0, 0))) :
    Calls Tryz.prog 170 #[.slice (some ⟨bb, 0, none⟩) 32 32, .int .u64 d, .int .i64 p, .int .i64 ((figL d).length : Nat)] w fun e w' =>
      e = .returned (.tuple #[.int .i64 (((figL d).length : Nat) + p), .int .i64 ((figT d).length : Nat)]) ∧ Below bb w w' ∧
      ∃ C : Array Value, w'.heap[bb]? = some (.cells C 202 (0, 0)) ∧ ∀ j : Nat, ∀ hj : j < (figT d).length, C[j]? = some (.int .u8 ((figT d)[j].toNat : Int)) := by
  have hl := figL_len hd
  have hf := Tryz.internal_strconv_formatBase10 bb 0 32 d (Array.replicate (figL d).length 0) w (holds32 w bb _ h (by omega)) (by rw [Array.size_replicate]; exact figL_lt d) hd (by rw [Array.size_replicate]; omega)
  rw [Array.size_replicate] at hf
  have HF := Lib.hid hf
  have HH := Lib.hid h
  have HO := Lib.hid (holds32 w bb (figL d).length h (by omega))
  clear hf h
  have hL : ∃ L, L = (figL d).length := ⟨_, rfl⟩
  obtain ⟨L, hL⟩ := hL
  rw [← hL]
  rw [← hL] at hl HF HO
  have hl1 : (L : Int) ≤ 32 := by omega
  have hl0 : (0 : Int) ≤ (L : Int) := by omega
  have HL := Lib.hid hL
  clear hL
  go_enter Tryz.func170, Tryz.ntmps170
  go_wp2_with (go_at_call 115; refine HF.out.mono ?_; rintro e w1 ⟨rfl, k, v', dk, rfl, hF⟩)
  obtain ⟨C, hC⟩ := putRow_heap w bb dk HH.out
  have hcells : ∀ j : Nat, ∀ hj : j < (figL d).length, C[j]? = some (.int .u8 ((figL d)[j].toNat : Int)) := by
    intro j hj
    have h0 : d ≠ 0 := by intro h0; subst h0; simp [figL] at hj
    have e : figL d = decDigits d := by unfold figL; rw [if_neg h0]
    have hn : L = nDigits d := by rw [HL.out, e, decDigits_length]
    have hF' : FmtInv (nDigits d) d 0 v' dk := by rw [← hn]; exact hF
    have hj' : j < (decDigits d).length := by rw [← e]; exact hj
    have c1 := cell?_putRow (fun (b : UInt8) => Value.int .u8 (b.toNat : Int)) w bb 0 _ dk HO.out (by rw [hF.size, Array.size_replicate]) j (by rw [hF.size, hn]; rw [decDigits_length] at hj'; exact hj')
    rw [Nat.zero_add] at c1
    unfold World.cell? at c1
    rw [hC] at c1
    simp only at c1
    have e2 : (figL d)[j] = (decDigits d)[j] := by simp only [e]
    rw [e2, row_is_numeral hF' j hj']
    exact c1
  have hbel : Below bb w ((putRow (fun (b : UInt8) => Value.int .u8 (b.toNat : Int)) w bb 0 dk).drewN k) := below_drewN (putRow_below w bb dk) k
  have hC2 : ((putRow (fun (b : UInt8) => Value.int .u8 (b.toNat : Int)) w bb 0 dk).drewN k).heap[bb]? = some (.cells C 202 (0, 0)) := hC
  generalize ((putRow (fun (b : UInt8) => Value.int .u8 (b.toNat : Int)) w bb 0 dk).drewN k) = W1 at *
  have HC := Lib.hid hC2
  have HB := Lib.hid hbel
  have HCL := Lib.hid hcells
  clear hC hC2 hbel hcells hF HF HO HH
  go_loop [3] (fun u => ∃ j : Nat, j ≤ L ∧ u = .int .i64 j ∧ trimN (figL d) L = trimN (figL d) j) (fun u => (RowKit.intOf u).toNat)
  case atStart => exact ⟨L, Nat.le_refl _, rfl, rfl⟩
  case round =>
    obtain ⟨j, hj, rfl, htr⟩ := hrel
    have HT := Lib.hid htr
    clear htr
    cases j with
    | zero =>
      go_wp2_with fail
      refine bodyPost_ret (v := .tuple #[.int .i64 ((L : Int) + p), .int .i64 0]) (by simp [results, Tryz.results170, go_sem]) rfl ?_
      have e0 : trimN (figL d) (figL d).length = 0 := by rw [← HL.out, HT.out]; rfl
      have e1 : (figT d).length = 0 := by unfold figT; rw [e0]; rfl
      refine ⟨by rw [e1]; rfl, HB.out, C, HC.out, fun i hi => ?_⟩
      exact absurd hi (by rw [e1]; omega)
    | succ j =>
      have hjl : j < (figL d).length := by rw [← HL.out]; exact hj
      have hcell : W1.cell? ⟨bb, j, none⟩ = some (.int .u8 ((figL d)[j].toNat : Int)) := by
        have e := HCL.out j hjl
        unfold World.cell?
        rw [HC.out]
        exact e
      have hj32 : (j : Int) < 32 := by omega
      by_cases h48 : (figL d)[j] = 48
      · have hv : (((figL d)[j].toNat : Nat) : Int) = 48 := by rw [h48]; rfl
        have hnx : trimN (figL d) (j + 1) = trimN (figL d) j := by
          show (if (figL d)[j]? = some 48 then _ else _) = _
          rw [List.getElem?_eq_getElem hjl, h48, if_pos rfl]
        have HN := Lib.hid hnx
        have HJ := Lib.hid hj
        clear h48 hnx
        rw [hv] at hcell
        clear hv
        go_wp2_with fail
        go_round
        case rel => exact ⟨j, by have := HJ.out; omega, by go_num, by rw [HT.out, HN.out]⟩
        case measure => simp [RowKit.intOf]
      · have hv : ((((figL d)[j].toNat : Nat) : Int) == 48) = false := by
          simp
          intro h
          exact h48 (UInt8.toNat_inj.1 (by rw [show (48 : UInt8).toNat = 48 from rfl]; omega))
        have hnx : trimN (figL d) (j + 1) = j + 1 := by
          show (if (figL d)[j]? = some 48 then _ else _) = _
          rw [List.getElem?_eq_getElem hjl, if_neg (by simpa using h48)]
        have HN := Lib.hid hnx
        have HJ := Lib.hid hj
        generalize (figL d)[j] = cc at *
        clear h48 hnx
        go_wp2_with fail
        refine bodyPost_ret (v := .tuple #[.int .i64 ((L : Int) + p), .int .i64 ((j : Int) + 1)]) (by simp [results, Tryz.results170, go_sem]) rfl ?_
        have e0 : trimN (figL d) (figL d).length = j + 1 := by rw [← HL.out, HT.out, HN.out]
        have hjj := HJ.out
        have e1 : (figT d).length = j + 1 := by unfold figT; rw [e0, List.length_take, ← HL.out]; omega
        refine ⟨by rw [e1]; rfl, HB.out, C, HC.out, fun i hi => ?_⟩
        have hi' : i < (figL d).length := by rw [← HL.out]; rw [e1] at hi; omega
        have e2 : (figT d)[i] = (figL d)[i] := by simp only [figT, List.getElem_take]
        rw [e2]
        exact HCL.out i hi'
end Go.Proofs.YtlmogijkkhdogaaGreatDoor
