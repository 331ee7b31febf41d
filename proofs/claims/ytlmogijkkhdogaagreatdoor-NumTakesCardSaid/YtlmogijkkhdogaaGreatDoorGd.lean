/- strconv's fmtEFG at 'e': the text of figures and an exponent. -/
import Derived.Test.YtlmogijkkhdogaaGreatDoorGc
namespace Go.Proofs.YtlmogijkkhdogaaGreatDoor
open Go.RowKit
set_option maxRecDepth 100000

def expB (e : Nat) : List UInt8 :=
  if e < 10 then [48, UInt8.ofNat (e + 48)] else if e < 100 then [UInt8.ofNat (e / 10 + 48), UInt8.ofNat (e % 10 + 48)]
  else [UInt8.ofNat (e / 100 + 48), UInt8.ofNat (e / 10 % 10 + 48), UInt8.ofNat (e % 10 + 48)]
def efHead (neg : Bool) : List UInt8 := if neg then [45] else []
def efMid (ds : List UInt8) : List UInt8 := if 1 < ds.length then 46 :: ds.tail else []
def efExp (ds : List UInt8) (dp : Int) : Int := if ds.length = 0 then 0 else dp - 1
def efSign (x : Int) : UInt8 := if x < 0 then 45 else 43
def efgL (neg : Bool) (ds : List UInt8) (dp : Int) : List UInt8 :=
  efHead neg ++ [ds.headD 48] ++ efMid ds ++ [101] ++ [efSign (efExp ds dp)] ++ expB (efExp ds dp).natAbs

theorem buf_cells {B bb : Nat} {C : Array Value} {k : List UInt8} {v : Value} {w0 w : World} {ds : List UInt8} (h : EF B bb C k v w0 w) (hC : ∀ j : Nat, ∀ hj : j < ds.length, C[j]? = some (.int .u8 (ds[j].toNat : Int))) :
    ∀ j u, (Lib.byteCells ds.tail)[j]? = some u → w.cell? ((⟨bb, 1, none⟩ : Addr).add j) = some u := by
  intro j u hj
  have hjl : j < ds.tail.length := by
    have h5 := (List.getElem?_eq_some_iff.1 hj).1
    rwa [Lib.byteCells_length] at h5
  have hjl' : 1 + j < ds.length := by simp at hjl; omega
  have e : (Lib.byteCells ds.tail)[j]? = some (Value.int .u8 (ds[1 + j].toNat : Int)) := by
    simp only [Lib.byteCells, List.getElem?_map, List.getElem?_eq_getElem hjl, Option.map_some, List.getElem_tail, Nat.add_comm j 1]
  rw [e] at hj
  cases hj
  rw [Lib.add_plain]
  unfold World.cell?
  rw [h.buf]
  have e2 := hC (1 + j) hjl'
  simp only [e2]
  rfl
set_option maxHeartbeats 6400000 in
theorem efg_any (neg : Bool) (ds : List UInt8) (dp : Int) (hds : ds.length ≤ 20) (h1 : -500 ≤ dp) (h2 : dp ≤ 500) (B bb : Nat) (C : Array Value) (v : Value) (w : World) (h : EF B bb C [] v w w) (M : Nat) (hM : M = ds.length - 1)
    (hC : ∀ j : Nat, ∀ hj : j < ds.length, C[j]? = some (.int .u8 (ds[j].toNat : Int))) :
    Calls Tryz.prog 168 #[v, .bool neg, .slice (some ⟨bb, 0, none⟩) 32 32, .int .i64 dp, .int .i64 (ds.length : Nat), .int .i64 (M : Nat), .int .u8 101, .bool true] w fun e w' => ∃ v', e = .returned v' ∧ EF B bb C (efgL neg ds dp) v' w w' := by
  have H := Lib.hid h
  have HC := Lib.hid hC
  have HMM := Lib.hid hM
  clear h hC hM
  go_enter Tryz.func168, Tryz.ntmps168
  go_upto_if 78 with fail
  go_cut [0] from 79 to 81 (fun u wx => EF B bb C (efHead neg) u w wx)
  case first =>
    cases neg
    · go_wp2_with fail
      go_meet
      exact H.out
    · go_wp2_with (at_builtin; (refine ef_new H.out rfl _ _ rfl rfl [45] _ _ rfl _ rfl (by simp) ?_; intro v1 w1 hE))
      go_meet
      exact hE
  case rest =>
    have H1 := Lib.hid hcut
    clear hcut H
    have hh : (efHead neg).length ≤ 1 := by cases neg <;> simp [efHead]
    go_upto_if 83 with fail
    go_cut [19] from 84 to 86 (fun c wx => c = .int .u8 ((ds.headD 48).toNat : Int) ∧ EF B bb C (efHead neg) u0 w wx)
    case first =>
      cases ds with
      | nil =>
        go_wp2_with fail
        go_meet
        exact ⟨rfl, H1.out⟩
      | cons d ds =>
        have hcell : wc.cell? ⟨bb, 0, none⟩ = some (.int .u8 (d.toNat : Int)) := by
          have e := HC.out 0 (by simp)
          unfold World.cell?
          rw [H1.out.buf]
          simp only [e]
          rfl
        go_wp2_with fail
        go_meet
        exact ⟨rfl, H1.out⟩
    case rest =>
      clear H1
      obtain ⟨rfl, hE1⟩ := hcut
      have H1 := Lib.hid hE1
      clear hE1
      generalize hd : ds.headD 48 = d at *
      have HD := Lib.hid hd
      clear hd
      go_upto_if 92 with (at_builtin; (refine ef_new H1.out rfl _ _ rfl rfl [d] _ _ rfl _ rfl (by simp; omega) ?_; intro v2 w2 hE2))
      have H2 := Lib.hid hE2
      clear hE2 H1
      go_cut [0, 20, 21] from 92 to 119 (fun u _a _b wx => EF B bb C (efHead neg ++ [d] ++ efMid ds) u w wx)
      case first =>
        by_cases hl : 1 < ds.length
        · have hM0 := HMM.out
          have hM1 : (0 : Int) < (M : Int) := by omega
          have hM2 : (M : Int) + 1 = (ds.length : Int) := by omega
          have hmid : efMid ds = 46 :: ds.tail := if_pos hl
          have htl : ds.tail.length = M := by simp; omega
          have HMID := Lib.hid hmid
          have hMs := hM0.symm
          clear hmid hM0
          go_wp2_with (first
            | (at_builtin; (refine ef_new H2.out rfl _ _ rfl rfl [46] _ _ rfl _ rfl (by simp; omega) ?_; intro v3 w3 hE3; have H3 := Lib.hid hE3; clear hE3))
            | (at_builtin; (refine ef_app H3.out rfl _ _ rfl rfl ds.tail ⟨bb, 1, none⟩ 31 (by rw [htl]; rfl) (buf_cells H3.out HC.out) (by simp at htl ⊢; omega) ?_; intro v4 w4 hE4; have H4 := Lib.hid hE4; clear hE4)))
          go_loopw [0, 114, 115, 116, 117, 118, 119] (fun a b _c _d _e _f _g wr => a = v4 ∧ b = .int .i64 0 ∧ wr = w4) (fun _ _ _ _ _ _ _ _ => 0)
          case atStart => exact ⟨rfl, rfl, rfl⟩
          case round =>
            obtain ⟨rfl, rfl, rfl⟩ := hrel
            go_wp2_with fail
            go_meet
            rw [HMID.out]
            have e := H4.out
            simpa [List.append_assoc] using e
        · have hmid : efMid ds = [] := if_neg hl
          have hz : (M : Int) ≤ 0 := by have := HMM.out; omega
          have HMID := Lib.hid hmid
          clear hmid
          go_wp2_with fail
          go_meet
          rw [HMID.out, List.append_nil]
          exact H2.out
      case rest =>
        have H3 := Lib.hid hcut
        clear hcut H2
        have hm : (efMid ds).length ≤ 20 := by unfold efMid; split <;> simp <;> omega
        generalize hmd : efMid ds = mid at *
        have HMD := Lib.hid hmd
        clear hmd
        generalize hk : efHead neg ++ [d] ++ mid = k3 at H3
        have hk3 : k3.length ≤ 22 := by rw [← hk]; simp; omega
        have HK := Lib.hid hk
        clear hk
        go_upto_if 127 with (at_builtin; (refine ef_new H3.out rfl _ _ rfl rfl [101] _ _ rfl _ rfl (by simp; omega) ?_; intro v3 w3 hE3; have H4 := Lib.hid hE3; clear hE3))
        generalize hx : efExp ds dp = x
        have HX := Lib.hid hx
        go_cut [22] from 126 to 128 (fun a wx => a = .int .i64 x ∧ EF B bb C (k3 ++ [101]) v3 w wx)
        case first =>
          by_cases hl : ds.length = 0
          · have e : x = 0 := by rw [← hx]; exact if_pos hl
            subst e
            clear hx HX
            go_wp2_with fail
            go_meet
            exact ⟨rfl, H4.out⟩
          · have e : x = dp - 1 := by rw [← hx]; exact if_neg hl
            have hl2 : ((ds.length : Int) == 0) = false := by simp; exact fun h => hl (by simp [h])
            clear hx HX
            subst e
            go_wp2_with fail
            go_meet
            exact ⟨rfl, H4.out⟩
        case rest =>
          obtain ⟨rfl, hE4⟩ := hcut
          clear H4
          have H4 := Lib.hid hE4
          clear hE4
          have hx1 : -501 ≤ x := by rw [← hx]; unfold efExp; split <;> omega
          have hx2 : x ≤ 501 := by rw [← hx]; unfold efExp; split <;> omega
          clear hx
          go_upto_if 129 with fail
          go_cut [19, 22] from 129 to 131 (fun c a wx => c = .int .u8 ((efSign x).toNat : Int) ∧ a = .int .i64 (x.natAbs : Nat) ∧ EF B bb C (k3 ++ [101]) v3 w wx)
          case first =>
            by_cases hn : x < 0
            · have e : efSign x = 45 := if_pos hn
              have e2 : ((x.natAbs : Nat) : Int) = -x := by omega
              have E := Lib.hid e
              have E2 := Lib.hid e2
              clear e e2
              go_wp2_with fail
              go_meet
              exact ⟨by rw [E.out]; rfl, by rw [E2.out], H4.out⟩
            · have e : efSign x = 43 := if_neg hn
              have e2 : ((x.natAbs : Nat) : Int) = x := by omega
              have E := Lib.hid e
              have E2 := Lib.hid e2
              have hn' : 0 ≤ x := by omega
              clear e e2 hn
              go_wp2_with fail
              go_meet
              exact ⟨by rw [E.out]; rfl, by rw [E2.out], H4.out⟩
          case rest =>
            obtain ⟨rfl, rfl, hE4⟩ := hcut
            clear H4
            have H4 := Lib.hid hE4
            clear hE4
            generalize hsg : efSign x = sg at *
            generalize hy : x.natAbs = y at *
            have hy1 : y ≤ 501 := by omega
            have HSG := Lib.hid hsg
            have HY := Lib.hid hy
            clear hsg hy
            go_upto_block 3 with (at_builtin; (refine ef_new H4.out rfl _ _ rfl rfl [sg] _ _ rfl _ rfl (by simp; omega) ?_; intro v5 w5 hE5; have H5 := Lib.hid hE5; clear hE5))
            go_cut [0] from 136 to 174 (fun u wx => EF B bb C (k3 ++ [101] ++ [sg] ++ expB y) u w wx)
            case first =>
              by_cases q1 : y < 10
              · have e : expB y = [48, UInt8.ofNat (y + 48)] := if_pos q1
                have c1 : ((UInt8.ofNat (y + 48)).toNat : Int) = (y : Int) + 48 := by simp; omega
                have E := Lib.hid e
                have q1' : (y : Int) < 10 := by omega
                have q0 : (0 : Int) ≤ (y : Int) := by omega
                clear e q1
                go_wp2_with (at_builtin; (refine ef_new H5.out rfl _ _ rfl rfl [48, UInt8.ofNat (y + 48)] _ _ (by simp only [Lib.byteCells, List.map_cons, List.map_nil, c1]; rfl) _ rfl (by simp; omega) ?_; intro v6 w6 hE6; have H6 := Lib.hid hE6; clear hE6))
                go_meet
                rw [E.out]
                exact H6.out
              · by_cases q2 : y < 100
                · have e : expB y = [UInt8.ofNat (y / 10 + 48), UInt8.ofNat (y % 10 + 48)] := by unfold expB; rw [if_neg q1, if_pos q2]
                  have c1 : ((UInt8.ofNat (y / 10 + 48)).toNat : Int) = (y : Int) / 10 + 48 := by simp; omega
                  have c2 : ((UInt8.ofNat (y % 10 + 48)).toNat : Int) = (y : Int) % 10 + 48 := by simp; omega
                  have E := Lib.hid e
                  have q1' : (10 : Int) ≤ (y : Int) := by omega
                  have q2' : (y : Int) < 100 := by omega
                  have q3 : (y : Int) / 10 ≤ 10 := by omega
                  have q4 : (0 : Int) ≤ (y : Int) / 10 := by omega
                  have q5 : (y : Int) % 10 ≤ 9 := by omega
                  have q6 : (0 : Int) ≤ (y : Int) % 10 := by omega
                  clear e q1 q2
                  go_wp2_with (at_builtin; (refine ef_new H5.out rfl _ _ rfl rfl [UInt8.ofNat (y / 10 + 48), UInt8.ofNat (y % 10 + 48)] _ _ (by simp only [Lib.byteCells, List.map_cons, List.map_nil, c1, c2]) _ rfl (by simp; omega) ?_; intro v6 w6 hE6; have H6 := Lib.hid hE6; clear hE6))
                  go_meet
                  rw [E.out]
                  exact H6.out
                · have e : expB y = [UInt8.ofNat (y / 100 + 48), UInt8.ofNat (y / 10 % 10 + 48), UInt8.ofNat (y % 10 + 48)] := by unfold expB; rw [if_neg q1, if_neg q2]
                  have c1 : ((UInt8.ofNat (y / 100 + 48)).toNat : Int) = (y : Int) / 100 + 48 := by simp; omega
                  have c2 : ((UInt8.ofNat (y / 10 % 10 + 48)).toNat : Int) = (y : Int) / 10 % 10 + 48 := by simp; omega
                  have c3 : ((UInt8.ofNat (y % 10 + 48)).toNat : Int) = (y : Int) % 10 + 48 := by simp; omega
                  have E := Lib.hid e
                  have q1' : (100 : Int) ≤ (y : Int) := by omega
                  have q2' : (y : Int) ≤ 501 := by omega
                  have q3 : (y : Int) / 10 ≤ 60 := by omega
                  have q4 : (0 : Int) ≤ (y : Int) / 10 := by omega
                  have q5 : (y : Int) % 10 ≤ 9 := by omega
                  have q6 : (0 : Int) ≤ (y : Int) % 10 := by omega
                  have q7 : (y : Int) / 100 ≤ 6 := by omega
                  have q8 : (0 : Int) ≤ (y : Int) / 100 := by omega
                  have q9 : (0 : Int) ≤ (y : Int) / 10 % 10 := by omega
                  have q10 : (y : Int) / 10 % 10 ≤ 9 := by omega
                  clear e q1 q2
                  go_wp2_with (at_builtin; (refine ef_new H5.out rfl _ _ rfl rfl [UInt8.ofNat (y / 100 + 48), UInt8.ofNat (y / 10 % 10 + 48), UInt8.ofNat (y % 10 + 48)] _ _ (by simp only [Lib.byteCells, List.map_cons, List.map_nil, c1, c2, c3]) _ rfl (by simp; omega) ?_; intro v6 w6 hE6; have H6 := Lib.hid hE6; clear hE6))
                  go_meet
                  rw [E.out]
                  exact H6.out
            case rest =>
              go_wp2_with fail
              go_ret
              refine ⟨_, rfl, ?_⟩
              unfold efgL
              rw [HX.out, HD.out, HSG.out, HY.out, HMD.out, HK.out]
              exact hcut
end Go.Proofs.YtlmogijkkhdogaaGreatDoor
