/- strconv's pack64, parseFloat64: a float and an error that hang on the arguments alone; with an error the float is infinite. -/
import Derived.Test.YtlmogijkkhdogaaGreatDoorGb
namespace Go.Proofs.YtlmogijkkhdogaaGreatDoor
open Go.RowKit
set_option maxRecDepth 100000
attribute [local go_sem] run240

def errP (ok : Bool) : Value := if ok then .nilIface else .iface 158 (.int .i64 1)

theorem sign_inf (m : Nat) : ∃ v : Nat, v < 18446744073709551616 ∧ finf v = true ∧ bits .or .u64 (bits .and .u64 (m : Int) 9223372036854775808) 9218868437227405312 = (v : Int) := by
  have h1 : bits .and .u64 (m : Int) 9223372036854775808 = ((BitVec.ofNat 64 m &&& BitVec.ofNat 64 9223372036854775808).toNat : Int) := by
    refine bits64 .and m 9223372036854775808 _ ?_
    unfold bits
    simp only [IntKind.bits]
    rw [ofInt64, ofInt64]; rfl
  have h2 : BitVec.ofNat 64 m &&& BitVec.ofNat 64 9223372036854775808 = if (BitVec.ofNat 64 m).getLsbD 63 then BitVec.twoPow 64 63 else 0#64 := by
    rw [show BitVec.ofNat 64 9223372036854775808 = BitVec.twoPow 64 63 from by decide, BitVec.and_twoPow]
  rw [h1, h2]
  cases (BitVec.ofNat 64 m).getLsbD 63
  · exact ⟨9218868437227405312, by decide, by decide, by decide⟩
  · exact ⟨18442240474082181120, by decide, by decide, by decide⟩

theorem pack_ex (m : Nat) (hm : m < 18446744073709551616) (e : Int) (h1 : -3000 ≤ e) (h2 : e ≤ 3000) :
    ∃ (v : Nat) (ok : Bool), v < 18446744073709551616 ∧ (ok = false → finf v = true) ∧ ∀ w, Calls Tryz.prog 269 #[.int .u64 m, .int .i64 e] w fun r w' => r = .returned (.tuple #[.float .f64 v, errP ok]) ∧ w = w' := by
  by_cases c1 : (bits .and .u64 (m : Int) 4503599627370496 == 0) = true
  · refine ⟨m, true, hm, by simp, fun w => ?_⟩
    go_enter Tryz.func269, Tryz.ntmps269
    go_wp2_with fail
    refine bodyPost_ret (v := .tuple #[.float .f64 m, .nilIface]) (by simp [results, Tryz.results269, go_sem]) rfl ?_
    exact ⟨rfl, rfl⟩
  · have c1' : (bits .and .u64 (m : Int) 4503599627370496 == 0) = false := by simpa using c1
    clear c1
    by_cases c2 : 972 ≤ e
    · obtain ⟨v, hv, hf, ev⟩ := sign_inf m
      refine ⟨v, false, hv, fun _ => hf, fun w => ?_⟩
      go_enter Tryz.func269, Tryz.ntmps269
      go_wp2_with fail
      refine bodyPost_ret (v := .tuple #[.float .f64 v, .iface 158 (.int .i64 1)]) (by simp [results, Tryz.results269, go_sem]) rfl ?_
      exact ⟨rfl, rfl⟩
    · have c2' : e < 972 := by omega
      obtain ⟨a, ha, ea⟩ := bitsN .andNot (m : Int) 4503599627370496
      obtain ⟨b, hb, eb⟩ := wrapN (IntKind.u64.wrap (1075 + e) * 4503599627370496)
      obtain ⟨v, hv, ev⟩ := bitsN .or (a : Int) (b : Int)
      refine ⟨v, true, hv, by simp, fun w => ?_⟩
      go_enter Tryz.func269, Tryz.ntmps269
      go_wp2_with fail
      refine bodyPost_ret (v := .tuple #[.float .f64 v, .nilIface]) (by simp [results, Tryz.results269, go_sem]) rfl ?_
      exact ⟨rfl, rfl⟩

theorem unmin_any (w : World) : Calls Tryz.prog 222 #[.int .u64 9007199254740992] w fun r w' => r = .returned (.int .u64 36028797018963966) ∧ w = w' := by
  go_enter Tryz.func222, Tryz.ntmps222
  go_wp2_with fail
  go_ret
  exact ⟨rfl, rfl⟩
end Go.Proofs.YtlmogijkkhdogaaGreatDoor
