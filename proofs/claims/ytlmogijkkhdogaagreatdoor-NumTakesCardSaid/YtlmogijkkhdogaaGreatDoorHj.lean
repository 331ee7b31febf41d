/- strconv's floatBits, walked. -/
import Derived.Test.YtlmogijkkhdogaaGreatDoorHi
namespace Go.Proofs.YtlmogijkkhdogaaGreatDoor
open Go.RowKit
set_option maxRecDepth 100000

/-- what the bits of (mantissa, exponent, sign) are. -/
structure OutB (m : Nat) (ex : Int) (neg : Bool) (a : Nat) (b : Int) (b2 b3 v1 v : Nat) : Prop where
  ea : bits .and .u64 (m : Int) 4503599627370495 = (a : Int)
  eb : bits .and .i64 (ex + 1023) 2047 = b
  eb2 : IntKind.u64.wrap b = (b2 : Int)
  eb3 : IntKind.u64.wrap ((b2 : Int) * 4503599627370496) = (b3 : Int)
  e1 : bits .or .u64 (a : Int) (b3 : Int) = (v1 : Int)
  ev : if neg then bits .or .u64 (v1 : Int) 9223372036854775808 = (v : Int) else v = v1
  lt : v < 18446744073709551616
theorem outB_ex (m : Nat) (ex : Int) (neg : Bool) : ∃ a b b2 b3 v1 v, OutB m ex neg a b b2 b3 v1 v := by
  obtain ⟨a, ha, ea⟩ := bitsN .and (m : Int) 4503599627370495
  obtain ⟨b2, hb2, eb2⟩ := wrapN (bits .and .i64 (ex + 1023) 2047)
  obtain ⟨b3, hb3, eb3⟩ := wrapN ((b2 : Int) * 4503599627370496)
  obtain ⟨v1, hv1, e1⟩ := bitsN .or (a : Int) (b3 : Int)
  obtain ⟨v2, hv2, e2⟩ := bitsN .or (v1 : Int) 9223372036854775808
  cases neg
  · exact ⟨a, _, b2, b3, v1, v1, ea, rfl, eb2, eb3, e1, by simp, hv1⟩
  · exact ⟨a, _, b2, b3, v1, v2, ea, rfl, eb2, eb3, e1, by simp [e2], hv2⟩
theorem outB_inf (neg : Bool) : ∃ a b b2 b3 v1 v, OutB 0 1024 neg a b b2 b3 v1 v ∧ finf v = true := by
  cases neg
  · exact ⟨0, 2047, 2047, 9218868437227405312, 9218868437227405312, 9218868437227405312, ⟨by decide, by decide, by decide, by decide, by decide, by decide, by decide⟩, by decide⟩
  · exact ⟨0, 2047, 2047, 9218868437227405312, 9218868437227405312, 18442240474082181120, ⟨by decide, by decide, by decide, by decide, by decide, by decide, by decide⟩, by decide⟩

theorem fbits_zero (D : Dec) (h0 : D.nd = 0) : ∃ (v : Nat), v < 18446744073709551616 ∧
      ∀ (w : World) (E B : Nat), B ≤ E → Slow B w → DecAt w E D → Calls Tryz.prog 238 #[.pointer (some ⟨E, 0, none⟩), .pointer (some ⟨6, 0, none⟩)] w fun e w' => e = .returned (.tuple #[.int .u64 v, .bool false]) ∧ Kin E w w' := by
  obtain ⟨a, b, b2, b3, v1, v, ⟨ea, eb, eb2, eb3, e1, ev, lt⟩⟩ := outB_ex 0 (-1023) D.neg
  refine ⟨v, lt, fun w E B hB hs h => ?_⟩
  have i0 := hs.inf0
  have i1 := hs.inf1
  have i2 := hs.inf2
  have hnd := h.nd
  have hdp := h.dp
  have hng := h.neg
  obtain ⟨ng, hgg⟩ : ∃ ng, ng = D.neg := ⟨_, rfl⟩
  rw [h0] at hnd
  rw [← hgg] at hng ev
  have EV := Lib.hid ev
  have ea' : bits .and .u64 0 4503599627370495 = (a : Int) := ea
  have eb' : bits .and .i64 0 2047 = b := eb
  clear h hs h0 ev ea eb hgg hdp
  go_enter Tryz.func238, Tryz.ntmps238
  go_wp2_with fail
  refine wp_scope_hop (r0 := ?r0) (r1 := ?r1) ?h0 ?h1 ?_
  case h0 => rfl
  case h1 => rfl
  go_wp2_with fail
  go_step3
  apply hop_goto0
  cases ng with
  | false =>
    have ev : v = v1 := by have := EV.out; simpa using this
    go_wp2_with fail
    go_quiet (fail)
    go_wp2_with fail
    rw [Exit.noGoto_ret]
    subst ev
    refine bodyPost_ret (v := .tuple #[.int .u64 v, .bool false]) (by simp [results, Tryz.results238, go_sem]) rfl ?_
    exact ⟨rfl, by first | exact (Kin.refl E w).trans (Kin.drewN E _ _) | exact (Kin.refl E w).trans ((Kin.drewN E _ _).trans (Kin.drewN E _ _)) | exact (Kin.refl E w).trans ((Kin.drewN E _ _).trans ((Kin.drewN E _ _).trans (Kin.drewN E _ _)))⟩
  | true =>
    have ev : bits .or .u64 (v1 : Int) 9223372036854775808 = (v : Int) := by have := EV.out; simpa using this
    go_wp2_with fail
    go_quiet (fail)
    go_wp2_with fail
    go_quiet (fail)
    go_wp2_with fail
    rw [Exit.noGoto_ret]
    refine bodyPost_ret (v := .tuple #[.int .u64 v, .bool false]) (by simp [results, Tryz.results238, go_sem]) rfl ?_
    exact ⟨rfl, by first | exact (Kin.refl E w).trans (Kin.drewN E _ _) | exact (Kin.refl E w).trans ((Kin.drewN E _ _).trans (Kin.drewN E _ _)) | exact (Kin.refl E w).trans ((Kin.drewN E _ _).trans ((Kin.drewN E _ _).trans (Kin.drewN E _ _)))⟩

theorem fbits_low (D : Dec) (n1 : 1 ≤ D.nd) (hp : D.dp < -330) (hp2 : -1000000 ≤ D.dp) : ∃ (v : Nat), v < 18446744073709551616 ∧
      ∀ (w : World) (E B : Nat), B ≤ E → Slow B w → DecAt w E D → Calls Tryz.prog 238 #[.pointer (some ⟨E, 0, none⟩), .pointer (some ⟨6, 0, none⟩)] w fun e w' => e = .returned (.tuple #[.int .u64 v, .bool false]) ∧ Kin E w w' := by
  obtain ⟨a, b, b2, b3, v1, v, ⟨ea, eb, eb2, eb3, e1, ev, lt⟩⟩ := outB_ex 0 (-1023) D.neg
  refine ⟨v, lt, fun w E B hB hs h => ?_⟩
  have i0 := hs.inf0
  have i1 := hs.inf1
  have i2 := hs.inf2
  have hnd := h.nd
  have hdp := h.dp
  have hng := h.neg
  obtain ⟨ng, hgg⟩ : ∃ ng, ng = D.neg := ⟨_, rfl⟩
  obtain ⟨n, hn⟩ : ∃ n, n = D.nd := ⟨_, rfl⟩
  rw [← hn] at hnd n1
  have hn0 : ((n : Int) == 0) = false := by simp; omega
  rw [← hgg] at hng ev
  have EV := Lib.hid ev
  have ea' : bits .and .u64 0 4503599627370495 = (a : Int) := ea
  have eb' : bits .and .i64 0 2047 = b := eb
  clear h hs ev ea eb hgg hn
  go_enter Tryz.func238, Tryz.ntmps238
  go_wp2_with fail
  refine wp_scope_hop (r0 := ?r0) (r1 := ?r1) ?h0 ?h1 ?_
  case h0 => rfl
  case h1 => rfl
  go_wp2_with fail
  go_step3
  apply hop_goto0
  cases ng with
  | false =>
    have ev : v = v1 := by have := EV.out; simpa using this
    go_wp2_with fail
    go_quiet (fail)
    go_wp2_with fail
    rw [Exit.noGoto_ret]
    subst ev
    refine bodyPost_ret (v := .tuple #[.int .u64 v, .bool false]) (by simp [results, Tryz.results238, go_sem]) rfl ?_
    exact ⟨rfl, by first | exact (Kin.refl E w).trans (Kin.drewN E _ _) | exact (Kin.refl E w).trans ((Kin.drewN E _ _).trans (Kin.drewN E _ _)) | exact (Kin.refl E w).trans ((Kin.drewN E _ _).trans ((Kin.drewN E _ _).trans (Kin.drewN E _ _)))⟩
  | true =>
    have ev : bits .or .u64 (v1 : Int) 9223372036854775808 = (v : Int) := by have := EV.out; simpa using this
    go_wp2_with fail
    go_quiet (fail)
    go_wp2_with fail
    go_quiet (fail)
    go_wp2_with fail
    rw [Exit.noGoto_ret]
    refine bodyPost_ret (v := .tuple #[.int .u64 v, .bool false]) (by simp [results, Tryz.results238, go_sem]) rfl ?_
    exact ⟨rfl, by first | exact (Kin.refl E w).trans (Kin.drewN E _ _) | exact (Kin.refl E w).trans ((Kin.drewN E _ _).trans (Kin.drewN E _ _)) | exact (Kin.refl E w).trans ((Kin.drewN E _ _).trans ((Kin.drewN E _ _).trans (Kin.drewN E _ _)))⟩

theorem fbits_high (D : Dec) (n1 : 1 ≤ D.nd) (hp : 310 < D.dp) (hp2 : D.dp ≤ 1000000) : ∃ (v : Nat), v < 18446744073709551616 ∧ finf v = true ∧
      ∀ (w : World) (E B : Nat), B ≤ E → Slow B w → DecAt w E D → Calls Tryz.prog 238 #[.pointer (some ⟨E, 0, none⟩), .pointer (some ⟨6, 0, none⟩)] w fun e w' => e = .returned (.tuple #[.int .u64 v, .bool true]) ∧ Kin E w w' := by
  obtain ⟨a, b, b2, b3, v1, v, ⟨ea, eb, eb2, eb3, e1, ev, lt⟩, hinf⟩ := outB_inf D.neg
  refine ⟨v, lt, hinf, fun w E B hB hs h => ?_⟩
  have i0 := hs.inf0
  have i1 := hs.inf1
  have i2 := hs.inf2
  have hnd := h.nd
  have hdp := h.dp
  have hng := h.neg
  obtain ⟨ng, hgg⟩ : ∃ ng, ng = D.neg := ⟨_, rfl⟩
  obtain ⟨n, hn⟩ : ∃ n, n = D.nd := ⟨_, rfl⟩
  rw [← hn] at hnd n1
  have hn0 : ((n : Int) == 0) = false := by simp; omega
  rw [← hgg] at hng ev
  have EV := Lib.hid ev
  have ea' : bits .and .u64 0 4503599627370495 = (a : Int) := ea
  have eb' : bits .and .i64 2047 2047 = b := eb
  clear h hs ev ea eb hgg hn
  go_enter Tryz.func238, Tryz.ntmps238
  go_wp2_with fail
  refine wp_scope_hop (r0 := ?r0) (r1 := ?r1) ?h0 ?h1 ?_
  case h0 => rfl
  case h1 => rfl
  go_wp2_with fail
  go_step3
  apply hop_goto1
  go_wp2_with fail
  go_quiet (fail)
  go_wp2_with fail
  go_step3
  cases ng with
  | false =>
    have ev : v = v1 := by have := EV.out; simpa using this
    go_wp2_with fail
    go_quiet (fail)
    go_wp2_with fail
    rw [Exit.noGoto_ret]
    subst ev
    refine bodyPost_ret (v := .tuple #[.int .u64 v, .bool true]) (by simp [results, Tryz.results238, go_sem]) rfl ?_
    exact ⟨rfl, by first | exact (Kin.refl E w).trans (Kin.drewN E _ _) | exact (Kin.refl E w).trans ((Kin.drewN E _ _).trans (Kin.drewN E _ _)) | exact (Kin.refl E w).trans ((Kin.drewN E _ _).trans ((Kin.drewN E _ _).trans (Kin.drewN E _ _)))⟩
  | true =>
    have ev : bits .or .u64 (v1 : Int) 9223372036854775808 = (v : Int) := by have := EV.out; simpa using this
    go_wp2_with fail
    go_quiet (fail)
    go_wp2_with fail
    go_quiet (fail)
    go_wp2_with fail
    rw [Exit.noGoto_ret]
    refine bodyPost_ret (v := .tuple #[.int .u64 v, .bool true]) (by simp [results, Tryz.results238, go_sem]) rfl ?_
    exact ⟨rfl, by first | exact (Kin.refl E w).trans (Kin.drewN E _ _) | exact (Kin.refl E w).trans ((Kin.drewN E _ _).trans (Kin.drewN E _ _)) | exact (Kin.refl E w).trans ((Kin.drewN E _ _).trans ((Kin.drewN E _ _).trans (Kin.drewN E _ _)))⟩
end Go.Proofs.YtlmogijkkhdogaaGreatDoor
