/- math.Abs, math.IsInf of any float; strconv.ParseFloat at a text of a nought. No conditions but those named. -/
import Derived.Test.YtlmogijkkhdogaaGreatDoorFd
import Derived.Test.YtlmogijkkhdogaaGreatDoorP
namespace Go.Proofs.YtlmogijkkhdogaaGreatDoor
open Go.RowKit
set_option maxRecDepth 100000
attribute [local go_sem] run62 run14

theorem run240 (n : Int) (w : World) : (callFunc 240 #[.int .u64 n]).run Tryz.prog w = .ok (.value (.float .f64 n.toNat)) w := by
  rw [run_callFunc_extern Tryz.func240 (by kernel_rfl) (by kernel_rfl) (by kernel_rfl) (e := Extern.MathFloatBits.float64frombits) (by kernel_rfl)]; rfl
attribute [local go_sem] run240

theorem bits_andNot63 (x : Nat) (hx : x < 18446744073709551616) : bits .andNot .u64 (x : Int) 9223372036854775808 = ((frung x : Nat) : Int) := by
  have h : bits .andNot .u64 (x : Int) ((W63 : Nat) : Int) = ((BitVec.ofNat 64 x &&& ~~~BitVec.ofNat 64 W63).toNat : Int) := by
    refine bits64 _ _ _ _ ?_
    unfold bits
    simp only [IntKind.bits]
    rw [ofInt64, ofInt64]; rfl
  rw [show ((W63 : Nat) : Int) = 9223372036854775808 from rfl] at h
  rw [h, BitVec.toNat_and, BitVec.toNat_not, BitVec.toNat_ofNat, BitVec.toNat_ofNat]
  rw [show 2 ^ 64 - 1 - W63 % 2 ^ 64 = 2 ^ 63 - 1 from rfl, Nat.and_two_pow_sub_one_eq_mod]
  unfold frung W63
  congr 1
  omega
theorem frung_lt (x : Nat) : frung x < W63 := Nat.mod_lt _ (by decide)

theorem abs_any (x : Nat) (hx : x < 18446744073709551616) (w : World) : Calls Tryz.prog 59 #[.float .f64 x] w fun e w' => e = .returned (.float .f64 (frung x)) ∧ w = w' := by
  have h := bits_andNot63 x hx
  go_enter Tryz.func59, Tryz.ntmps59
  go_wp2
  go_ret
  refine ⟨?_, rfl⟩
  rfl

theorem frung_frung (x : Nat) : frung (frung x) = frung x := by unfold frung W63; omega
theorem fnan_frung (x : Nat) : fnan (frung x) = fnan x := by unfold fnan; rw [frung_frung]
theorem fneg_frung (x : Nat) : fneg (frung x) = false := by
  have := frung_lt x
  unfold fneg
  rw [Nat.div_eq_of_lt this]; rfl
theorem forder_gt {x y : Nat} (hx : fnan x = false) (hy : fnan y = false) : (FloatKind.f64.format.order x y == some .gt) = decide (fsval y < fsval x) := by
  show (Ieee.double.order x y == some .gt) = _
  rw [forder hx hy, cmp_int]
  by_cases h : fsval x < fsval y
  · rw [if_pos h, decide_eq_false (by omega)]; rfl
  · rw [if_neg h]
    by_cases h2 : fsval x = fsval y
    · rw [if_pos h2, decide_eq_false (by omega)]; rfl
    · rw [if_neg h2, decide_eq_true (by omega)]; rfl
def finf (x : Nat) : Bool := decide (frung x = I52)
theorem gt_max (x : Nat) : (FloatKind.f64.format.order (frung x) 9218868437227405311 == some .gt) = finf x := by
  cases hn : fnan x
  · rw [forder_gt (by rw [fnan_frung]; exact hn) (by rfl)]
    have e1 : fsval 9218868437227405311 = (fval 9218868437227405311 : Int) := by rfl
    have e2 : fsval (frung x) = (fval (frung x) : Int) := by unfold fsval; rw [fneg_frung, frung_frung]; rfl
    rw [e1, e2]
    unfold finf
    have h1 : frung x ≤ I52 := by simpa [fnan] using hn
    have h2 := @fval_lt_iff 9218868437227405311 (frung x)
    by_cases h : frung x = I52
    · rw [decide_eq_true h, decide_eq_true]
      have := h2.2 (by rw [h]; decide)
      omega
    · rw [decide_eq_false h, decide_eq_false]
      have h3 : ¬ 9218868437227405311 < frung x := by
        have : I52 = 9218868437227405312 := rfl
        omega
      have := mt h2.1 h3
      omega
  · show (Ieee.double.order _ _ == some .gt) = _
    rw [forder_nan_left (by rw [fnan_frung]; exact hn)]
    have h1 : I52 < frung x := by simpa [fnan] using hn
    unfold finf
    rw [decide_eq_false (by omega)]; rfl
theorem isInf_any (x : Nat) (hx : x < 18446744073709551616) (w : World) : Calls Tryz.prog 19 #[.float .f64 x, .int .i64 0] w fun e w' => e = .returned (.bool (finf x)) ∧ w = w' := by
  have h := gt_max x
  go_enter Tryz.func19, Tryz.ntmps19
  go_wp2_with (go_at_call 59; refine (abs_any x hx _).mono ?_; rintro e w' ⟨rfl, rfl⟩)
  go_ret
  exact ⟨rfl, rfl⟩

theorem special_txt (b : Bool) (body : List UInt8) (x : Ex) (hb : bodyOk body) (hx : x.ok) (hlen : (txt b body x).length ≤ 1000) (w : World) :
    Calls Tryz.prog 230 #[.string ⟨(txt b body x).toArray⟩] w fun e w' => e = .returned (.tuple #[.float .f64 0, .int .i64 0, .bool false]) ∧ w = w' := by
  obtain ⟨_, _, ⟨c, t, rfl, hc⟩, hl⟩ := hb
  have h := special_any b c (t ++ x.list) hc
  have e : txt b (c :: t) x = if b then 45 :: c :: (t ++ x.list) else c :: (t ++ x.list) := by unfold txt sgB; cases b <;> rfl
  rw [e]
  refine h ?_ w
  rw [txt_len] at hlen; simp at hlen ⊢; omega

theorem shl63 (b : Bool) : IntKind.u64.wrap ((if b then (1 : Int) else 0) * 2 ^ 63) = ((if b then W63 else 0 : Nat) : Int) := by cases b <;> rfl
theorem atof_zero (b : Bool) (body : List UInt8) (x : Ex) (hb : bodyOk body) (hx : x.ok) (hlen : (txt b body x).length ≤ 1000) (hm : (rread body).m = 0) (w : World) (hg : w.cell? ⟨2, 0, none⟩ = some (.bool true)) :
    Calls Tryz.prog 177 #[.string ⟨(txt b body x).toArray⟩] w fun e w' => e = .returned (.tuple #[.float .f64 (if b then W63 else 0), .int .i64 ((txt b body x).length : Nat), .nilIface]) ∧ w = w' := by
  have HS := Lib.hid (special_txt b body x hb hx hlen)
  have HR := Lib.hid (read_any b body x hb hx)
  have HM := Lib.hid hm
  clear hm hb hx
  generalize txt b body x = T at *
  have o0 : bits .or .u64 0 0 = 0 := by decide
  have o1 : bits .or .u64 9223372036854775808 0 = 9223372036854775808 := by decide
  go_enter Tryz.func177, Tryz.ntmps177
  cases b
  · go_wp2_with (first | (go_at_call 230; refine (HS.out _).mono ?_; rintro e w' ⟨rfl, rfl⟩) | (go_at_call 231; refine (HR.out _).mono ?_; rw [HM.out]; rintro e w' ⟨rfl, rfl⟩) | (go_at_call 239; refine (bool64_any _ _).mono ?_; rintro e w' ⟨rfl, rfl⟩))
    refine bodyPost_ret (v := .tuple #[.float .f64 0, .int .i64 (T.length : Nat), .nilIface]) (by simp [results, Tryz.results177, go_sem]) rfl ?_
    exact ⟨rfl, rfl⟩
  · go_wp2_with (first | (go_at_call 230; refine (HS.out _).mono ?_; rintro e w' ⟨rfl, rfl⟩) | (go_at_call 231; refine (HR.out _).mono ?_; rw [HM.out]; rintro e w' ⟨rfl, rfl⟩) | (go_at_call 239; refine (bool64_any _ _).mono ?_; rintro e w' ⟨rfl, rfl⟩))
    refine bodyPost_ret (v := .tuple #[.float .f64 9223372036854775808, .int .i64 (T.length : Nat), .nilIface]) (by simp [results, Tryz.results177, go_sem]) rfl ?_
    exact ⟨rfl, rfl⟩

/-- what is laid over atof64: the two ParseFloats, at a text whose reading has no error. -/
theorem parseFloat_ok (T : List UInt8) (v : Nat) (hlen : T.length ≤ 1000) (w : World)
    (h : Calls Tryz.prog 177 #[.string ⟨T.toArray⟩] w fun e w' => e = .returned (.tuple #[.float .f64 v, .int .i64 (T.length : Nat), .nilIface]) ∧ Below w.heap.size w w') :
    Calls Tryz.prog 61 #[.string ⟨T.toArray⟩, .int .i64 64] w fun e w' => e = .returned (.tuple #[.float .f64 v, .nilIface]) ∧ Below w.heap.size w w' := by
  have h119 : Calls Tryz.prog 119 #[.string ⟨T.toArray⟩, .int .i64 64] w fun e w' => e = .returned (.tuple #[.float .f64 v, .int .i64 (T.length : Nat), .nilIface]) ∧ Below w.heap.size w w' := by
    have H := Lib.hid h
    clear h
    go_enter Tryz.func119, Tryz.ntmps119
    go_wp2_with (go_at_call 177; refine H.out.mono ?_; rintro e w' ⟨rfl, hb⟩)
    refine bodyPost_ret (v := .tuple #[.float .f64 v, .int .i64 (T.length : Nat), .nilIface]) (by simp [results, Tryz.results119, go_sem]) rfl ?_
    exact ⟨rfl, hb⟩
  have h88 : Calls Tryz.prog 88 #[.string ⟨T.toArray⟩, .int .i64 64] w fun e w' => e = .returned (.tuple #[.float .f64 v, .nilIface]) ∧ Below w.heap.size w w' := by
    have H := Lib.hid h119
    clear h h119
    go_enter Tryz.func88, Tryz.ntmps88
    go_wp2_with (go_at_call 119; refine H.out.mono ?_; rintro e w' ⟨rfl, hb⟩)
    refine bodyPost_ret (v := .tuple #[.float .f64 v, .nilIface]) (by simp [results, Tryz.results88, go_sem]) rfl ?_
    exact ⟨rfl, hb⟩
  have H := Lib.hid h88
  clear h h119 h88
  go_enter Tryz.func61, Tryz.ntmps61
  go_wp2_with (go_at_call 88; refine H.out.mono ?_; rintro e w' ⟨rfl, hb⟩)
  refine bodyPost_ret (v := .tuple #[.float .f64 v, .nilIface]) (by simp [results, Tryz.results61, go_sem]) rfl ?_
  exact ⟨rfl, hb⟩

/-- ParseFloat answers that float of a text, with no error. -/
def FloatOk (l : List UInt8) (v : Nat) : Prop := ∀ w, Glob w → Calls Tryz.prog 61 #[.string ⟨l.toArray⟩, .int .i64 64] w fun e w' => e = .returned (.tuple #[.float .f64 v, .nilIface]) ∧ Below w.heap.size w w'

theorem float_ok (l : List UInt8) (p : Parts) (v : Nat) (w : World) (hg : Glob w) (hv : v < 18446744073709551616) (hi : finf v = false) (h64 : ¬ 64 < l.length) (hp : parseL l = some p) (h : FloatOk l v) :
    Calls Tryz.prog 20 #[.string ⟨l.toArray⟩] w fun e w' => e = .returned (.tuple #[.float .f64 v, .nilIface]) ∧ Below w.heap.size w w' := by
  have HA := Lib.hid (fun w => asks_ok l p w h64 hp)
  have HP := Lib.hid h
  have HG := Lib.hid hg
  have hI := fun w => isInf_any v hv w
  rw [hi] at hI
  have HI := Lib.hid hI
  clear h hp hI
  go_enter Tryz.func20, Tryz.ntmps20
  go_wp2_with (first | (go_at_call 60; refine (HA.out _).mono ?_; rintro e w1 ⟨rfl, hb1⟩; obtain ⟨hc1, hf1⟩ := bcell hb1) | (go_at_call 61; refine (HP.out _ ((HG.out.below hb1).below ((Below.refl _ _).alloc (Nat.le_refl _) _))).mono ?_; rintro e w2 ⟨rfl, hb2⟩) | (go_at_call 19; refine (HI.out _).mono ?_; rintro e w' ⟨rfl, rfl⟩))
  refine bodyPost_ret (v := .tuple #[.float .f64 v, .nilIface]) (by simp [results, Tryz.results20, go_sem]) rfl ?_
  exact ⟨rfl, hb1.trans (((Below.refl _ _).alloc hb1.size _).trans (hb2.mono (by simp; have := hb1.size; omega)))⟩
end Go.Proofs.YtlmogijkkhdogaaGreatDoor
