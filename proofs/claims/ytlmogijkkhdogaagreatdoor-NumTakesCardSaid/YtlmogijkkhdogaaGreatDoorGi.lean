/- num.Text and the document's Text: the same text of any float. -/
import Derived.Test.YtlmogijkkhdogaaGreatDoorGg
import Derived.Test.YtlmogijkkhdogaaGreatDoorGh
import Derived.Test.YtlmogijkkhdogaaGreatDoorFf
namespace Go.Proofs.YtlmogijkkhdogaaGreatDoor
open Go.RowKit
set_option maxRecDepth 100000
attribute [local go_sem] run62 run14

theorem run83 (x : Nat) (h : frung x < I52) (w : World) : (callFunc 83 #[.float .f64 x]).run Tryz.prog w = .ok (.value (.float .f64 (ftrunc x))) w := by
  rw [run_callFunc_extern Tryz.func83 (by kernel_rfl) (by kernel_rfl) (by kernel_rfl) (e := Extern.MathFloor.toIntegral "math.archTrunc" .zero) (by kernel_rfl)]
  have hi := integral_eq h
  obtain ⟨m, a, e1, _⟩ := fread_fin2 x h
  have e2 : FloatKind.f64.decode x = .number (fneg x) m (-1074 + (a : Int)) := e1
  rw [e1] at hi
  have e3 : ∀ d : Ieee.Datum, FloatKind.f64.decode x = d → d = .number (fneg x) m (-1074 + (a : Int)) →
      Extern.MathFloor.toIntegral "math.archTrunc" .zero #[.float .f64 x] = pure (.float .f64 (FloatKind.f64.encode (d.integral .zero))) := by
    intro d hd hn
    subst hn
    delta Extern.MathFloor.toIntegral
    show (match FloatKind.f64.decode x with
      | .nan s t => if FloatKind.f64.format.quiet t = t then (pure (Value.float .f64 x) : Sem Value) else do
          let kept ← choose (.extern "math.Floor,Ceil,Trunc,RoundToEven.signallingNaN kept" 2)
          pure (Value.float .f64 (if kept == 1 then x else FloatKind.f64.encode (.nan s (FloatKind.f64.format.quiet t))))
      | d => pure (Value.float .f64 (FloatKind.f64.encode (d.integral .zero)))) = _
    rw [hd]
  rw [e3 _ rfl e2, e2]
  show ((pure (Value.float .f64 (FloatKind.f64.encode (Ieee.Datum.integral .zero (.number (fneg x) m (-1074 + (a : Int)))))) : Sem Value).run Tryz.prog w).andThen _ = _
  rw [hi]
  rfl
theorem trunc_any (x : Nat) (h : frung x < I52) (w : World) : Calls Tryz.prog 55 #[.float .f64 x] w fun e w' => e = .returned (.float .f64 (ftrunc x)) ∧ w = w' := by
  have hr := run83 x h
  go_enter Tryz.func55, Tryz.ntmps55
  go_wp2
  go_ret
  exact ⟨rfl, rfl⟩

theorem forder_some {x y : Nat} (hx : fnan x = false) (hy : fnan y = false) : FloatKind.f64.format.order x y = some (compare (fsval x) (fsval y)) := forder hx hy
theorem conv_int {x : Nat} (h : frung x < I52) (hf : ffits x = true) (w : World) : (convert 24 2 (.float .f64 x)).run Tryz.prog w = .ok (.int .i64 (fint x)) w := by
  refine run_convert_float_int w 24 2 .f64 .i64 x (fint x) (by kernel_rfl) Tryz.underlying2 ?_
  unfold floatToIntVal
  have e : (FloatKind.f64.decode x).toInt .zero = some (fint x) := toInt_eq h
  rw [e]
  obtain ⟨a, b⟩ := fits_int hf
  simp only
  rw [if_pos ⟨by rw [show IntKind.i64.min = -9223372036854775808 by decide]; exact a, by rw [show IntKind.i64.max = 9223372036854775807 by decide]; exact b⟩]

/-- FormatFloat's text. -/
noncomputable def fmtT (x : Nat) : List UInt8 := if h : x < 18446744073709551616 ∧ frung x ≠ 0 ∧ frung x < I52 then Classical.choose (format_ex x h.1 h.2.1 h.2.2) else []
theorem fmt_any (x : Nat) (hx : x < 18446744073709551616) (h0 : frung x ≠ 0) (hi : frung x < I52) (w : World) (hg : Glob w) (ht : Tab10 w) (hw : 9 < w.heap.size) :
    Calls Tryz.prog 57 #[.float .f64 x, .int .u8 101, .int .i64 (-1), .int .i64 64] w fun e w' => e = .returned (.string ⟨(fmtT x).toArray⟩) ∧ Below w.heap.size w w' := by
  have e : fmtT x = Classical.choose (format_ex x hx h0 hi) := by unfold fmtT; rw [dif_pos ⟨hx, h0, hi⟩]
  rw [e]
  exact Classical.choose_spec (format_ex x hx h0 hi) w hg ht hw
theorem formatInt_any (n : Int) (w : World) (hg : Glob w) (h1 : -9223372036854775808 ≤ n) (h2 : n ≤ 9223372036854775807) : Calls Tryz.prog 56 #[.int .i64 n, .int .i64 10] w fun e w' =>
    e = .returned (.string ⟨(Lib.itoa n).toArray⟩) ∧ Below w.heap.size w w' := by
  have H := Lib.hid (Tryz.internal_strconv_FormatInt_10 n h1 h2 w hg.pow)
  go_enter Tryz.func56, Tryz.ntmps56
  go_wp2_with (go_at_call 85; refine H.out.mono ?_; rintro e w' ⟨rfl, k, os, rfl⟩)
  go_ret
  refine ⟨rfl, ?_⟩
  have := below_grow (w.drewN k) os
  exact ⟨this.os, this.tape, this.output, this.size, this.block⟩

/-- a finite float's text. -/
noncomputable def textR (x : Nat) : List UInt8 := if x = W63 then [45, 48] else if ffits x && fisW x then Lib.itoa (fint x) else fmtT x

theorem num_nil (w : World) : Calls Tryz.prog 17 #[.nilIface] w fun e w' => e = .returned (.int .i64 0) ∧ w = w' := by
  go_enter Tryz.func17, Tryz.ntmps17
  go_wp2
  go_ret
  exact ⟨rfl, rfl⟩
theorem num_err (c : Int) (h : c ≠ 0) (w : World) : Calls Tryz.prog 17 #[.iface 85 (.int .i64 c)] w fun e w' => e = .returned (.int .i64 c) ∧ w = w' := by
  have hta : ∀ w, (Instr.typeAssert (.iface 85 (.int .i64 c)) 27 85 true).run Tryz.prog w = .ok (.tuple #[.int .i64 c, .bool true]) w := fun _ => by kernel_rfl
  have h1 : (c != 0) = true := by simp [h]
  clear h
  go_enter Tryz.func17, Tryz.ntmps17
  go_wp2
  go_ret
  exact ⟨rfl, rfl⟩

theorem text_bad (x : Nat) (hx : x < 18446744073709551616) (h : I52 ≤ frung x) (w : World) : Calls Tryz.prog 15 #[.float .f64 x] w fun e w' => e = .returned (.tuple #[.string ⟨#[]⟩, .iface 85 (.int .i64 1)]) ∧ w = w' := by
  have HN := Lib.hid (isNaN_any x)
  have HI := Lib.hid (isInf_any x hx)
  by_cases hn : fnan x = true
  · rw [hn] at HN
    go_enter Tryz.func15, Tryz.ntmps15
    go_wp2_with (first | (go_at_call 18; refine (HN.out _).mono ?_; rintro e w' ⟨rfl, rfl⟩) | (go_at_call 19; refine (HI.out _).mono ?_; rintro e w' ⟨rfl, rfl⟩))
    refine bodyPost_ret (v := .tuple #[.string ⟨#[]⟩, .iface 85 (.int .i64 1)]) (by simp [results, Tryz.results15, go_sem]) rfl ?_
    exact ⟨rfl, rfl⟩
  · have hn' : fnan x = false := by simpa using hn
    have hf : finf x = true := by
      unfold finf; unfold fnan at hn'
      have := of_decide_eq_false hn'
      exact decide_eq_true (by omega)
    rw [hn'] at HN
    rw [hf] at HI
    go_enter Tryz.func15, Tryz.ntmps15
    go_wp2_with (first | (go_at_call 18; refine (HN.out _).mono ?_; rintro e w' ⟨rfl, rfl⟩) | (go_at_call 19; refine (HI.out _).mono ?_; rintro e w' ⟨rfl, rfl⟩))
    refine bodyPost_ret (v := .tuple #[.string ⟨#[]⟩, .iface 85 (.int .i64 1)]) (by simp [results, Tryz.results15, go_sem]) rfl ?_
    exact ⟨rfl, rfl⟩

theorem cmp_ge (p q : Int) : (compare p q == .gt || compare p q == .eq) = decide (q ≤ p) := by
  rcases Int.lt_trichotomy p q with h | h | h
  · rw [cmp_lt h, decide_eq_false (by omega)]; rfl
  · subst h; rw [cmp_int, if_neg (by omega), if_pos rfl, decide_eq_true (by omega)]; rfl
  · rw [cmp_gt h, decide_eq_true (by omega)]; rfl
theorem cmp_lss (p q : Int) : (compare p q == .lt) = decide (p < q) := by
  rcases Int.lt_trichotomy p q with h | h | h
  · rw [cmp_lt h, decide_eq_true h]; rfl
  · subst h; rw [cmp_int, if_neg (by omega), if_pos rfl, decide_eq_false (by omega)]; rfl
  · rw [cmp_gt h, decide_eq_false (by omega)]; rfl
/-- how a float lies to the two ends of the whole numbers of 64 bits. -/
theorem ends (x : Nat) (hn : fnan x = false) : (∃ o1 o2 : Ordering, FloatKind.f64.format.order x 14114281232179134464 = some o1 ∧ FloatKind.f64.format.order x 4890909195324358656 = some o2 ∧ ((o1 == .gt || o1 == .eq) && o2 == .lt) = ffits x) := by
  refine ⟨_, _, forder_some hn (by decide), forder_some hn (by decide), ?_⟩
  unfold ffits
  rw [cmp_ge, cmp_lss]

set_option maxHeartbeats 6400000 in
/-- num.Text of a finite float. -/
theorem text_good (x : Nat) (hx : x < 18446744073709551616) (h : frung x < I52) (w : World) (hg : Glob w) (ht : Tab10 w) (hw : 9 < w.heap.size) : Calls Tryz.prog 15 #[.float .f64 x] w fun e w' => e = .returned (.tuple #[.string ⟨(textR x).toArray⟩, .nilIface]) ∧ Below w.heap.size w w' := by
  have hn : fnan x = false := by unfold fnan; exact decide_eq_false (by omega)
  have hf : finf x = false := by unfold finf; exact decide_eq_false (by omega)
  have HN := Lib.hid (isNaN_any x)
  have HI := Lib.hid (isInf_any x hx)
  have HS := Lib.hid (signbit_any x hx)
  have HTR := Lib.hid (trunc_any x h)
  rw [hn] at HN
  rw [hf] at HI
  have hz := forder_zero hx hn
  have hW : (FloatKind.f64.format.order x (ftrunc x) == some .eq) = fisW x := rfl
  obtain ⟨o1, o2, g1, g2, hfit⟩ := ends x hn
  have HTX : Hid (textR x = if x = W63 then [45, 48] else if ffits x && fisW x then Lib.itoa (fint x) else fmtT x) := Lib.hid rfl
  have HG := Lib.hid hg
  have HT := Lib.hid ht
  clear hg ht
  by_cases hneg : x = W63
  · have e1 : fzero x = true := by rw [hneg]; decide
    have e2 : fneg x = true := by rw [hneg]; decide
    have e3 := HTX.out
    rw [if_pos hneg] at e3
    have E3 := Lib.hid e3
    rw [e1] at hz
    rw [e2] at HS
    clear e1 e2 e3 HTX hneg
    go_enter Tryz.func15, Tryz.ntmps15
    go_wp2_with (first | (go_at_call 18; refine (HN.out _).mono ?_; rintro e w' ⟨rfl, rfl⟩) | (go_at_call 19; refine (HI.out _).mono ?_; rintro e w' ⟨rfl, rfl⟩) | (go_at_call 54; refine (HS.out _).mono ?_; rintro e w' ⟨rfl, rfl⟩))
    refine bodyPost_ret (v := .tuple #[.string ⟨#[45, 48]⟩, .nilIface]) (by simp [results, Tryz.results15, go_sem]) rfl ?_
    exact ⟨by rw [E3.out], Below.refl _ _⟩
  · have hzn : fzero x = true → fneg x = false := by
      intro h1
      rcases (fzero_iff hx).1 h1 with h2 | h2
      · rw [h2]; rfl
      · exact absurd h2 hneg
    have hzz : (fzero x && fneg x) = false := by
      cases h1 : fzero x
      · rfl
      · rw [hzn h1]; rfl
    have hnz : (ffits x && fisW x) = false → frung x ≠ 0 := by
      intro h1 h2
      have h3 : fzero x = true := decide_eq_true h2
      rcases (fzero_iff hx).1 h3 with h4 | h4
      · subst h4
        rw [show (ffits 0 && fisW 0) = true from by kernel_rfl] at h1
        exact Bool.noConfusion h1
      · exact hneg h4
    obtain ⟨zz, ez⟩ : ∃ b, fzero x = b := ⟨_, rfl⟩
    obtain ⟨nn, en⟩ : ∃ b, fneg x = b := ⟨_, rfl⟩
    rw [ez, en] at hzz
    rw [ez] at hz
    rw [en] at HS
    cases hW2 : ffits x && fisW x
    · have e3 := HTX.out
      rw [if_neg hneg, hW2, if_neg (by simp)] at e3
      have E3 := Lib.hid e3
      have HFM := Lib.hid (fmt_any x hx (hnz hW2) h)
      clear e3 HTX hneg hzn hnz
      have hb : ffits x = false ∨ (ffits x = true ∧ fisW x = false) := by
        cases h1 : ffits x
        · exact Or.inl rfl
        · rw [h1] at hW2; exact Or.inr ⟨rfl, by simpa using hW2⟩
      clear hW2
      have WALK : ∀ wf : Bool, (FloatKind.f64.format.order x (ftrunc x) == some .eq) = wf → ((o1 == .gt || o1 == .eq) && o2 == .lt && wf) = false →
          Calls Tryz.prog 15 #[.float .f64 x] w fun e w' => e = .returned (.tuple #[.string ⟨(fmtT x).toArray⟩, .nilIface]) ∧ Below w.heap.size w w' := by
        intro wf hwf hall
        clear hW hfit hb E3
        cases o1 <;> cases o2 <;> cases wf <;> first
          | (exact Bool.noConfusion hall)
          | (cases zz <;> cases nn <;> first
              | (exact Bool.noConfusion hzz)
              | (clear hall hzz
                 go_enter Tryz.func15, Tryz.ntmps15
                 go_wp2_with (first | (go_at_call 18; refine (HN.out _).mono ?_; rintro e w' ⟨rfl, rfl⟩) | (go_at_call 19; refine (HI.out _).mono ?_; rintro e w' ⟨rfl, rfl⟩) | (go_at_call 54; refine (HS.out _).mono ?_; rintro e w' ⟨rfl, rfl⟩) | (go_at_call 55; refine (HTR.out _).mono ?_; rintro e w' ⟨rfl, rfl⟩) | (go_at_call 57; refine (HFM.out _ HG.out HT.out hw).mono ?_; rintro e w1 ⟨rfl, hb1⟩))
                 refine bodyPost_ret (v := .tuple #[.string ⟨(fmtT x).toArray⟩, .nilIface]) (by simp [results, Tryz.results15, go_sem]) rfl ?_
                 exact ⟨rfl, hb1⟩))
      rw [E3.out]
      refine WALK (fisW x) hW ?_
      rw [hfit]
      rcases hb with h1 | ⟨h1, h2⟩
      · rw [h1]; rfl
      · rw [h1, h2]; rfl
    · have e3 := HTX.out
      rw [if_neg hneg, hW2, if_pos rfl] at e3
      have E3 := Lib.hid e3
      rw [Bool.and_eq_true] at hW2
      obtain ⟨hf1, hf2⟩ := hW2
      obtain ⟨i1, i2⟩ := fits_int hf1
      have HFI := Lib.hid (fun w hg => formatInt_any (fint x) w hg i1 i2)
      have hcv := conv_int h hf1
      rw [hf1] at hfit
      rw [hf2] at hW
      clear e3 HTX hneg hf1 hf2 hzn
      cases o1 <;> cases o2 <;> first
        | (exact Bool.noConfusion hfit)
        | (cases zz <;> cases nn <;> first
            | (exact Bool.noConfusion hzz)
            | (go_enter Tryz.func15, Tryz.ntmps15
               go_wp2_with (first | (go_at_call 18; refine (HN.out _).mono ?_; rintro e w' ⟨rfl, rfl⟩) | (go_at_call 19; refine (HI.out _).mono ?_; rintro e w' ⟨rfl, rfl⟩) | (go_at_call 54; refine (HS.out _).mono ?_; rintro e w' ⟨rfl, rfl⟩) | (go_at_call 55; refine (HTR.out _).mono ?_; rintro e w' ⟨rfl, rfl⟩) | (go_at_call 56; refine (HFI.out _ HG.out).mono ?_; rintro e w1 ⟨rfl, hb1⟩))
               refine bodyPost_ret (v := .tuple #[.string ⟨(Lib.itoa (fint x)).toArray⟩, .nilIface]) (by simp [results, Tryz.results15, go_sem]) rfl ?_
               exact ⟨by rw [E3.out], hb1⟩))

theorem docMax (x : Nat) (hx : x < 18446744073709551616) (hn : fnan x = false) : (FloatKind.f64.format.order x 9218868437227405311 == some .gt) = (finf x && !fneg x) ∧ (FloatKind.f64.format.order x 18442240474082181119 == some .lt) = (finf x && fneg x) := by
  have h1 : frung x ≤ I52 := by unfold fnan at hn; have := of_decide_eq_false hn; omega
  have hI : I52 = 9218868437227405312 := rfl
  have e1 : fsval 9218868437227405311 = (fval 9218868437227405311 : Int) := by rfl
  have e2 : fsval 18442240474082181119 = -(fval 9218868437227405311 : Int) := by kernel_rfl
  have k1 := @fval_lt_iff 9218868437227405311 (frung x)
  rw [forder_gt hn (by decide), forder_lt hn (by decide), e1, e2]
  unfold finf fsval
  by_cases h : frung x = I52
  · have := k1.2 (by omega)
    rw [decide_eq_true h]
    cases fneg x
    · simp only [Bool.false_eq_true, if_false, Bool.not_false, Bool.and_true, Bool.and_false]
      exact ⟨decide_eq_true (by omega), decide_eq_false (by omega)⟩
    · simp only [if_true, Bool.not_true, Bool.and_true, Bool.and_false]
      exact ⟨decide_eq_false (by omega), decide_eq_true (by omega)⟩
  · have := mt k1.1 (by omega)
    rw [decide_eq_false h]
    cases fneg x
    · simp only [Bool.false_eq_true, if_false, Bool.false_and]
      exact ⟨decide_eq_false (by omega), decide_eq_false (by omega)⟩
    · simp only [if_true, Bool.false_and]
      exact ⟨decide_eq_false (by omega), decide_eq_false (by omega)⟩

theorem doc_bad (x : Nat) (hx : x < 18446744073709551616) (h : I52 ≤ frung x) (w : World) : Calls Tryz.prog 16 #[.float .f64 x] w fun e w' => e = .returned (.tuple #[.string ⟨#[]⟩, .int .i64 1]) ∧ w = w' := by
  have hs := forder_self x
  by_cases hn : fnan x = true
  · rw [hn] at hs
    go_enter Tryz.func16, Tryz.ntmps16
    go_wp2_with fail
    refine bodyPost_ret (v := .tuple #[.string ⟨#[]⟩, .int .i64 1]) (by simp [results, Tryz.results16, go_sem]) rfl ?_
    exact ⟨rfl, rfl⟩
  · have hn' : fnan x = false := by simpa using hn
    rw [hn'] at hs
    have hf : finf x = true := by
      unfold finf; unfold fnan at hn'
      have := of_decide_eq_false hn'
      exact decide_eq_true (by omega)
    obtain ⟨m1, m2⟩ := docMax x hx hn'
    rw [hf] at m1 m2
    cases hg : fneg x <;> rw [hg] at m1 m2 <;> simp only [Bool.true_and, Bool.not_true, Bool.not_false] at m1 m2
    all_goals go_enter Tryz.func16, Tryz.ntmps16
    all_goals go_wp2_with fail
    all_goals (refine bodyPost_ret (v := .tuple #[.string ⟨#[]⟩, .int .i64 1]) (by simp [results, Tryz.results16, go_sem]) rfl ?_; exact ⟨rfl, rfl⟩)

set_option maxHeartbeats 6400000 in
/-- the document's Text of a finite float. -/
theorem doc_good (x : Nat) (hx : x < 18446744073709551616) (h : frung x < I52) (w : World) (hg : Glob w) (ht : Tab10 w) (hw : 9 < w.heap.size) : Calls Tryz.prog 16 #[.float .f64 x] w fun e w' => e = .returned (.tuple #[.string ⟨(textR x).toArray⟩, .int .i64 0]) ∧ Below w.heap.size w w' := by
  have hn : fnan x = false := by unfold fnan; exact decide_eq_false (by omega)
  have hf : finf x = false := by unfold finf; exact decide_eq_false (by omega)
  have hs := forder_self x
  rw [hn] at hs
  obtain ⟨m1, m2⟩ := docMax x hx hn
  rw [hf] at m1 m2
  simp only [Bool.false_and] at m1 m2
  have hz := forder_zero hx hn
  obtain ⟨o1, o2, g1, g2, hfit⟩ := ends x hn
  have hD : (FloatKind.f64.format.order (floatOfInt .f64 (fint x)) x == some .eq) = fisW x := isW_doc h hx
  have HTX : Hid (textR x = if x = W63 then [45, 48] else if ffits x && fisW x then Lib.itoa (fint x) else fmtT x) := Lib.hid rfl
  have HG := Lib.hid hg
  have HT := Lib.hid ht
  clear hg ht hf
  by_cases h0 : fzero x = true
  · rw [h0] at hz
    have q1 := fun w : World => run_float_arith (P := Tryz.prog) w .quo 24 .f64 _ _ _ quo_pos
    have q2 := fun w : World => run_float_arith (P := Tryz.prog) w .quo 24 .f64 _ _ _ quo_neg
    have p1 : (FloatKind.f64.format.order 9218868437227405312 0 == some .lt) = false := by kernel_rfl
    have p2 : (FloatKind.f64.format.order 18442240474082181120 0 == some .lt) = true := by kernel_rfl
    rcases (fzero_iff hx).1 h0 with h1 | h1
    · have e3 := HTX.out
      rw [if_neg (by rw [h1]; decide), h1, show (ffits 0 && fisW 0) = true from by kernel_rfl, if_pos rfl, show fint 0 = 0 from by kernel_rfl] at e3
      have e4 : Lib.itoa 0 = [48] := by rw [show (0 : Int) = ((0 : Nat) : Int) from rfl, Lib.itoa_nonneg, Lib.decDigits_one (by decide)]; rfl
      rw [e4] at e3
      have E3 := Lib.hid e3
      have hxx := Lib.hid h1
      clear e3 e4 HTX h0 hfit hD
      subst h1
      go_enter Tryz.func16, Tryz.ntmps16
      go_wp2_with fail
      refine bodyPost_ret (v := .tuple #[.string ⟨#[48]⟩, .int .i64 0]) (by simp [results, Tryz.results16, go_sem]) rfl ?_
      exact ⟨by rw [E3.out], Below.refl _ _⟩
    · have e3 := HTX.out
      rw [if_pos h1, h1] at e3
      have E3 := Lib.hid e3
      clear e3 HTX h0 hfit hD
      have hW : x = 9223372036854775808 := h1
      clear h1
      subst hW
      go_enter Tryz.func16, Tryz.ntmps16
      go_wp2_with fail
      refine bodyPost_ret (v := .tuple #[.string ⟨#[45, 48]⟩, .int .i64 0]) (by simp [results, Tryz.results16, go_sem]) rfl ?_
      exact ⟨by first | (rw [E3.out]; done) | (show _ = Ending.returned (.tuple #[.string ⟨(textR W63).toArray⟩, _]); rw [E3.out]), Below.refl _ _⟩
  · have h0' : fzero x = false := by simpa using h0
    rw [h0'] at hz
    have hneg : x ≠ W63 := fun h1 => h0 ((fzero_iff hx).2 (Or.inr h1))
    have hnz : frung x ≠ 0 := fun h1 => h0 (decide_eq_true h1)
    cases hF : ffits x
    · have e3 := HTX.out
      rw [if_neg hneg, hF, if_neg (by simp)] at e3
      have E3 := Lib.hid e3
      have HFM := Lib.hid (fmt_any x hx hnz h)
      rw [hF] at hfit
      clear e3 HTX hneg hnz h0 h0' hD
      cases o1 <;> cases o2 <;> first
        | (exact Bool.noConfusion hfit)
        | (go_enter Tryz.func16, Tryz.ntmps16
           go_wp2_with (go_at_call 57; refine (HFM.out _ HG.out HT.out hw).mono ?_; rintro e w1 ⟨rfl, hb1⟩)
           refine bodyPost_ret (v := .tuple #[.string ⟨(fmtT x).toArray⟩, .int .i64 0]) (by simp [results, Tryz.results16, go_sem]) rfl ?_
           exact ⟨by rw [E3.out], hb1⟩)
    · have hcv := conv_int h hF
      obtain ⟨i1, i2⟩ := fits_int hF
      rw [hF] at hfit
      cases hW : fisW x
      · have e3 := HTX.out
        rw [if_neg hneg, hF, hW, if_neg (by simp)] at e3
        have E3 := Lib.hid e3
        have HFM := Lib.hid (fmt_any x hx hnz h)
        rw [hW] at hD
        clear e3 HTX hneg hnz h0 h0'
        cases o1 <;> cases o2 <;> first
          | (exact Bool.noConfusion hfit)
          | (go_enter Tryz.func16, Tryz.ntmps16
             go_wp2_with (go_at_call 57; refine (HFM.out _ HG.out HT.out hw).mono ?_; rintro e w1 ⟨rfl, hb1⟩)
             refine bodyPost_ret (v := .tuple #[.string ⟨(fmtT x).toArray⟩, .int .i64 0]) (by simp [results, Tryz.results16, go_sem]) rfl ?_
             exact ⟨by rw [E3.out], hb1⟩)
      · have e3 := HTX.out
        rw [if_neg hneg, hF, hW, Bool.and_self, if_pos rfl] at e3
        have E3 := Lib.hid e3
        have HIT := Lib.hid (fun w hg => itoa_any (fint x) w hg i1 i2)
        rw [hW] at hD
        clear e3 HTX hneg hnz h0 h0'
        cases o1 <;> cases o2 <;> first
          | (exact Bool.noConfusion hfit)
          | (go_enter Tryz.func16, Tryz.ntmps16
             go_wp2_with (go_at_call 58; refine (HIT.out _ HG.out).mono ?_; rintro e w1 ⟨rfl, hb1⟩)
             refine bodyPost_ret (v := .tuple #[.string ⟨(Lib.itoa (fint x)).toArray⟩, .int .i64 0]) (by simp [results, Tryz.results16, go_sem]) rfl ?_
             exact ⟨by rw [E3.out], hb1⟩)
end Go.Proofs.YtlmogijkkhdogaaGreatDoor
