/- PROVED: crossdocklaw23.DescChecks returns true at every descriptor, and the argument reads behind the call as it read before. Conditions: the row's listed variables read as the program's own text lays them (tied); no other. -/
import Derived.Carry
import Derived.ChangeSame
import Derived.ChangeVars
import Derived.Deep.Slices
import Derived.JoinedOf
import Derived.Lay
import Derived.OpenShut
import Derived.ProofKit
import Derived.RowKitTokens
import Derived.SevenTiedAt
import Derived.Test.YtoimjnmhinfbkaaGreatDoorCards
import Derived.Test.YtoimjnmhinfbkaaGreatDoorS14
import Derived.Test.YtoimjnmhinfbkaaGreatDoorS15
import Derived.Test.YtoimjnmhinfbkaaGreatDoorTie
namespace Go.Proofs.YtoimjnmhinfbkaaGreatDoor
open Go.ChangeShapes Go.WideShapes Go.ChangeAt Go.RowKit Go.Lib
set_option maxRecDepth 100000
theorem globC_of_met {W : World} (h : laidMetH Tryz.prog Rows.descChecksRow.laid W) : Glob W := by
  rw [MakeChecks.laidMetH_plain _ _ _ (by kernel_rfl)] at h
  exact glob_of_laid (laidMet.reads h (by simp [Rows.descChecksRow])) (laidMet.reads h (by simp [Rows.descChecksRow])) (laidMet.reads h (by simp [Rows.descChecksRow])) (laidMet.reads h (by simp [Rows.descChecksRow])) (laidMet.reads h (by simp [Rows.descChecksRow]))
section
variable {H : Type} {enc : TypeId × Value → H} {W : World} {spare : Nat → Bool} {held : Bool}
theorem c62 : Tryz.prog.cellsOf 62 = 6 := by kernel_rfl
theorem c60 : Tryz.prog.cellsOf 60 = 3 := by kernel_rfl
theorem cc9 : Tryz.prog.cellsOf 9 = 1 := by kernel_rfl
theorem cc3 : Tryz.prog.cellsOf 3 = 1 := by kernel_rfl
theorem plat_of_trod {fuel : Nat} {cs : List Value} {x : DataW H × List MemPlace} (h : DataW.trod enc Tryz.prog W 0 spare held fuel 60 cs = some x) : ∃ a o v : ByteArray, cs = [.string a, .string o, .string v] := by
  obtain ⟨xs, n, rfl, rfl, hl, hlen, hf⟩ := DataW.trod_struct Tryz.underlying60 h
  rw [c60] at hl
  match cs, hl, xs, hlen with
  | [k0, k1, k2], _, [y0, y1, y2], _ =>
    have f0 : DataW.trod enc Tryz.prog W 0 spare held n 9 (([k0, k1, k2].drop 0).take (Tryz.prog.cellsOf 9)) = some y0 := hf 0 _ rfl
    have f1 : DataW.trod enc Tryz.prog W 0 spare held n 9 (([k0, k1, k2].drop 1).take (Tryz.prog.cellsOf 9)) = some y1 := hf 1 _ rfl
    have f2 : DataW.trod enc Tryz.prog W 0 spare held n 9 (([k0, k1, k2].drop 2).take (Tryz.prog.cellsOf 9)) = some y2 := hf 2 _ rfl
    rw [cc9] at f0 f1 f2
    obtain ⟨a, e0, -, -⟩ := DataW.trod_string Tryz.underlying9 (show DataW.trod enc Tryz.prog W 0 spare held n 9 [k0] = some y0 from f0)
    obtain ⟨o, e1, -, -⟩ := DataW.trod_string Tryz.underlying9 (show DataW.trod enc Tryz.prog W 0 spare held n 9 [k1] = some y1 from f1)
    obtain ⟨v, e2, -, -⟩ := DataW.trod_string Tryz.underlying9 (show DataW.trod enc Tryz.prog W 0 spare held n 9 [k2] = some y2 from f2)
    injection e0 with e0
    injection e1 with e1
    injection e2 with e2
    subst e0 e1 e2
    exact ⟨a, o, v, rfl⟩
theorem desc_of_trod {fuel : Nat} {cs : List Value} {x : DataW H × List MemPlace} (h : DataW.trod enc Tryz.prog W 0 spare held fuel 62 cs = some x) :
    ∃ (m n : ByteArray) (z : Int) (a o v : ByteArray), cs = [.string m, .string n, .int .i64 z, .string a, .string o, .string v] := by
  obtain ⟨xs, n, rfl, rfl, hl, hlen, hf⟩ := DataW.trod_struct Tryz.underlying62 h
  rw [c62] at hl
  match cs, hl, xs, hlen with
  | [k0, k1, k2, k3, k4, k5], _, [y0, y1, y2, y3], _ =>
    have f0 : DataW.trod enc Tryz.prog W 0 spare held n 9 (([k0, k1, k2, k3, k4, k5].drop 0).take (Tryz.prog.cellsOf 9)) = some y0 := hf 0 _ rfl
    have f1 : DataW.trod enc Tryz.prog W 0 spare held n 9 (([k0, k1, k2, k3, k4, k5].drop 1).take (Tryz.prog.cellsOf 9)) = some y1 := hf 1 _ rfl
    have f2 : DataW.trod enc Tryz.prog W 0 spare held n 3 (([k0, k1, k2, k3, k4, k5].drop 2).take (Tryz.prog.cellsOf 3)) = some y2 := hf 2 _ rfl
    have f3 : DataW.trod enc Tryz.prog W 0 spare held n 60 (([k0, k1, k2, k3, k4, k5].drop 3).take (Tryz.prog.cellsOf 60)) = some y3 := hf 3 _ rfl
    rw [cc9] at f0 f1
    rw [cc3] at f2
    rw [c60] at f3
    obtain ⟨m, e0, -, -⟩ := DataW.trod_string Tryz.underlying9 (show DataW.trod enc Tryz.prog W 0 spare held n 9 [k0] = some y0 from f0)
    obtain ⟨n', e1, -, -⟩ := DataW.trod_string Tryz.underlying9 (show DataW.trod enc Tryz.prog W 0 spare held n 9 [k1] = some y1 from f1)
    obtain ⟨z, e2, -, -⟩ := DataW.trod_int Tryz.underlying3 (show DataW.trod enc Tryz.prog W 0 spare held n 3 [k2] = some y2 from f2)
    obtain ⟨a, o, v, e3⟩ := plat_of_trod (show DataW.trod enc Tryz.prog W 0 spare held n 60 [k3, k4, k5] = some y3 from f3)
    injection e0 with e0
    injection e1 with e1
    injection e2 with e2
    simp only [List.cons.injEq, and_true] at e3
    obtain ⟨e3, e4, e5⟩ := e3
    subst e0 e1 e2 e3 e4 e5
    exact ⟨m, n', z, a, o, v, rfl⟩
end
theorem descChecks_lifted (os : Os) (started : os.Started) (H : Type) (enc : TypeId × Value → H) :
    ReturnsInHanded {} Tryz.checked os 6 .any (fun w args => (Rows.descChecksSpec.pre enc Tryz.prog Tryz.f6 [] false w args ∧ laidMetH Tryz.prog Rows.descChecksRow.laid w) ∧ sizedMet enc Tryz.prog Tryz.f6 (OpenSpec.ofChange Rows.descChecksSpec) false w args)
      (Rows.descChecksSpec.post enc Tryz.prog Tryz.f6 false true false false) := by
  refine returnsInHanded_of_change_and (C := Tryz.checked) (X := fun w _ => laidMetH Tryz.prog Rows.descChecksRow.laid w) (fun _ _ _ hh h => h.of_heap hh) own started (by kernel_rfl) Tryz.func6
    (ChangeSpec.witness_shaped (enc := enc) (C := Tryz.checked) (os := os) (X := fun w _ => laidMetH Tryz.prog Rows.descChecksRow.laid w) false (World.laidAll Tryz.prog os Rows.descChecksRow.laid) #[.agg #[.string ⟨#[]⟩, .string ⟨#[]⟩, .int .i64 0, .string ⟨#[]⟩, .string ⟨#[]⟩, .string ⟨#[]⟩]] 8 (World.laidAll_os _ _ _)
      (World.shaped_of_ZipB (by kernel_rfl) (by kernel_rfl)) (by kernel_rfl) (by kernel_rfl) (by kernel_rfl)
      (by rw [MakeChecks.laidMetH_plain _ _ _ (by kernel_rfl)]; exact laidMet_laidAll _ (by kernel_rfl) (by kernel_rfl))) ?_
  intro W base args ds gs before hval0 hW _ _ hL _
  have hW' := hW
  have hlt := hW.lt
  obtain ⟨p, q, hA0, hV, rfl, _, _⟩ := hW
  have hA : DataW.TrodAll enc Tryz.prog W 0 (fun _ => true) true Tryz.f6.params.toList args.toList ds p := hA0
  rw [Tryz.params6] at hA
  obtain ⟨v0, d0, rfl, rfl, h0⟩ := trodAll_one hA
  obtain ⟨rfl, rfl⟩ := trodVars_none hV
  obtain ⟨f0, g0⟩ := h0
  obtain ⟨m, n, z, a, o, v, e⟩ := desc_of_trod g0
  obtain rfl : v0 = .agg #[.string m, .string n, .int .i64 z, .string a, .string o, .string v] := by
    cases v0 with
    | agg c => simp only [Value.cells] at e; congr 1; exact Array.ext' e
    | _ => simp [Value.cells] at e
  simp only [List.append_nil] at hW' hlt
  refine (checks_any m n z a o v W (globC_of_met hL)).mono fun e W' ⟨he, bel⟩ => ?_
  subst he
  exact ⟨_, rfl, _, _, _, [], _, [], hW', trodAll_mk1 (shut_bool Tryz.underlying4 _), trodAll_mk1 (Below.trod (by kernel_rfl) (by kernel_rfl) (of_decide_eq_true (by kernel_rfl)) ⟨f0, g0⟩ bel fun x hx => hlt x (by simpa using hx)), rfl, bel.frame _, fun h => by cases h⟩
theorem descChecks_holds : Rows.DescChecksSaid :=
  OpenClaim.holds_of_wide 6 Tryz.f6 rfl rfl rfl rfl rfl rfl rfl ⟨rfl, rfl, rfl, rfl, rfl⟩ rfl rfl rfl rfl rfl (by kernel_rfl) Tryz.func6 (by kernel_rfl)
    (of_decide_eq_true (by kernel_rfl)) (by unfold Func.isWrapper; first | (rw [if_pos (by decide +kernel)]; kernel_rfl) | (rw [if_neg (by decide +kernel)]; exact ⟨rfl, rfl⟩))
    (fun os started H enc _ => descChecks_lifted os started H enc)
theorem descChecks_card : Rows.DescChecksCardSaid :=
  Claim7.holds_tied_plain_at .later [] _ _ _ _ descChecks_holds (fun _ h => by cases h) (by kernel_rfl) (fun _ h => by cases h) descChecks_row_tie rfl ⟨rfl, rfl⟩ (by kernel_rfl) rfl
    (fun f fn hf hfn => by
      obtain rfl : f = 6 := Option.some.inj ((show Tryz.prog.funcNamed "crossdock/crossdocklaw23.DescChecks" = some 6 by kernel_rfl).symm.trans hf) |>.symm
      obtain rfl : fn = Tryz.f6 := (Option.some.inj (Tryz.func6.symm.trans hfn)).symm
      exact ⟨by kernel_rfl, fun j t ht => by
        rw [Tryz.params6] at ht
        have hm : t ∈ [62] := by simpa using Array.mem_of_getElem? ht
        have hall : ([62].all fun u => !Tryz.prog.wantsStandIn u) = true := by kernel_rfl
        exact (show Tryz.prog.wantsStandIn t = false by simpa using List.all_eq_true.1 hall t hm)⟩)
    (by kernel_rfl)
#print axioms descChecks_card
end Go.Proofs.YtoimjnmhinfbkaaGreatDoor
