/- PROVED: crossdocklaw23.DescTakes returns true at every value whose reading is of bulk at most 1048576, and the argument reads behind the call as it read before. Conditions: the row's listed variables read as the program's own text lays them (tied); the bound; no other. -/
import Derived.Test.YtoimjnmhinfbkaaGreatDoorDl
import Derived.Test.YtoimjnmhinfbkaaGreatDoorYt
import Derived.Test.YtoimjnmhinfbkaaGreatDoorU
import Derived.Test.YtoimjnmhinfbkaaGreatDoorCards
import Derived.Test.YtoimjnmhinfbkaaGreatDoorTie
import Derived.ProofKit
import Derived.OpenShut
import Derived.Lay
import Derived.Carry
import Derived.SevenTiedAt
import Derived.ChangeSame
import Derived.ChangeVars
import Derived.JoinedOf
import Derived.RowKitTokens
import Derived.Deep.DeepHandedRow
namespace Go.Proofs.YtoimjnmhinfbkaaGreatDoor
open Go.ChangeShapes Go.WideShapes Go.ChangeAt Go.RowKit Go.Lib
set_option maxRecDepth 100000

theorem globT_of_met {W : World} (h : laidMetH Tryz.prog Rows.descTakesUptoRow.laid W) : Glob W := by
  rw [MakeChecks.laidMetH_plain _ _ _ (by kernel_rfl)] at h
  exact glob_of_laid (laidMet.reads h (by simp [Rows.descTakesUptoRow])) (laidMet.reads h (by simp [Rows.descTakesUptoRow])) (laidMet.reads h (by simp [Rows.descTakesUptoRow])) (laidMet.reads h (by simp [Rows.descTakesUptoRow])) (laidMet.reads h (by simp [Rows.descTakesUptoRow]))

theorem takesContract (H : Type) (enc : TypeId × Value → H) (W : World) (base : Nat) (args : Array Value) (ds gs : List (DataW H)) (before : List MemPlace)
    (hval : ∀ (j : Nat) t v, Tryz.f5.params[j]? = some t → args[j]? = some v → Value.okWide Tryz.prog W .any base t v)
    (hW : DataW.Whole enc Tryz.prog Tryz.f5.params.toList Rows.descTakesSpec.vars false W args.toList ds gs before) (hk : Rows.uptoSmall H (ds ++ gs) = true) (hL : laidMetH Tryz.prog Rows.descTakesUptoRow.laid W) :
    Calls Tryz.prog 5 args W fun e W' => ∃ v, e = .returned v ∧ Rows.descTakesSpec.post enc Tryz.prog Tryz.f5 false true false false W args v W' := by
  have hW' := hW
  have hlt := hW.lt
  obtain ⟨p, q, hA0, hV, rfl, _, _⟩ := hW
  have hA : DataW.TrodAll enc Tryz.prog W 0 (fun _ => true) true Tryz.f5.params.toList args.toList ds p := hA0
  rw [Tryz.params5] at hA hval
  obtain ⟨v0, d0, rfl, rfl, h0⟩ := trodAll_one hA
  obtain ⟨rfl, rfl⟩ := trodVars_none hV
  have hk' : Rows.uptoBulk d0 ≤ 1048576 := by
    simpa [Rows.uptoSmall, Rows.uptoBulkAll] using hk
  obtain ⟨f0, g0⟩ := h0
  obtain ⟨v, hv, hm⟩ := rep_of_trod _ _ _ _ (Nat.le_refl _) g0
  obtain ⟨cs, rfl⟩ : ∃ cs : List Value, v0 = .agg cs.toArray := by
    have hl := hv.len
    cases v0 with
    | agg c => exact ⟨c.toList, by simp⟩
    | _ => simp [Value.cells] at hl
  have hv' : v.Rep W (fun b => b < W.heap.size) cs := by simpa [Value.cells] using hv
  simp only [List.append_nil] at hW' hlt
  refine (takes_any v cs W _ (globT_of_met hL) hv' (by have := v.bulk_le; have : v.mass ≤ Rows.uptoBulk d0 := hm; omega)).mono fun e W' ⟨he, bel⟩ => ?_
  subst he
  refine ⟨_, rfl, _, _, _, [], _, [], hW', trodAll_mk1 (shut_bool Tryz.underlying4 _), trodAll_mk1 (Below.trod (by kernel_rfl) (by kernel_rfl) (of_decide_eq_true (by kernel_rfl)) ⟨f0, g0⟩ bel fun x hx => hlt x (by simpa using hx)), rfl, bel.frame _, fun h => by cases h⟩

theorem descTakes_lifted (os : Os) (started : os.Started) (H : Type) (enc : TypeId × Value → H) (F : Stop.Interp) :
    ReturnsInHanded {} Tryz.checked os 5 .any ((Rows.OpenSpec.upto Rows.descTakesSpec).preRow enc Tryz.prog Tryz.f5 Rows.descTakesUptoRow.domain false Rows.descTakesUptoRow.laid) (((Rows.OpenSpec.upto Rows.descTakesSpec).at F).post enc Tryz.prog Tryz.f5 false true false false) := by
  refine returnsInHanded_of_row (C := Tryz.checked) (s := Rows.OpenSpec.upto Rows.descTakesSpec) own started (by kernel_rfl) Tryz.func5 ?_ ?_
  · have hx : DataW.whole enc Tryz.prog ((World.laidAll Tryz.prog os Rows.descTakesUptoRow.laid).forCall (fun _ _ => 0) ⟨#[], #[.agg #[.int .i64 0, .bool false, .string ⟨#[]⟩, .slice none 0 0, .slice none 0 0]], []⟩).memory Tryz.f5.params.toList Rows.descTakesSpec.vars false (#[Value.agg #[.int .i64 0, .bool false, .string ⟨#[]⟩, .slice none 0 0, .slice none 0 0]] : Array Value).toList 8 = some ([.agg [.lit (.int .i64 0), .lit (.bool false), .lit (.string []), .nil, .nil]], [], []) := by kernel_rfl
    exact ⟨World.laidAll Tryz.prog os Rows.descTakesUptoRow.laid, fun _ _ => 0, ⟨#[], #[.agg #[.int .i64 0, .bool false, .string ⟨#[]⟩, .slice none 0 0, .slice none 0 0]], []⟩, World.laidAll_os _ _ _, World.shaped_of_ZipB (by kernel_rfl) (by kernel_rfl), rfl, (Input.okWide_of_okWideB (by kernel_rfl)).2,
      OpenSpec.preRow_of_cond 8 hx (by kernel_rfl) (fun k hk => by cases hk; kernel_rfl) (by kernel_rfl) (by rw [MakeChecks.laidMetH_plain _ _ _ (by kernel_rfl)]; exact laidMet_laidAll _ (by kernel_rfl) (by kernel_rfl)), by
        simp only [Assume.holds]
        exact ⟨by simp, by simp, fun _ => Modest.zero, by simp, by simp⟩⟩
  · intro W base args ds gs before hval hW _ hcond _ hL _ _
    exact takesContract H enc W base args ds gs before hval hW (hcond _ rfl) hL

theorem descTakes_said : Rows.DescTakesUptoSaid :=
  OpenClaim.holds_of_cond 5 Tryz.f5 rfl rfl rfl rfl rfl rfl rfl ⟨rfl, rfl, rfl, rfl, rfl⟩ rfl rfl rfl rfl rfl (by kernel_rfl) Tryz.func5 (by kernel_rfl)
    (of_decide_eq_true (by kernel_rfl)) (by unfold Func.isWrapper; first | (rw [if_pos (by decide +kernel)]; kernel_rfl) | (rw [if_neg (by decide +kernel)]; exact ⟨rfl, rfl⟩))
    (fun os started H enc _ F => by rw [OpenClaim.pre_eq_preRow]; exact descTakes_lifted os started H enc F)

theorem descTakes_card : Rows.DescTakesUptoCardSaid :=
  Claim7.holds_tied_plain_at .later [] _ _ _ _ descTakes_said (fun _ h => by cases h) (by kernel_rfl) (fun _ h => by cases h) descTakesUpto_row_tie rfl ⟨rfl, rfl⟩ (by kernel_rfl) rfl
    (fun f fn hf hfn => by
      obtain rfl : f = 5 := Option.some.inj ((show Tryz.prog.funcNamed "crossdock/crossdocklaw23.DescTakes" = some 5 by kernel_rfl).symm.trans hf) |>.symm
      obtain rfl : fn = Tryz.f5 := (Option.some.inj (Tryz.func5.symm.trans hfn)).symm
      exact ⟨by kernel_rfl, fun j t ht => by
        rw [Tryz.params5] at ht
        have hm : t ∈ [27] := by simpa using Array.mem_of_getElem? ht
        have hall : ([27].all fun u => !Tryz.prog.wantsStandIn u) = true := by kernel_rfl
        exact (show Tryz.prog.wantsStandIn t = false by simpa using List.all_eq_true.1 hall t hm)⟩)
    (by kernel_rfl)
#print axioms descTakes_card
end Go.Proofs.YtoimjnmhinfbkaaGreatDoor
