import Derived.Test.YtoimjnmhinfbkaaGreatDoorDj
namespace Go.Proofs.YtoimjnmhinfbkaaGreatDoor
open Go.RowKit
set_option maxRecDepth 100000

def txV (s : ByteArray) : V := .mk 3 false s [] []
def aliveD : V := .mk 5 false ⟨#[]⟩ [txV ⟨#[120]⟩, txV ⟨#[97]⟩, .mk 2 false ⟨#[48]⟩ [] []] [⟨#[100, 105, 103, 101, 115, 116]⟩, ⟨#[109, 101, 100, 105, 97, 84, 121, 112, 101]⟩, ⟨#[115, 105, 122, 101]⟩]
theorem aliveD_takes : takeA aliveD ⟨#[]⟩ = .error (2, ⟨#[100, 105, 103, 101, 115, 116]⟩) := by kernel_rfl

theorem row_sub {W : World} {m o : Nat} {cs : Array Value} {t : TypeId} (h : W.heap[m]? = some (.cells cs t (0, 0))) (l : List Value) (hl : ∀ i, ∀ h : i < l.length, cs[o + i]? = some l[i]) : Row W m o l := fun i hi => by
  rw [cell_of_row W m _ _ t (0, 0) h]; exact hl i hi

theorem tx_rep (W : World) (S : Nat → Prop) (k : Int) (s : ByteArray) : (V.mk k false s [] []).Rep W S [.int .i64 k, .bool false, .string s, .slice none 0 0, .slice none 0 0] :=
  ⟨none, 0, none, 0, rfl, Nat.le_refl _, Nat.le_refl _, .inl rfl, .inl rfl⟩

theorem aliveD_rep (W : World) (n m : Nat) (h0 : W.heap[n]? = some (.cells #[.string ⟨#[100, 105, 103, 101, 115, 116]⟩, .string ⟨#[109, 101, 100, 105, 97, 84, 121, 112, 101]⟩, .string ⟨#[115, 105, 122, 101]⟩] 9 (0, 0)))
    (h1 : W.heap[m]? = some (.cells #[.int .i64 3, .bool false, .string ⟨#[120]⟩, .slice none 0 0, .slice none 0 0, .int .i64 3, .bool false, .string ⟨#[97]⟩, .slice none 0 0, .slice none 0 0, .int .i64 2, .bool false, .string ⟨#[48]⟩, .slice none 0 0, .slice none 0 0] 27 (0, 0))) :
    aliveD.Rep W (fun _ => True) [.int .i64 5, .bool false, .string ⟨#[]⟩, .slice (some ⟨m, 0, none⟩) 3 3, .slice (some ⟨n, 0, none⟩) 3 3] := by
  refine ⟨_, 3, _, 3, rfl, Nat.le_refl _, Nat.le_refl _, .inr ⟨_, 0, rfl, trivial, row_of_heap h0⟩, .inr ⟨_, 0, rfl, trivial, ⟨_, row_sub h1 [.int .i64 3, .bool false, .string ⟨#[120]⟩, .slice none 0 0, .slice none 0 0] ?_, tx_rep _ _ _ _⟩, ⟨_, row_sub h1 [.int .i64 3, .bool false, .string ⟨#[97]⟩, .slice none 0 0, .slice none 0 0] ?_, tx_rep _ _ _ _⟩, ⟨_, row_sub h1 [.int .i64 2, .bool false, .string ⟨#[48]⟩, .slice none 0 0, .slice none 0 0] ?_, tx_rep _ _ _ _⟩, trivial⟩⟩
  all_goals
    intro i hi
    rcases i with _ | _ | _ | _ | _ | i
    all_goals first | rfl | (simp at hi; omega)

theorem text68 (s : ByteArray) (w : World) : Calls Tryz.prog 68 #[.string s] w fun e w' => e = .returned (.agg #[.int .i64 3, .bool false, .string s, .slice none 0 0, .slice none 0 0]) ∧ Below w.heap.size w w' := by
  go_enter Tryz.func68, Tryz.ntmps68
  go_wp2
  refine bodyPost_ret (v := .agg #[.int .i64 3, .bool false, .string s, .slice none 0 0, .slice none 0 0]) (by simp [results, Tryz.results68, go_sem]) rfl ⟨rfl, ?_⟩
  (repeat (first | with_reducible refine Below.setCell ?_ (by simp) _))
  exact (Below.refl _ _).alloc (Nat.le_refl _) _

set_option maxHeartbeats 1600000 in
theorem alive23 (w : World) (hg : Glob w) : Calls Tryz.prog 23 #[] w fun e w' => e = .returned (.bool true) ∧ Below w.heap.size w w' := by
  have HG := Lib.hid hg
  clear hg
  go_enter Tryz.func23, Tryz.ntmps23
  go_wp2_with fail
  refine (text68 _ _).mono ?_
  rintro e w1 ⟨rfl, hb1⟩
  have HB1 := Lib.hid hb1
  have z1 := hb1.size
  simp at z1
  clear hb1
  go_wp2_with fail
  refine (text68 _ _).mono ?_
  rintro e w2 ⟨rfl, hb2⟩
  have HB2 := Lib.hid hb2
  have z2 := hb2.size
  (try simp at z2)
  clear hb2
  go_wp2_with fail
  refine (parse_desc aliveD _ _ (fun _ => True) (HG.out.below ?_) (aliveD_rep _ w.heap.size w2.heap.size ?_ ?_) (by decide)).mono ?_
  · exact (((((Below.refl _ _).alloc (Nat.le_refl _) _).trans (HB1.out.mono (by simp))).trans (HB2.out.mono (by omega))).alloc (by omega) _)
  · rw [alloc_before (by omega), HB2.out.block _ (by omega), HB1.out.block _ (by simp)]
    exact alloc_at rfl
  · exact alloc_at rfl
  · rintro e w3 ⟨ev, rfl, hev, hb3⟩
    rw [aliveD_takes] at hev ⊢
    obtain ⟨g, rfl, h2, h3, h4⟩ := hev.resolve_left (fun h => by have := h.2.1; simp [codeE] at this)
    have hlt : g < w3.heap.size := (Array.getElem?_eq_some_iff.1 h4).1
    have c0 := cell_of_row w3 g 0 _ 114 (0, 0) h4
    have c1 := cell_of_row w3 g 1 _ 114 (0, 0) h4
    simp only [codeE, whereE, descE, descV] at c0 c1 ⊢
    have HB3 := Lib.hid hb3
    have C0 := Lib.hid c0
    have C1 := Lib.hid c1
    have hs3 : w2.heap.size + 1 ≤ w3.heap.size := by have := hb3.size; simpa using this
    have hk : ∀ W : World, W = w3.alloc (.cells #[.string ⟨#[]⟩, .string ⟨#[]⟩, .int .i64 0, .string ⟨#[]⟩, .string ⟨#[]⟩, .string ⟨#[]⟩] 62) → W.cell? ⟨g, 0, none⟩ = some (.int .i64 2) ∧ W.cell? ⟨g, 1, none⟩ = some (.string ⟨#[100, 105, 103, 101, 115, 116]⟩) := fun W hW => by
      subst hW
      exact ⟨((cell_of_heap (alloc_before hlt)).trans c0).trans (by simp), ((cell_of_heap (alloc_before hlt)).trans c1).trans (by simp)⟩
    have HK := Lib.hid hk
    clear hev h3 h4 c0 c1 hb3 hk
    go_wp2_with (first | (go_at_call 14; refine (code_fault g 2 _ (HK.out _ rfl).1).mono ?_; rintro e w4 ⟨rfl, rfl⟩) | (go_at_call 15; refine (where_fault g _ _ (HK.out _ rfl).2).mono ?_; rintro e w4 ⟨rfl, rfl⟩))
    go_ret
    exact ⟨rfl, (((((((Below.refl _ _).alloc (Nat.le_refl _) _).trans (HB1.out.mono (by simp))).trans (HB2.out.mono (by omega))).alloc (by omega) _)).trans (HB3.out.mono (by simp; omega))).alloc (by omega) _⟩

end Go.Proofs.YtoimjnmhinfbkaaGreatDoor
