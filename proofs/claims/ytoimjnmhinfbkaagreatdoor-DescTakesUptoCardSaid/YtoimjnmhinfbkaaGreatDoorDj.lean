import Derived.Test.YtoimjnmhinfbkaaGreatDoorDi
namespace Go.Proofs.YtoimjnmhinfbkaaGreatDoor
open Go.RowKit
set_option maxRecDepth 100000

def ParseD (w : World) (r : Except (Int × ByteArray) DescT) (e : Ending) (w' : World) : Prop :=
  ∃ ev, e = .returned (.tuple #[descV (descE r), ev]) ∧ ErrAt w.heap.size w' ev (codeE r) (whereE r) ∧ Below w.heap.size w w'

set_option maxHeartbeats 1600000 in
theorem parse_desc (v : V) (cs : List Value) (w : World) (S : Nat → Prop) (hg : Glob w) (hv : v.Rep w S cs) (hb : v.bulk ≤ 4194304) :
    Calls Tryz.prog 24 #[.agg cs.toArray] w (ParseD w (takeA v ⟨#[]⟩)) := by
  have HT := Lib.hid (fun W (hW : Below w.heap.size w W) bv bg hbv hbg hB => try_take69 v cs W S bv bg w.heap.size (hg.below hW) hbv (hv.agree fun b hs hlt => ⟨hW.block b hlt, hs⟩) hb hbg hB)
  generalize hr : takeA v ⟨#[]⟩ = r at *
  have HR := Lib.hid hr
  obtain ⟨A, ca, B, cb, rfl, -⟩ := hv.open
  clear hv hg hr
  have hmf : ∀ (fn : Fn) (first cap : Array Value) (w : World), (Instr.makeFunc fn first cap).run Tryz.prog w = .ok (.func fn first cap) w := fun _ _ _ _ => rfl
  go_enter Tryz.func24, Tryz.ntmps24
  go_wp2_with fail
  refine (HT.out _ (by (repeat (first | with_reducible refine Below.alloc ?_ (by first | (simp; done) | (simp; omega)) _)); exact Below.refl _ _) w.heap.size (w.heap.size + 1 + 1) (by (repeat rw [alloc_before (by first | (simp; done) | (simp; omega))]); exact alloc_at rfl) (by exact alloc_at (by simp)) (by omega)).mono ?_
  rintro e w1 ⟨ev, rfl, hev, hb1, hal, hd⟩
  have hx : w1.heap[w.heap.size + 1]? = some (.cells #[.string ⟨#[]⟩, .string ⟨#[]⟩, .int .i64 0, .string ⟨#[]⟩, .string ⟨#[]⟩, .string ⟨#[]⟩] 62 (0, 0)) := (hal.block _ (by omega) (by simp)).trans ((alloc_before (by simp)).trans (alloc_at (by simp)))
  have hs := hal.size
  simp at hs hev
  have HBW := Lib.hid ((((((Below.refl w.heap.size w).alloc (Nat.le_refl _) _).alloc (by simp) _).alloc (by simp; omega) _)).trans hb1)
  have cx := fun o => cell_of_row w1 (w.heap.size + 1) o _ 62 (0, 0) hx
  have fx : ∀ o, w1.frozen? ⟨w.heap.size + 1, o, none⟩ = false := fun o => by simp [World.frozen?, hx]
  have hne : ∀ g, w.heap.size + 1 + 1 + 1 ≤ g → g ≠ w.heap.size + 1 := fun g h => by omega
  cases r with
  | ok r =>
    obtain ⟨r1, r2, r3, r4, r5, r6⟩ := r
    have hev2 : ev = .nilIface := by
      rcases hev with h | ⟨g, h1, h2, h3, h4⟩
      · exact h.1
      · exact absurd rfl h3
    subst hev2
    have cd := fun o => cell_of_row w1 (w.heap.size + 1 + 1) o _ 62 (0, 0) hd
    simp only [descC, descE] at cd
    clear hev hal hd hx hb1 hne
    go_wp2
    refine bodyPost_ret (v := .tuple #[.agg #[.string r1, .string r2, .int .i64 r3, .string r4, .string r5, .string r6], .nilIface]) (by simp [results, Tryz.results24, go_sem, cx, fx]) rfl ?_
    refine ⟨.nilIface, rfl, .inl ⟨rfl, rfl, rfl⟩, ?_⟩
    (repeat (first | with_reducible refine Below.setCell ?_ (by simp) _))
    exact HBW.out
  | error b =>
    obtain ⟨c, z⟩ := b
    have hcz := takeA_codes HR.out
    obtain ⟨g, rfl, h2, h3, h4⟩ := hev.resolve_left (fun h => hcz h.2.1)
    have HG4 := Lib.hid h4
    have hgn : g ≠ w.heap.size + 1 := by omega
    clear hev hal hd hx hb1 hne hcz h4 h3
    go_wp2
    refine bodyPost_ret (v := .tuple #[.agg #[.string ⟨#[]⟩, .string ⟨#[]⟩, .int .i64 0, .string ⟨#[]⟩, .string ⟨#[]⟩, .string ⟨#[]⟩], .iface 106 (.pointer (some ⟨g, 0, none⟩))]) (by simp [results, Tryz.results24, go_sem, cx, fx]) rfl ?_
    refine ⟨_, rfl, .inr ⟨g, rfl, by omega, takeA_codes HR.out, ?_⟩, ?_⟩
    · (repeat (first | rw [Below.heap_setCell _ _ _ _ (by show g ≠ _; omega)]))
      exact HG4.out
    · (repeat (first | with_reducible refine Below.setCell ?_ (by simp) _))
      exact HBW.out

end Go.Proofs.YtoimjnmhinfbkaaGreatDoor
