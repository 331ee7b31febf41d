import Derived.Test.YtoimjnmhinfbkaaGreatDoorProg
import Derived.WalkKit
import Derived.WalkSpells
import Derived.WalkLawsBesides
import Derived.Recover
import Derived.Lib.Hide
namespace Go.Proofs.YtoimjnmhinfbkaaGreatDoor
open Go.RowKit

theorem throw_any (c : Int) (s : ByteArray) (w : World) :
    Calls Tryz.prog 98 #[.int .i64 c, .string s] w fun e w' => e = .panicked [{ v := .iface 106 (.pointer (some ⟨w.heap.size, 0, none⟩)), recovered := false }] ∧ w' = w.alloc (.cells #[.int .i64 c, .string s] 114) := by
  go_enter Tryz.func98, Tryz.ntmps98
  go_wp2
  exact ⟨rfl, rfl, rfl⟩

theorem must_yes (c : Int) (s : ByteArray) (w : World) :
    Calls Tryz.prog 99 #[.bool true, .int .i64 c, .string s] w fun e w' => e = .returned (.tuple #[]) ∧ w' = w := by
  go_enter Tryz.func99, Tryz.ntmps99
  go_wp2
  go_end0
  exact ⟨rfl, rfl⟩

theorem must_no (c : Int) (s : ByteArray) (w : World) :
    Calls Tryz.prog 99 #[.bool false, .int .i64 c, .string s] w fun e w' => e = .panicked [{ v := .iface 106 (.pointer (some ⟨w.heap.size, 0, none⟩)), recovered := false }] ∧ w' = w.alloc (.cells #[.int .i64 c, .string s] 114) := by
  go_enter Tryz.func99, Tryz.ntmps99
  go_wp2_with (go_at_call 98; refine (throw_any _ _ _).mono ?_; rintro e w' ⟨rfl, rfl⟩)
  exact ⟨rfl, rfl, rfl⟩

set_option maxRecDepth 100000 in
theorem catch_panicking (p : Addr) (x : Value) (a : Option Addr) (older : List PanicEntry) (w : World) (hc : w.cell? p = some x) (hz : w.frozen? p = false) :
    CallsD Tryz.prog 49 #[.pointer (some p)] (.panicking ({ v := .iface 106 (.pointer a), recovered := false } :: older)) w fun e u' w' =>
      e = .returned (.tuple #[]) ∧ u' = .panicking ({ v := .iface 106 (.pointer a), recovered := true } :: older) ∧ w' = w.setCell p (.iface 106 (.pointer a)) := by
  refine callsD_of_wpS Tryz.func49 rfl fun c₀ cs hu => ?_
  apply wpS_seq
  apply wpS_region
  simp [wpOpsS, go_sem, recoverD, hu, Tryz.ntmps49, Exit.thenS]
  clear hu
  refine wpS_of_wp ?_
  simp only [Array.replicate_succ, Array.replicate_zero, List.push_toArray, List.nil_append, List.cons_append]
  have hta : ∀ w, (Instr.typeAssert (.iface 106 (.pointer a)) 20 106 true).run Tryz.prog w = .ok (.tuple #[.pointer a, .bool true]) w := fun _ => by kernel_rfl
  go_wp2
  simp [bodyPostS, results, Tryz.results49]

theorem catch_idle (p : Addr) (w : World) :
    CallsD Tryz.prog 49 #[.pointer (some p)] .returning w fun e u' w' => e = .returned (.tuple #[]) ∧ u' = .returning ∧ w' = w := by
  refine callsD_of_wpS Tryz.func49 rfl fun c₀ cs hu => ?_
  apply wpS_seq
  apply wpS_region
  simp [wpOpsS, go_sem, recoverD, hu, Tryz.ntmps49, Exit.thenS]
  have Hu := Lib.hid hu
  clear hu
  refine wpS_of_wp ?_
  simp only [Array.replicate_succ, Array.replicate_zero, List.push_toArray, List.nil_append, List.cons_append]
  go_wp2
  have hu := Hu.out
  clear Hu
  cases c₀
  simp_all [bodyPostS, results, Tryz.results49]

set_option maxRecDepth 100000 in
/-- what a call of a closure that captures does, under 'Try'. -/
theorem try_any {K : FuncId} {cap : Array Value} {w : World} {Q : Ending → World → Prop}
    (hent : ∀ w, (callFunc K cap).run Tryz.prog w = .ok (.enter K cap) w)
    (h : Calls Tryz.prog K cap (w.alloc (.cells #[.nilIface] 29)) fun e w2 =>
      w2.cell? ⟨w.heap.size, 0, none⟩ = some .nilIface ∧ w2.frozen? ⟨w.heap.size, 0, none⟩ = false ∧
      ((e = .returned (.tuple #[]) ∧ Q (.returned .nilIface) (w2.setCell ⟨w.heap.size, 0, none⟩ .nilIface)) ∨
       (∃ a, e = .panicked [{ v := .iface 106 (.pointer a), recovered := false }] ∧ Q (.returned (.iface 106 (.pointer a))) (w2.setCell ⟨w.heap.size, 0, none⟩ (.iface 106 (.pointer a)))))) :
    Calls Tryz.prog 10 #[.func (.func K) #[] cap] w Q := by
  have hmf : ∀ (fn : Fn) (first cap : Array Value) (w : World), (Instr.makeFunc fn first cap).run Tryz.prog w = .ok (.func fn first cap) w := fun _ _ _ _ => rfl
  have hfn : ∀ w, (binOp .eql 1 (.func (.func K) #[] cap) .nilFunc).run Tryz.prog w = .ok (.bool false) w := fun _ => by kernel_rfl
  have H := Lib.hid h
  clear h
  go_enter_defers Tryz.func10, Tryz.ntmps10
  go_wp2_with fail
  refine H.out.mono ?_
  rintro e w2 ⟨h1, h2, ⟨rfl, h3⟩ | ⟨a, rfl, h3⟩⟩
  · have H3 := Lib.hid h3
    clear h3
    go_wp2
    refine leaves_cons (f := 49) (args := #[.pointer (some ⟨w.heap.size, 0, none⟩)]) (by simp) (by simp [go_sem]) ?_
    refine (catch_idle ⟨w.heap.size, 0, none⟩ _).mono ?_
    rintro e u' w'' ⟨rfl, rfl, rfl⟩
    have h3 := H3.out
    simpa [Leaves, settle, results, Tryz.results10, go_sem, h1] using h3
  · have H3 := Lib.hid h3
    clear h3
    go_wp2
    refine leaves_cons (f := 49) (args := #[.pointer (some ⟨w.heap.size, 0, none⟩)]) (by simp) (by simp [go_sem]) ?_
    refine (catch_panicking ⟨w.heap.size, 0, none⟩ .nilIface a [] _ h1 h2).mono ?_
    rintro e u' w'' ⟨rfl, rfl, rfl⟩
    have h3 := H3.out
    simpa [Leaves, settle, results, Tryz.results10, go_sem, h1] using h3
end Go.Proofs.YtoimjnmhinfbkaaGreatDoor
