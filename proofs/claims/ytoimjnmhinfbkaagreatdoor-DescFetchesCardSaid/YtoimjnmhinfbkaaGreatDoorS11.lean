import Derived.Shelf.Strings.BuilderK
import Derived.Test.YtoimjnmhinfbkaaGreatDoorS10
namespace Go.Proofs.YtoimjnmhinfbkaaGreatDoor
open Go.RowKit
open Go.Shelf
set_option maxRecDepth 100000
def lays167_ren : Go.Shelf.Ren := ⟨fun | 167 => 175 | 240 => 184 | 276 => 201 | n => n, fun | 70 => 232 | 0 => 0 | 4 => 4 | 9 => 9 | 20 => 20 | 72 => 234 | 37 => 87 | 164 => 278 | 5 => 5 | 75 => 29 | 80 => 55 | n => n, fun | n => n⟩
theorem lays167 : Go.Proofs.Lays.n167 Tryz.prog lays167_ren := {
 mixed := by kernel_rfl
 f167 := Tryz.func175.trans (congrArg some (by kernel_rfl))
 f240 := Tryz.func184.trans (congrArg some (by kernel_rfl))
 f276 := Tryz.func201.trans (congrArg some (by kernel_rfl))
 t70 := Tryz.underlying232
 a70 := Tryz.isAgg232
 z70 := Tryz.sizeOf232
 v70 := Tryz.zeroValue232
 t0 := Tryz.underlying0
 a0 := Tryz.isAgg0
 z0 := Tryz.sizeOf0
 v0 := Tryz.zeroValue0
 t4 := Tryz.underlying4
 a4 := Tryz.isAgg4
 z4 := Tryz.sizeOf4
 v4 := Tryz.zeroValue4
 t9 := Tryz.underlying9
 a9 := Tryz.isAgg9
 z9 := Tryz.sizeOf9
 v9 := Tryz.zeroValue9
 t20 := Tryz.underlying20
 a20 := Tryz.isAgg20
 z20 := Tryz.sizeOf20
 v20 := Tryz.zeroValue20
 t72 := Tryz.underlying234
 a72 := Tryz.isAgg234
 z72 := Tryz.sizeOf234
 v72 := Tryz.zeroValue234
 t37 := Tryz.underlying87
 a37 := Tryz.isAgg87
 z37 := Tryz.sizeOf87
 v37 := Tryz.zeroValue87
 t164 := Tryz.underlying278
 a164 := Tryz.isAgg278
 z164 := Tryz.sizeOf278
 v164 := Tryz.zeroValue278
 t5 := Tryz.underlying5
 a5 := Tryz.isAgg5
 z5 := Tryz.sizeOf5
 v5 := Tryz.zeroValue5
 t75 := Tryz.underlying29
 a75 := Tryz.isAgg29
 z75 := Tryz.sizeOf29
 v75 := Tryz.zeroValue29 }
theorem extra167 : Builder.Extra Tryz.prog lays167_ren := {
 sizeBuilder := by kernel_rfl
 liesBuilder := by kernel_rfl
 t5 := Tryz.underlying5
 a5 := Tryz.isAgg5
 z5 := Tryz.sizeOf5
 v5 := Tryz.zeroValue5
 infoByte := by kernel_rfl
 cellsByte := by kernel_rfl
 sizeByte := by kernel_rfl
 neB5 := by decide }
theorem writeByte_any (B b : Nat) (bs : List Value) (c : Int) (w : World) (h : Lib.IsBuilderF 234 5 B b bs w) (hlen : bs.length + 1 ≤ 140737488355328) (hBw : B ≤ w.heap.size) :
  Calls Tryz.prog 175 #[.pointer (some ⟨b, 0, none⟩), .int .u8 c] w fun e w' => e = .returned .nilIface ∧ (Lib.BuilderAtF 234 5 B b (.pointer (some ⟨b, 0, none⟩)) (bs ++ [.int .u8 c]) w' ∧ Below B w w' ∧ Lib.OthersKept 5 (some b) w w') := Any.Builder_WriteByte_k lays167 extra167 B b bs c w h hlen hBw
/-- a figure of base 16. -/
def hexD (k : Nat) : UInt8 := (#[48, 49, 50, 51, 52, 53, 54, 55, 56, 57, 97, 98, 99, 100, 101, 102] : Array UInt8).getD k 0
def hexL (l : List Nat) : List UInt8 := l.flatMap fun x => [hexD (x / 16), hexD (x % 16)]
theorem hexL_snoc (l : List Nat) (x : Nat) : hexL (l ++ [x]) = hexL l ++ [hexD (x / 16)] ++ [hexD (x % 16)] := by simp [hexL]
theorem hexL_length (l : List Nat) : (hexL l).length = 2 * l.length := by
 induction l with
 | nil => rfl
 | cons x l ih =>
  simp only [hexL, List.flatMap_cons, List.length_append, List.length_cons, List.length_nil] at ih ⊢
  omega
theorem hexD_at {k : Nat} (h : k < 16) (h' : k < (⟨#[48, 49, 50, 51, 52, 53, 54, 55, 56, 57, 97, 98, 99, 100, 101, 102]⟩ : ByteArray).size) : (⟨#[48, 49, 50, 51, 52, 53, 54, 55, 56, 57, 97, 98, 99, 100, 101, 102]⟩ : ByteArray)[k] = hexD k := by
 unfold hexD
 rw [Array.getD_eq_getD_getElem?, Array.getElem?_eq_getElem (show k < (#[48, 49, 50, 51, 52, 53, 54, 55, 56, 57, 97, 98, 99, 100, 101, 102] : Array UInt8).size from h)]
 rfl
set_option maxHeartbeats 3200000 in
theorem hex_any (l : List Nat) (A : Option Addr) (cap : Nat) (w : World) (hl : ∀ x ∈ l, x < 256) (hn : l.length ≤ 1000000000) (hc : l.length ≤ cap) (hb : BytesAt w A l) :
  Calls Tryz.prog 138 #[.slice A l.length cap] w fun e w' => e = .returned (.string ⟨(hexL l).toArray⟩) ∧ Below w.heap.size w w' := by
 have HL := Lib.hid hl
 have HB := Lib.hid hb
 clear hl hb
 go_enter Tryz.func138, Tryz.ntmps138
 go_wp2_with fail
 have HI := Lib.hid (Lib.IsBuilderF.of (Lib.fresh_isBuilder 234 5 w))
 have HW := Lib.hid (show Below w.heap.size w (w.alloc (.cells #[.pointer none, .slice none 0 0] 234)) from (Below.refl _ _).alloc (Nat.le_refl _) _)
 go_loopw [8] (fun i wr => ∃ k : Nat, k ≤ l.length ∧ i = .int .i64 k ∧ Lib.IsBuilderF 234 5 w.heap.size w.heap.size (Lib.byteCells (hexL (l.take k))) wr ∧ Below w.heap.size w wr) (fun i _ => l.length - (intOf i).toNat)
 case atStart => exact ⟨0, by omega, rfl, HI.out, HW.out⟩
 case round =>
  clear HI HW
  obtain ⟨k, hk, rfl, hi, hbl⟩ := hrel
  have HI := Lib.hid hi
  have HBL := Lib.hid hbl
  clear hi hbl
  have hk0 : (0 : Int) ≤ (k : Int) := Int.natCast_nonneg _
  by_cases hlt : k < l.length
  ·have hlt' : (k : Int) < (l.length : Int) := by omega
   rcases HB.out with h0 | ⟨a, rfl, ha⟩
   ·subst h0; simp at hlt
   have hcell := (HBL.out.cell (World.block_lt_of_cell? w _ (ha k hlt))).trans (ha k hlt)
   have hx := HL.out l[k] (List.getElem_mem hlt)
   obtain ⟨x, hxe⟩ : ∃ x, x = l[k] := ⟨_, rfl⟩
   rw [← hxe] at hcell hx
   clear ha
   go_wp2_with fail
   have hsz0 : w.heap.size ≤ wr.heap.size := HBL.out.size
   refine (writeByte_any _ _ _ _ _ HI.out (by simp only [Lib.byteCells, List.length_map, hexL_length, List.length_take]; omega) hsz0).mono ?_
   rintro e w2 ⟨rfl, hi2, hb2, -⟩
   rw [hexD_at (by omega)] at hi2
   have HI2 := Lib.hid (show Lib.IsBuilderF 234 5 w.heap.size w.heap.size (Lib.byteCells (hexL (l.take k) ++ [hexD (l[k] / 16)])) w2 from by
    unfold Lib.byteCells
    rw [List.map_append]
    exact .inr hi2)
   have HB2 := Lib.hid (HBL.out.trans hb2)
   clear hi2 hb2
   go_wp2_with fail
   have hsz2 : w.heap.size ≤ w2.heap.size := HB2.out.size
   refine (writeByte_any _ _ _ _ _ HI2.out (by simp only [Lib.byteCells, List.length_map, hexL_length, List.length_take, List.length_append, List.length_cons, List.length_nil]; omega) hsz2).mono ?_
   rintro e w3 ⟨rfl, hi3, hb3, -⟩
   rw [hexD_at (by omega)] at hi3
   have HI3 := Lib.hid (show Lib.IsBuilderF 234 5 w.heap.size w.heap.size (Lib.byteCells (hexL (l.take (k + 1)))) w3 from by
    rw [← List.take_append_getElem hlt, hexL_snoc]
    unfold Lib.byteCells at hi3 ⊢
    rw [List.map_append]
    exact .inr hi3)
   have HB3 := Lib.hid (HB2.out.trans hb3)
   clear hi3 hb3 HI HBL HI2 HB2
   go_wp2
   go_roundw
   case rel => exact ⟨k + 1, by omega, (by first | rfl | go_num), HI3.out, HB3.out⟩
   case measure => simp [intOf]; omega
  ·obtain rfl : k = l.length := by omega
   have hsz0 : w.heap.size ≤ wr.heap.size := HBL.out.size
   go_wp2_with fail
   rw [List.take_length] at HI
   refine (Tryz.Builder_String_any_f _ _ _ _ HI.out hsz0).mono ?_
   rintro e w2 ⟨rfl, -, hb2⟩
   go_wp2
   go_ret
   exact ⟨rfl, HBL.out.trans hb2⟩
end Go.Proofs.YtoimjnmhinfbkaaGreatDoor

namespace Go.Proofs.YtoimjnmhinfbkaaGreatDoor
open Go.RowKit
set_option maxRecDepth 100000
/-- "sha256:" ahead of the figures. -/
def nameL (d : List Nat) : List UInt8 := [115, 104, 97, 50, 53, 54, 58] ++ hexL d
theorem outB_bytes (s : List (BitVec 32)) (k : Nat) : ∀ x ∈ outB s k, x < 256 := by
 induction k with
 | zero => intro x h; cases h
 | succ k ih =>
  intro x h
  rcases List.mem_append.1 h with h | h
  ·exact ih x h
  ·simp only [b4, List.mem_cons, List.not_mem_nil, or_false] at h
   omega
theorem arrB_full {d : List Nat} (h : d.length = 32) : arrB d = (d.map B8).toArray := by unfold arrB; rw [h]; simp
set_option maxHeartbeats 3200000 in
theorem name_any (d : List Nat) (w : World) (hd : d.length = 32) (hl : ∀ x ∈ d, x < 256) :
  Calls Tryz.prog 113 #[.agg (arrB d)] w fun e w' => e = .returned (.string ⟨(nameL d).toArray⟩) ∧ Below w.heap.size w w' := by
 go_enter Tryz.func113, Tryz.ntmps113
 go_wp2_with fail
 have hb : BytesAt (w.alloc (.cells (arrB d) 177)) (some ⟨w.heap.size, 0, none⟩) d := .inr ⟨_, rfl, fun j hj => by
  have h1 := cell_of_row (w.alloc (.cells (arrB d) 177)) w.heap.size j (arrB d) 177 (0, 0) (alloc_at rfl)
  rw [show (⟨w.heap.size, 0, none⟩ : Addr).add j = ⟨w.heap.size, j, none⟩ from by
   unfold Addr.add
   by_cases h : j = 0
   ·rw [if_pos h, h]
   ·rw [if_neg h, Nat.zero_add], h1, arrB_full hd]
  simp [B8, List.getElem?_eq_getElem hj]⟩
 have hx := hex_any d (some ⟨w.heap.size, 0, none⟩) 32 (w.alloc (.cells (arrB d) 177)) hl (by omega) (by omega) hb
 rw [hd] at hx
 refine hx.mono ?_
 rintro e w1 ⟨rfl, hb1⟩
 have hB := ((Below.refl w.heap.size w).alloc (Nat.le_refl _) (.cells (arrB d) 177)).trans (hb1.mono (by rw [alloc_size1]; omega))
 clear hb hx hb1
 go_wp2
 ·rename_i h
  rw [hexL_length] at h
  omega
 refine bodyPost_ret (v := .string ⟨(nameL d).toArray⟩) (by simp [results, Tryz.results113, go_sem]; exact ba_append [115, 104, 97, 50, 53, 54, 58] (hexL d)) rfl ?_
 exact ⟨rfl, hB⟩
set_option maxHeartbeats 3200000 in
theorem digestOf_any (il kl : List (BitVec 32)) (l : List Nat) (A : Option Addr) (cap : Nat) (w : World) (hw : ShaW il kl w) (hl : ∀ x ∈ l, x < 256) (hn : l.length ≤ 100000000) (hc : l.length ≤ cap) (hb : BytesAt w A l) :
  Calls Tryz.prog 85 #[.slice A l.length cap] w fun e w' => e = .returned (.string ⟨(nameL (shaL il kl l)).toArray⟩) ∧ Below w.heap.size w w' := by
 go_enter Tryz.func85, Tryz.ntmps85
 go_wp2_with fail
 have hB0 := (Below.refl w.heap.size w).alloc (Nat.le_refl _) (.cells #[.slice A l.length cap] 87)
 refine (of_one il kl l A cap ⟨w.heap.size, 0, none⟩ _ (hw.keep hB0 hw.size) hl hn hc ((cell_of_row _ w.heap.size 0 _ 87 (0, 0) (alloc_at rfl)).trans rfl) (hb.keep hB0 (Nat.le_refl _))).mono ?_
 rintro e w1 ⟨rfl, hb1⟩
 have hB := hB0.trans (hb1.mono (by rw [alloc_size1]; omega))
 clear hB0 hb1
 go_wp2_with fail
 refine (name_any (shaL il kl l) w1 (by unfold shaL; rw [outB_length]) (outB_bytes _ _)).mono ?_
 rintro e w2 ⟨rfl, hb2⟩
 have hB2 := hB.trans (hb2.mono hB.size)
 clear hB hb2
 go_wp2
 go_ret
 exact ⟨rfl, hB2⟩
end Go.Proofs.YtoimjnmhinfbkaaGreatDoor

namespace Go.Proofs.YtoimjnmhinfbkaaGreatDoor
open Go.RowKit
set_option maxRecDepth 100000
/-! the document's hash: its small functions. -/
theorem right_2 (x : BitVec 32) (w : World) : Calls Tryz.prog 118 #[U x, .int .u64 2] w fun e w' => e = .returned (U (rotr x 2)) ∧ w = w' := by
 have h1 := shl_int x 30
 have h2 := shr_int x 2
 have hb := bits_or32 (x := x >>> 2) (y := x <<< 30)
 have hr : rotr x 2 = x >>> 2 ||| x <<< 30 := rfl
 rw [← hr, ← h1, ← h2] at hb
 simp only [Int.reducePow, IntKind.wrap_u32] at hb
 have HB := Lib.hid hb
 clear h1 h2 hb hr
 go_enter Tryz.func118, Tryz.ntmps118
 go_wp2
 go_ret
 exact ⟨congrArg (fun z => Ending.returned (.int .u32 z)) HB.out, rfl⟩
theorem right_6 (x : BitVec 32) (w : World) : Calls Tryz.prog 118 #[U x, .int .u64 6] w fun e w' => e = .returned (U (rotr x 6)) ∧ w = w' := by
 have h1 := shl_int x 26
 have h2 := shr_int x 6
 have hb := bits_or32 (x := x >>> 6) (y := x <<< 26)
 have hr : rotr x 6 = x >>> 6 ||| x <<< 26 := rfl
 rw [← hr, ← h1, ← h2] at hb
 simp only [Int.reducePow, IntKind.wrap_u32] at hb
 have HB := Lib.hid hb
 clear h1 h2 hb hr
 go_enter Tryz.func118, Tryz.ntmps118
 go_wp2
 go_ret
 exact ⟨congrArg (fun z => Ending.returned (.int .u32 z)) HB.out, rfl⟩
theorem right_7 (x : BitVec 32) (w : World) : Calls Tryz.prog 118 #[U x, .int .u64 7] w fun e w' => e = .returned (U (rotr x 7)) ∧ w = w' := by
 have h1 := shl_int x 25
 have h2 := shr_int x 7
 have hb := bits_or32 (x := x >>> 7) (y := x <<< 25)
 have hr : rotr x 7 = x >>> 7 ||| x <<< 25 := rfl
 rw [← hr, ← h1, ← h2] at hb
 simp only [Int.reducePow, IntKind.wrap_u32] at hb
 have HB := Lib.hid hb
 clear h1 h2 hb hr
 go_enter Tryz.func118, Tryz.ntmps118
 go_wp2
 go_ret
 exact ⟨congrArg (fun z => Ending.returned (.int .u32 z)) HB.out, rfl⟩
theorem right_11 (x : BitVec 32) (w : World) : Calls Tryz.prog 118 #[U x, .int .u64 11] w fun e w' => e = .returned (U (rotr x 11)) ∧ w = w' := by
 have h1 := shl_int x 21
 have h2 := shr_int x 11
 have hb := bits_or32 (x := x >>> 11) (y := x <<< 21)
 have hr : rotr x 11 = x >>> 11 ||| x <<< 21 := rfl
 rw [← hr, ← h1, ← h2] at hb
 simp only [Int.reducePow, IntKind.wrap_u32] at hb
 have HB := Lib.hid hb
 clear h1 h2 hb hr
 go_enter Tryz.func118, Tryz.ntmps118
 go_wp2
 go_ret
 exact ⟨congrArg (fun z => Ending.returned (.int .u32 z)) HB.out, rfl⟩
theorem right_13 (x : BitVec 32) (w : World) : Calls Tryz.prog 118 #[U x, .int .u64 13] w fun e w' => e = .returned (U (rotr x 13)) ∧ w = w' := by
 have h1 := shl_int x 19
 have h2 := shr_int x 13
 have hb := bits_or32 (x := x >>> 13) (y := x <<< 19)
 have hr : rotr x 13 = x >>> 13 ||| x <<< 19 := rfl
 rw [← hr, ← h1, ← h2] at hb
 simp only [Int.reducePow, IntKind.wrap_u32] at hb
 have HB := Lib.hid hb
 clear h1 h2 hb hr
 go_enter Tryz.func118, Tryz.ntmps118
 go_wp2
 go_ret
 exact ⟨congrArg (fun z => Ending.returned (.int .u32 z)) HB.out, rfl⟩
theorem right_17 (x : BitVec 32) (w : World) : Calls Tryz.prog 118 #[U x, .int .u64 17] w fun e w' => e = .returned (U (rotr x 17)) ∧ w = w' := by
 have h1 := shl_int x 15
 have h2 := shr_int x 17
 have hb := bits_or32 (x := x >>> 17) (y := x <<< 15)
 have hr : rotr x 17 = x >>> 17 ||| x <<< 15 := rfl
 rw [← hr, ← h1, ← h2] at hb
 simp only [Int.reducePow, IntKind.wrap_u32] at hb
 have HB := Lib.hid hb
 clear h1 h2 hb hr
 go_enter Tryz.func118, Tryz.ntmps118
 go_wp2
 go_ret
 exact ⟨congrArg (fun z => Ending.returned (.int .u32 z)) HB.out, rfl⟩
theorem right_18 (x : BitVec 32) (w : World) : Calls Tryz.prog 118 #[U x, .int .u64 18] w fun e w' => e = .returned (U (rotr x 18)) ∧ w = w' := by
 have h1 := shl_int x 14
 have h2 := shr_int x 18
 have hb := bits_or32 (x := x >>> 18) (y := x <<< 14)
 have hr : rotr x 18 = x >>> 18 ||| x <<< 14 := rfl
 rw [← hr, ← h1, ← h2] at hb
 simp only [Int.reducePow, IntKind.wrap_u32] at hb
 have HB := Lib.hid hb
 clear h1 h2 hb hr
 go_enter Tryz.func118, Tryz.ntmps118
 go_wp2
 go_ret
 exact ⟨congrArg (fun z => Ending.returned (.int .u32 z)) HB.out, rfl⟩
theorem right_19 (x : BitVec 32) (w : World) : Calls Tryz.prog 118 #[U x, .int .u64 19] w fun e w' => e = .returned (U (rotr x 19)) ∧ w = w' := by
 have h1 := shl_int x 13
 have h2 := shr_int x 19
 have hb := bits_or32 (x := x >>> 19) (y := x <<< 13)
 have hr : rotr x 19 = x >>> 19 ||| x <<< 13 := rfl
 rw [← hr, ← h1, ← h2] at hb
 simp only [Int.reducePow, IntKind.wrap_u32] at hb
 have HB := Lib.hid hb
 clear h1 h2 hb hr
 go_enter Tryz.func118, Tryz.ntmps118
 go_wp2
 go_ret
 exact ⟨congrArg (fun z => Ending.returned (.int .u32 z)) HB.out, rfl⟩
theorem right_22 (x : BitVec 32) (w : World) : Calls Tryz.prog 118 #[U x, .int .u64 22] w fun e w' => e = .returned (U (rotr x 22)) ∧ w = w' := by
 have h1 := shl_int x 10
 have h2 := shr_int x 22
 have hb := bits_or32 (x := x >>> 22) (y := x <<< 10)
 have hr : rotr x 22 = x >>> 22 ||| x <<< 10 := rfl
 rw [← hr, ← h1, ← h2] at hb
 simp only [Int.reducePow, IntKind.wrap_u32] at hb
 have HB := Lib.hid hb
 clear h1 h2 hb hr
 go_enter Tryz.func118, Tryz.ntmps118
 go_wp2
 go_ret
 exact ⟨congrArg (fun z => Ending.returned (.int .u32 z)) HB.out, rfl⟩
theorem right_25 (x : BitVec 32) (w : World) : Calls Tryz.prog 118 #[U x, .int .u64 25] w fun e w' => e = .returned (U (rotr x 25)) ∧ w = w' := by
 have h1 := shl_int x 7
 have h2 := shr_int x 25
 have hb := bits_or32 (x := x >>> 25) (y := x <<< 7)
 have hr : rotr x 25 = x >>> 25 ||| x <<< 7 := rfl
 rw [← hr, ← h1, ← h2] at hb
 simp only [Int.reducePow, IntKind.wrap_u32] at hb
 have HB := Lib.hid hb
 clear h1 h2 hb hr
 go_enter Tryz.func118, Tryz.ntmps118
 go_wp2
 go_ret
 exact ⟨congrArg (fun z => Ending.returned (.int .u32 z)) HB.out, rfl⟩
theorem bits_low64 {a : Nat} (h : a < 18446744073709551616) : bits .and .u64 (a : Int) 4294967295 = ((a % 4294967296 : Nat) : Int) := by
 have h1 : BitVec.ofInt 64 (a : Int) = BitVec.ofNat 64 a := by
  apply BitVec.eq_of_toNat_eq
  simp [BitVec.toNat_ofInt]
 have h2 : BitVec.ofInt 64 4294967295 = BitVec.ofNat 64 4294967295 := by decide
 unfold bits
 simp only [IntKind.bits]
 rw [h1, h2]
 have h3 : (BitVec.ofNat 64 a &&& BitVec.ofNat 64 4294967295).toNat = a % 4294967296 := by
  rw [BitVec.toNat_and, BitVec.toNat_ofNat, BitVec.toNat_ofNat, Nat.mod_eq_of_lt h]
  have := Nat.and_two_pow_sub_one_eq_mod a 32
  simpa using this
 show IntKind.u64.wrap ((BitVec.ofNat 64 a &&& BitVec.ofNat 64 4294967295).toNat : Int) = _
 rw [h3, IntKind.wrap_u64]
 omega
/-- the root's figures. -/
def sqIt : Nat → Nat × Nat → Nat × Nat
 | 0, s => s
 | i + 1, s => let t := sqIt i s; if 2 * (2 * t.1) + 1 ≤ 4 * t.2 then (2 * t.1 + 1, 4 * t.2 - (2 * (2 * t.1) + 1)) else (2 * t.1, 4 * t.2)
theorem sqIt_bound (s : Nat × Nat) (h : s.2 ≤ 2 * s.1) : ∀ i, (sqIt i s).2 ≤ 2 * (sqIt i s).1 ∧ (sqIt i s).1 + 1 ≤ (s.1 + 1) * 2 ^ i
 | 0 => ⟨h, by simp [sqIt]⟩
 | i + 1 => by
  have ⟨h1, h2⟩ := sqIt_bound s h i
  have h3 : (s.1 + 1) * 2 ^ (i + 1) = 2 * ((s.1 + 1) * 2 ^ i) := by rw [Nat.pow_succ]; ac_rfl
  rw [h3]
  simp only [sqIt]
  split <;> (simp only; omega)
set_option maxHeartbeats 3200000 in
theorem square_any (p r : Nat) (hp : p ≤ 400) (h1 : r * r ≤ p) (h2 : p < (r + 1) * (r + 1)) (w : World) :
  Calls Tryz.prog 117 #[.int .u64 (p : Int)] w fun e w' => e = .returned (U (BitVec.ofNat 32 (sqIt 32 (r, p - r * r)).1)) ∧ w = w' := by
 have hr20 : r ≤ 20 := by
  rcases Nat.lt_or_ge 20 r with h | h
  ·have := Nat.mul_le_mul h h; omega
  ·exact h
 have H1 := Lib.hid h1
 have H2 := Lib.hid h2
 clear h1 h2
 go_enter Tryz.func117, Tryz.ntmps117
 go_wp2_with fail
 go_loopw [3] (fun i wr => ∃ k : Nat, k ≤ r ∧ i = .int .u64 k ∧ wr = w) (fun i _ => r - (intOf i).toNat)
 case atStart => exact ⟨0, by omega, rfl, rfl⟩
 case round =>
  obtain ⟨k, hk, rfl, rfl⟩ := hrel
  have hk0 : (0 : Int) ≤ (k : Int) := Int.natCast_nonneg _
  have hk1 : (k + 1) * (k + 1) ≤ 441 := Nat.mul_le_mul (show k + 1 ≤ 21 by omega) (show k + 1 ≤ 21 by omega)
  have hw2 : IntKind.u64.wrap (((k : Int) + 1) * ((k : Int) + 1)) = (((k + 1) * (k + 1) : Nat) : Int) := by
   rw [show ((k : Int) + 1) * ((k : Int) + 1) = (((k + 1) * (k + 1) : Nat) : Int) by simp, IntKind.wrap_u64]; omega
  by_cases hlt : (k + 1) * (k + 1) ≤ p
  ·have hlt' : IntKind.u64.wrap (((k : Int) + 1) * ((k : Int) + 1)) ≤ (p : Int) := by rw [hw2]; omega
   have hkr : k < r := by
    rcases Nat.lt_or_ge k r with h | h
    ·exact h
    ·have := Nat.mul_le_mul (show r + 1 ≤ k + 1 by omega) (show r + 1 ≤ k + 1 by omega)
     have := H2.out
     omega
   clear hw2
   go_wp2
   go_roundw
   case rel => exact ⟨k + 1, by omega, (by first | rfl | go_num), (by first | trivial | rfl)⟩
   case measure => simp [intOf]; omega
  ·have hlt' : ¬ IntKind.u64.wrap (((k : Int) + 1) * ((k : Int) + 1)) ≤ (p : Int) := by rw [hw2]; omega
   obtain rfl : k = r := by
    rcases Nat.lt_or_ge k r with h | h
    ·have := Nat.mul_le_mul (show k + 1 ≤ r by omega) (show k + 1 ≤ r by omega)
     have := H1.out
     omega
    ·omega
   clear hw2
   have hrr := H1.out
   have hr400 : k * k ≤ 400 := by omega
   have hw3 : IntKind.u64.wrap ((k : Int) * (k : Int)) = ((k * k : Nat) : Int) := by rw [← Int.natCast_mul, IntKind.wrap_u64]; omega
   have hw4 : IntKind.u64.wrap ((p : Int) - ((k * k : Nat) : Int)) = ((p - k * k : Nat) : Int) := by rw [IntKind.wrap_u64]; omega
   go_wp2_with fail
   have hkk : ((k : Int) * (k : Int)) = ((k * k : Nat) : Int) := by simp
   have hd0 : (p : Int) - (k : Int) * (k : Int) = ((p - k * k : Nat) : Int) := by rw [hkk]; omega
   have hs0 : (p - k * k) ≤ 2 * k := by
    have := H2.out
    rw [show (k + 1) * (k + 1) = k * k + 2 * k + 1 by rw [Nat.add_mul, Nat.mul_add]; omega] at this
    omega
   rw [hd0]
   obtain ⟨d0, hdd⟩ : ∃ d0, d0 = p - k * k := ⟨_, rfl⟩
   rw [← hdd] at hs0
   rw [← hdd]
   have HDD := Lib.hid hdd
   clear hdd
   clear hw3 hw4 hkk hd0 hrr hr400 hlt hlt' H1 H2
   go_loopw [4, 5, 6] (fun a d i w2 => ∃ j : Nat, j ≤ 32 ∧ i = .int .i64 j ∧ a = .int .u64 ((sqIt j (k, d0)).1 : Int) ∧ d = .int .u64 ((sqIt j (k, d0)).2 : Int) ∧ w2 = wr) (fun _ _ i _ => 32 - (intOf i).toNat)
   case atStart => exact ⟨0, by omega, rfl, rfl, rfl, rfl⟩
   case round =>
    obtain ⟨j, hj, rfl, rfl, rfl, rfl⟩ := hrel
    have hj0 : (0 : Int) ≤ (j : Int) := Int.natCast_nonneg _
    have hb := sqIt_bound (k, d0) hs0 j
    have hpw : 2 ^ j ≤ 2 ^ 32 := Nat.pow_le_pow_right (by decide) hj
    have hpm : (k + 1) * 2 ^ j ≤ 21 * 2 ^ 32 := Nat.mul_le_mul (by omega) hpw
    have hst : sqIt (j + 1) (k, d0) = if 2 * (2 * (sqIt j (k, d0)).1) + 1 ≤ 4 * (sqIt j (k, d0)).2 then (2 * (sqIt j (k, d0)).1 + 1, 4 * (sqIt j (k, d0)).2 - (2 * (2 * (sqIt j (k, d0)).1) + 1)) else (2 * (sqIt j (k, d0)).1, 4 * (sqIt j (k, d0)).2) := rfl
    have hb1 := hb.1
    have hb2 : (sqIt j (k, d0)).1 + 1 ≤ 21 * 2 ^ 32 := Nat.le_trans hb.2 hpm
    clear hb hpw hpm
    have HST := Lib.hid hst
    clear hst
    by_cases hlt : j < 32
    ·have hlt' : (j : Int) < 32 := by omega
     obtain ⟨a, ha⟩ : ∃ a, a = (sqIt j (k, d0)).1 := ⟨_, rfl⟩
     obtain ⟨d, hd⟩ : ∃ d, d = (sqIt j (k, d0)).2 := ⟨_, rfl⟩
     rw [← ha, ← hd] at hb1 HST
     rw [← ha] at hb2
     rw [← ha, ← hd]
     have ha0 : (0 : Int) ≤ (a : Int) := Int.natCast_nonneg _
     have hd0 : (0 : Int) ≤ (d : Int) := Int.natCast_nonneg _
     have ha1 : (a : Int) < 100000000000 := by omega
     have hd1 : (d : Int) < 200000000000 := by omega
     clear ha hd
     by_cases hc : 2 * (2 * a) + 1 ≤ 4 * d
     ·have hc' : 2 * ((a : Int) * 2) + 1 ≤ (d : Int) * 4 := by omega
      rw [if_pos hc] at HST
      go_wp2
      go_roundw
      case rel => exact ⟨j + 1, by omega, (by first | rfl | go_num), by rw [HST.out]; simp; omega, by rw [HST.out]; simp; omega, trivial⟩
      case measure => simp [intOf]; omega
     ·have hc' : ¬ 2 * ((a : Int) * 2) + 1 ≤ (d : Int) * 4 := by omega
      rw [if_neg hc] at HST
      go_wp2
      go_roundw
      case rel => exact ⟨j + 1, by omega, (by first | rfl | go_num), by rw [HST.out]; simp; omega, by rw [HST.out]; simp; omega, trivial⟩
      case measure => simp [intOf]; omega
    ·obtain rfl : j = 32 := by omega
     have hlt' : ¬ ((32 : Nat) : Int) < 32 := by omega
     obtain ⟨z, hz⟩ : ∃ z, z = (sqIt 32 (k, d0)).1 := ⟨_, rfl⟩
     rw [← hz] at hb2
     rw [← hz]
     have HZ := Lib.hid hz
     clear hz HST hb1
     have hlow := bits_low64 (a := z) (by omega)
     go_wp2
     go_ret
     refine ⟨?_, rfl⟩
     rw [← HDD.out, ← HZ.out]
     have he : (z : Int) % 4294967296 = ((BitVec.ofNat 32 z).toNat : Int) := by
      rw [BitVec.toNat_ofNat]; omega
     exact congrArg (fun z => Ending.returned (.int .u32 z)) he
end Go.Proofs.YtoimjnmhinfbkaaGreatDoor

namespace Go.Proofs.YtoimjnmhinfbkaaGreatDoor
open Go.RowKit
set_option maxRecDepth 100000
/-- a number of 64 bits. -/
abbrev Q64 (n : Nat) : Value := .int .u64 (n : Int)
section
variable {ρ : Operand → Value} {w : World} {o : Oper} {x y : Operand}
theorem run_add105 {a b : Nat} (ho : o.op = .binOp .add 105 x y 105) (h1 : ρ x = Q64 a) (h2 : ρ y = Q64 b) : (execOp ρ o).run Tryz.prog w = .ok (.value (Q64 ((a + b) % 18446744073709551616))) w := by
 have h : IntKind.u64.wrap ((a : Int) + (b : Int)) = (((a + b) % 18446744073709551616 : Nat) : Int) := by rw [IntKind.wrap_u64]; omega
 unfold execOp; rw [ho]; simp only [h1, h2]
 unfold Q64
 rw [← h]
 clear h h1 h2
 go_simp
theorem run_mul105 {a b : Nat} (ho : o.op = .binOp .mul 105 x y 105) (h1 : ρ x = Q64 a) (h2 : ρ y = Q64 b) : (execOp ρ o).run Tryz.prog w = .ok (.value (Q64 ((a * b) % 18446744073709551616))) w := by
 have h : IntKind.u64.wrap ((a : Int) * (b : Int)) = (((a * b) % 18446744073709551616 : Nat) : Int) := by rw [← Int.natCast_mul, IntKind.wrap_u64]; omega
 unfold execOp; rw [ho]; simp only [h1, h2]
 unfold Q64
 rw [← h]
 clear h h1 h2
 go_simp
theorem run_idx256 {b n : Nat} {k : Nat} {z : Int} (hz : z = (k : Int)) (hk : k < 5) (ho : o.op = .indexAddr 256 x y) (h1 : ρ x = .pointer (some ⟨b, n, none⟩)) (h2 : ρ y = .int .i64 z) : (execOp ρ o).run Tryz.prog w = .ok (.value (.pointer (some ⟨b, n + k, none⟩))) w := by
 subst hz
 have h0 : (0 : Int) ≤ (k : Int) := Int.natCast_nonneg _
 have h3 : (k : Int) < 5 := by omega
 unfold execOp; rw [ho]; simp only [h1, h2]; go_simp
theorem run_load105 {p : Addr} {z : Nat} (hc : w.cell? p = some (Q64 z)) (ho : o.op = .load 105 x) (h1 : ρ x = .pointer (some p)) : (execOp ρ o).run Tryz.prog w = .ok (.value (Q64 z)) w := by
 unfold execOp; rw [ho]; simp only [h1]; go_simp
end
noncomputable def ops142_14 : Array Oper := (Tryz.f142.body.bind (inCode 14)).getD #[]
def sl142_14 : Nat → Nat
 | 0 => 38
 | 1 => 39
 | 2 => 40
 | 3 => 41
 | 4 => 42
 | 5 => 43
 | 6 => 44
 | 7 => 45
 | 8 => 46
 | 9 => 47
 | 10 => 48
 | 11 => 49
 | 12 => 50
 | 13 => 51
 | 14 => 52
 | 15 => 12
 | _ => 0
def R142_14 (b5 : Nat) (b6 : Nat) (b8 : Nat) (jj : Nat) (ii : Nat) (uu : Nat) (tt : Nat) (bb : Nat) (cc : Nat) : Nat → Value → World → Prop
 | 0, v, _ => v = .int .i64 (jj : Int)
 | 1, v, _ => v = .int .i64 (ii : Int)
 | 2, v, _ => v = .int .i64 (jj + ii : Int)
 | 3, v, _ => v = .pointer (some ⟨b8, jj + ii, none⟩)
 | 4, v, _ => v = Q64 uu
 | 5, v, _ => v = .int .i64 (jj : Int)
 | 6, v, _ => v = .pointer (some ⟨b6, jj, none⟩)
 | 7, v, _ => v = Q64 tt
 | 8, v, _ => v = .int .i64 (ii : Int)
 | 9, v, _ => v = .pointer (some ⟨b5, ii, none⟩)
 | 10, v, _ => v = Q64 bb
 | 11, v, _ => v = Q64 (tt * bb % 18446744073709551616)
 | 12, v, _ => v = Q64 ((uu + (tt * bb % 18446744073709551616)) % 18446744073709551616)
 | 13, v, _ => v = Q64 cc
 | 14, v, _ => v = Q64 ((((uu + (tt * bb % 18446744073709551616)) % 18446744073709551616) + cc) % 18446744073709551616)
 | 15, v, _ => v = Q64 ((((uu + (tt * bb % 18446744073709551616)) % 18446744073709551616) + cc) % 18446744073709551616)
 | _, _, _ => True
def J142_14 (W0 : World) (b5 : Nat) (b6 : Nat) (b8 : Nat) (jj : Nat) (ii : Nat) (uu : Nat) (tt : Nat) (bb : Nat) (cc : Nat) (L : Array Bool) (w : World) : Prop := w = W0
set_option maxHeartbeats 3200000 in
theorem reg142_14 {ops : Array Oper} (ho : ops = ops142_14) {Q : Exit → Act → World → Prop} {a0 : Act} {w0 W0 : World} (hW : w0.drew = W0) {b5 : Nat} {b6 : Nat} {b8 : Nat} {jj : Nat} {ii : Nat} {uu : Nat} {tt : Nat} {bb : Nat} {cc : Nat} (hji : jj + ii < 5) (hii : ii < 2) (c8 : W0.cell? ⟨b8, jj + ii, none⟩ = some (Q64 uu)) (c6 : W0.cell? ⟨b6, jj, none⟩ = some (Q64 tt)) (c5 : W0.cell? ⟨b5, ii, none⟩ = some (Q64 bb)) (hs5 : a0.eval (.tmp 5) = .pointer (some ⟨b5, 0, none⟩)) (hs6 : a0.eval (.tmp 6) = .pointer (some ⟨b6, 0, none⟩)) (hs8 : a0.eval (.tmp 8) = .pointer (some ⟨b8, 0, none⟩)) (hs9 : a0.eval (.tmp 9) = .int .i64 (jj : Int)) (hs11 : a0.eval (.tmp 11) = .int .i64 (ii : Int)) (hs10 : a0.eval (.tmp 10) = Q64 cc) (hsz : a0.tmps.size = 102)
  (HK : ∀ a, a.defers = a0.defers → a.tmps.size = 102 → (∀ s, freeB ops142_14 s = true → a.eval (.tmp s) = a0.eval (.tmp s)) → (∀ i, i < 16 → R142_14 b5 b6 b8 jj ii uu tt bb cc i (a.eval (.tmp (sl142_14 i))) (W0)) → Q .normal a (W0)) : (Code.region 14 ops true).wp Tryz.prog Q a0 w0 := by
 subst ho
 refine region_made (n := 16) (sl := sl142_14) (J := J142_14 W0 b5 b6 b8 jj ii uu tt bb cc) (R := R142_14 b5 b6 b8 jj ii uu tt bb cc) (by kernel_rfl) (by kernel_rfl) (by kernel_rfl) (by rw [hsz]; kernel_rfl) ?_ (show _ = _ from hW) (fun L a w hall hf => ?_)
 rotate_left
 ·obtain rfl : w = W0 := hf.world
  exact HK a hf.defers (hf.size.trans hsz) hf.rest (fun i hi => hf.got i (hall i hi))
 intro i hi L a w hs h1 hdep hd hst ho
 clear HK
 match i, hi, h1, hdep, ho with
 | 0, _, h1, hdep, ho =>
   have hw : w = W0 := hst.world
   obtain rfl : W0 = w := hw.symm
   have s9 : a.eval (.tmp 9) = .int .i64 (jj : Int) := (hst.rest 9 (by kernel_rfl)).trans hs9
   have hr : (execOp a.eval (opAt ops142_14 0)).run Tryz.prog W0 = .ok (.value (.int .i64 (jj : Int))) W0 := run_moved (x := .tmp 9) (by kernel_rfl) s9
   exact op_value ho (by kernel_rfl) hr (made_val (d := 38) (by kernel_rfl) rfl rfl (fun _ _ _ _ h => h))
 | 1, _, h1, hdep, ho =>
   have hw : w = W0 := hst.world
   obtain rfl : W0 = w := hw.symm
   have s11 : a.eval (.tmp 11) = .int .i64 (ii : Int) := (hst.rest 11 (by kernel_rfl)).trans hs11
   have hr : (execOp a.eval (opAt ops142_14 1)).run Tryz.prog W0 = .ok (.value (.int .i64 (ii : Int))) W0 := run_moved (x := .tmp 11) (by kernel_rfl) s11
   exact op_value ho (by kernel_rfl) hr (made_val (d := 39) (by kernel_rfl) rfl rfl (fun _ _ _ _ h => h))
 | 2, _, h1, hdep, ho =>
   have hw : w = W0 := hst.world
   obtain rfl : W0 = w := hw.symm
   have g0 : a.eval (.tmp 38) = .int .i64 (jj : Int) := hst.got 0 (hdep 0 (by kernel_rfl))
   have g1 : a.eval (.tmp 39) = .int .i64 (ii : Int) := hst.got 1 (hdep 1 (by kernel_rfl))
   have hr : (execOp a.eval (opAt ops142_14 2)).run Tryz.prog W0 = .ok (.value (.int .i64 (jj + ii : Int))) W0 := run_add64 (by rw [IntKind.wrap_i64]; omega) (show (opAt ops142_14 2).op = .binOp .add 3 (.tmp 38) (.tmp 39) 3 from (by kernel_rfl)) g0 g1
   exact op_value ho (by kernel_rfl) hr (made_val (d := 40) (by kernel_rfl) rfl rfl (fun _ _ _ _ h => h))
 | 3, _, h1, hdep, ho =>
   have hw : w = W0 := hst.world
   obtain rfl : W0 = w := hw.symm
   have s8 : a.eval (.tmp 8) = .pointer (some ⟨b8, 0, none⟩) := (hst.rest 8 (by kernel_rfl)).trans hs8
   have g2 : a.eval (.tmp 40) = .int .i64 (jj + ii : Int) := hst.got 2 (hdep 2 (by kernel_rfl))
   have hr : (execOp a.eval (opAt ops142_14 3)).run Tryz.prog W0 = .ok (.value (.pointer (some ⟨b8, jj + ii, none⟩))) W0 := (show 0 + (jj + ii) = jj + ii from Nat.zero_add _) ▸ run_idx256 (n := 0) (k := jj + ii) (by first | rfl | omega) (by omega) (show (opAt ops142_14 3).op = .indexAddr 256 (.tmp 8) (.tmp 40) from (by kernel_rfl)) s8 g2
   exact op_value ho (by kernel_rfl) hr (made_val (d := 41) (by kernel_rfl) rfl rfl (fun _ _ _ _ h => h))
 | 4, _, h1, hdep, ho =>
   have hw : w = W0 := hst.world
   obtain rfl : W0 = w := hw.symm
   have g3 : a.eval (.tmp 41) = .pointer (some ⟨b8, jj + ii, none⟩) := hst.got 3 (hdep 3 (by kernel_rfl))
   have hr : (execOp a.eval (opAt ops142_14 4)).run Tryz.prog W0 = .ok (.value (Q64 uu)) W0 := run_load105 c8 (show (opAt ops142_14 4).op = .load 105 (.tmp 41) from (by kernel_rfl)) g3
   exact op_value ho (by kernel_rfl) hr (made_val (d := 42) (by kernel_rfl) rfl rfl (fun _ _ _ _ h => h))
 | 5, _, h1, hdep, ho =>
   have hw : w = W0 := hst.world
   obtain rfl : W0 = w := hw.symm
   have s9 : a.eval (.tmp 9) = .int .i64 (jj : Int) := (hst.rest 9 (by kernel_rfl)).trans hs9
   have hr : (execOp a.eval (opAt ops142_14 5)).run Tryz.prog W0 = .ok (.value (.int .i64 (jj : Int))) W0 := run_moved (x := .tmp 9) (by kernel_rfl) s9
   exact op_value ho (by kernel_rfl) hr (made_val (d := 43) (by kernel_rfl) rfl rfl (fun _ _ _ _ h => h))
 | 6, _, h1, hdep, ho =>
   have hw : w = W0 := hst.world
   obtain rfl : W0 = w := hw.symm
   have s6 : a.eval (.tmp 6) = .pointer (some ⟨b6, 0, none⟩) := (hst.rest 6 (by kernel_rfl)).trans hs6
   have g5 : a.eval (.tmp 43) = .int .i64 (jj : Int) := hst.got 5 (hdep 5 (by kernel_rfl))
   have hr : (execOp a.eval (opAt ops142_14 6)).run Tryz.prog W0 = .ok (.value (.pointer (some ⟨b6, jj, none⟩))) W0 := (show 0 + (jj) = jj from Nat.zero_add _) ▸ run_idx256 (n := 0) (k := jj) (by first | rfl | omega) (by omega) (show (opAt ops142_14 6).op = .indexAddr 256 (.tmp 6) (.tmp 43) from (by kernel_rfl)) s6 g5
   exact op_value ho (by kernel_rfl) hr (made_val (d := 44) (by kernel_rfl) rfl rfl (fun _ _ _ _ h => h))
 | 7, _, h1, hdep, ho =>
   have hw : w = W0 := hst.world
   obtain rfl : W0 = w := hw.symm
   have g6 : a.eval (.tmp 44) = .pointer (some ⟨b6, jj, none⟩) := hst.got 6 (hdep 6 (by kernel_rfl))
   have hr : (execOp a.eval (opAt ops142_14 7)).run Tryz.prog W0 = .ok (.value (Q64 tt)) W0 := run_load105 c6 (show (opAt ops142_14 7).op = .load 105 (.tmp 44) from (by kernel_rfl)) g6
   exact op_value ho (by kernel_rfl) hr (made_val (d := 45) (by kernel_rfl) rfl rfl (fun _ _ _ _ h => h))
 | 8, _, h1, hdep, ho =>
   have hw : w = W0 := hst.world
   obtain rfl : W0 = w := hw.symm
   have s11 : a.eval (.tmp 11) = .int .i64 (ii : Int) := (hst.rest 11 (by kernel_rfl)).trans hs11
   have hr : (execOp a.eval (opAt ops142_14 8)).run Tryz.prog W0 = .ok (.value (.int .i64 (ii : Int))) W0 := run_moved (x := .tmp 11) (by kernel_rfl) s11
   exact op_value ho (by kernel_rfl) hr (made_val (d := 46) (by kernel_rfl) rfl rfl (fun _ _ _ _ h => h))
 | 9, _, h1, hdep, ho =>
   have hw : w = W0 := hst.world
   obtain rfl : W0 = w := hw.symm
   have s5 : a.eval (.tmp 5) = .pointer (some ⟨b5, 0, none⟩) := (hst.rest 5 (by kernel_rfl)).trans hs5
   have g8 : a.eval (.tmp 46) = .int .i64 (ii : Int) := hst.got 8 (hdep 8 (by kernel_rfl))
   have hr : (execOp a.eval (opAt ops142_14 9)).run Tryz.prog W0 = .ok (.value (.pointer (some ⟨b5, ii, none⟩))) W0 := (show 0 + (ii) = ii from Nat.zero_add _) ▸ run_idx256 (n := 0) (k := ii) (by first | rfl | omega) (by omega) (show (opAt ops142_14 9).op = .indexAddr 256 (.tmp 5) (.tmp 46) from (by kernel_rfl)) s5 g8
   exact op_value ho (by kernel_rfl) hr (made_val (d := 47) (by kernel_rfl) rfl rfl (fun _ _ _ _ h => h))
 | 10, _, h1, hdep, ho =>
   have hw : w = W0 := hst.world
   obtain rfl : W0 = w := hw.symm
   have g9 : a.eval (.tmp 47) = .pointer (some ⟨b5, ii, none⟩) := hst.got 9 (hdep 9 (by kernel_rfl))
   have hr : (execOp a.eval (opAt ops142_14 10)).run Tryz.prog W0 = .ok (.value (Q64 bb)) W0 := run_load105 c5 (show (opAt ops142_14 10).op = .load 105 (.tmp 47) from (by kernel_rfl)) g9
   exact op_value ho (by kernel_rfl) hr (made_val (d := 48) (by kernel_rfl) rfl rfl (fun _ _ _ _ h => h))
 | 11, _, h1, hdep, ho =>
   have hw : w = W0 := hst.world
   obtain rfl : W0 = w := hw.symm
   have g7 : a.eval (.tmp 45) = Q64 tt := hst.got 7 (hdep 7 (by kernel_rfl))
   have g10 : a.eval (.tmp 48) = Q64 bb := hst.got 10 (hdep 10 (by kernel_rfl))
   have hr : (execOp a.eval (opAt ops142_14 11)).run Tryz.prog W0 = .ok (.value (Q64 (tt * bb % 18446744073709551616))) W0 := run_mul105 (show (opAt ops142_14 11).op = .binOp .mul 105 (.tmp 45) (.tmp 48) 105 from (by kernel_rfl)) g7 g10
   exact op_value ho (by kernel_rfl) hr (made_val (d := 49) (by kernel_rfl) rfl rfl (fun _ _ _ _ h => h))
 | 12, _, h1, hdep, ho =>
   have hw : w = W0 := hst.world
   obtain rfl : W0 = w := hw.symm
   have g4 : a.eval (.tmp 42) = Q64 uu := hst.got 4 (hdep 4 (by kernel_rfl))
   have g11 : a.eval (.tmp 49) = Q64 (tt * bb % 18446744073709551616) := hst.got 11 (hdep 11 (by kernel_rfl))
   have hr : (execOp a.eval (opAt ops142_14 12)).run Tryz.prog W0 = .ok (.value (Q64 ((uu + (tt * bb % 18446744073709551616)) % 18446744073709551616))) W0 := run_add105 (show (opAt ops142_14 12).op = .binOp .add 105 (.tmp 42) (.tmp 49) 105 from (by kernel_rfl)) g4 g11
   exact op_value ho (by kernel_rfl) hr (made_val (d := 50) (by kernel_rfl) rfl rfl (fun _ _ _ _ h => h))
 | 13, _, h1, hdep, ho =>
   have hw : w = W0 := hst.world
   obtain rfl : W0 = w := hw.symm
   have s10 : a.eval (.tmp 10) = Q64 cc := (hst.rest 10 (by kernel_rfl)).trans hs10
   have hr : (execOp a.eval (opAt ops142_14 13)).run Tryz.prog W0 = .ok (.value (Q64 cc)) W0 := run_moved (x := .tmp 10) (by kernel_rfl) s10
   exact op_value ho (by kernel_rfl) hr (made_val (d := 51) (by kernel_rfl) rfl rfl (fun _ _ _ _ h => h))
 | 14, _, h1, hdep, ho =>
   have hw : w = W0 := hst.world
   obtain rfl : W0 = w := hw.symm
   have g12 : a.eval (.tmp 50) = Q64 ((uu + (tt * bb % 18446744073709551616)) % 18446744073709551616) := hst.got 12 (hdep 12 (by kernel_rfl))
   have g13 : a.eval (.tmp 51) = Q64 cc := hst.got 13 (hdep 13 (by kernel_rfl))
   have hr : (execOp a.eval (opAt ops142_14 14)).run Tryz.prog W0 = .ok (.value (Q64 ((((uu + (tt * bb % 18446744073709551616)) % 18446744073709551616) + cc) % 18446744073709551616))) W0 := run_add105 (show (opAt ops142_14 14).op = .binOp .add 105 (.tmp 50) (.tmp 51) 105 from (by kernel_rfl)) g12 g13
   exact op_value ho (by kernel_rfl) hr (made_val (d := 52) (by kernel_rfl) rfl rfl (fun _ _ _ _ h => h))
 | 15, _, h1, hdep, ho =>
   have hw : w = W0 := hst.world
   obtain rfl : W0 = w := hw.symm
   have g14 : a.eval (.tmp 52) = Q64 ((((uu + (tt * bb % 18446744073709551616)) % 18446744073709551616) + cc) % 18446744073709551616) := hst.got 14 (hdep 14 (by kernel_rfl))
   have hr : (execOp a.eval (opAt ops142_14 15)).run Tryz.prog W0 = .ok (.value (Q64 ((((uu + (tt * bb % 18446744073709551616)) % 18446744073709551616) + cc) % 18446744073709551616))) W0 := run_moved_as (x := .tmp 52) (by kernel_rfl) g14
   exact op_value ho (by kernel_rfl) hr (made_val (d := 12) (by kernel_rfl) rfl rfl (fun _ _ _ _ h => h))
 | k + 16, hi, _, _, _ => exact absurd hi (by omega)
end Go.Proofs.YtoimjnmhinfbkaaGreatDoor

namespace Go.Proofs.YtoimjnmhinfbkaaGreatDoor
open Go.RowKit
set_option maxRecDepth 100000
theorem act102 {a : Act} (hs : a.tmps.size = 102) : a = ⟨#[a.eval (.tmp 0), a.eval (.tmp 1), a.eval (.tmp 2), a.eval (.tmp 3), a.eval (.tmp 4), a.eval (.tmp 5), a.eval (.tmp 6), a.eval (.tmp 7), a.eval (.tmp 8), a.eval (.tmp 9), a.eval (.tmp 10), a.eval (.tmp 11), a.eval (.tmp 12), a.eval (.tmp 13), a.eval (.tmp 14), a.eval (.tmp 15), a.eval (.tmp 16), a.eval (.tmp 17), a.eval (.tmp 18), a.eval (.tmp 19), a.eval (.tmp 20), a.eval (.tmp 21), a.eval (.tmp 22), a.eval (.tmp 23), a.eval (.tmp 24), a.eval (.tmp 25), a.eval (.tmp 26), a.eval (.tmp 27), a.eval (.tmp 28), a.eval (.tmp 29), a.eval (.tmp 30), a.eval (.tmp 31), a.eval (.tmp 32), a.eval (.tmp 33), a.eval (.tmp 34), a.eval (.tmp 35), a.eval (.tmp 36), a.eval (.tmp 37), a.eval (.tmp 38), a.eval (.tmp 39), a.eval (.tmp 40), a.eval (.tmp 41), a.eval (.tmp 42), a.eval (.tmp 43), a.eval (.tmp 44), a.eval (.tmp 45), a.eval (.tmp 46), a.eval (.tmp 47), a.eval (.tmp 48), a.eval (.tmp 49), a.eval (.tmp 50), a.eval (.tmp 51), a.eval (.tmp 52), a.eval (.tmp 53), a.eval (.tmp 54), a.eval (.tmp 55), a.eval (.tmp 56), a.eval (.tmp 57), a.eval (.tmp 58), a.eval (.tmp 59), a.eval (.tmp 60), a.eval (.tmp 61), a.eval (.tmp 62), a.eval (.tmp 63), a.eval (.tmp 64), a.eval (.tmp 65), a.eval (.tmp 66), a.eval (.tmp 67), a.eval (.tmp 68), a.eval (.tmp 69), a.eval (.tmp 70), a.eval (.tmp 71), a.eval (.tmp 72), a.eval (.tmp 73), a.eval (.tmp 74), a.eval (.tmp 75), a.eval (.tmp 76), a.eval (.tmp 77), a.eval (.tmp 78), a.eval (.tmp 79), a.eval (.tmp 80), a.eval (.tmp 81), a.eval (.tmp 82), a.eval (.tmp 83), a.eval (.tmp 84), a.eval (.tmp 85), a.eval (.tmp 86), a.eval (.tmp 87), a.eval (.tmp 88), a.eval (.tmp 89), a.eval (.tmp 90), a.eval (.tmp 91), a.eval (.tmp 92), a.eval (.tmp 93), a.eval (.tmp 94), a.eval (.tmp 95), a.eval (.tmp 96), a.eval (.tmp 97), a.eval (.tmp 98), a.eval (.tmp 99), a.eval (.tmp 100), a.eval (.tmp 101)], a.defers⟩ := act_ext rfl (by rw [hs]; rfl) (fun s h => by
 rw [hs] at h
 match s, h with
 | 0, _ => rfl
 | 1, _ => rfl
 | 2, _ => rfl
 | 3, _ => rfl
 | 4, _ => rfl
 | 5, _ => rfl
 | 6, _ => rfl
 | 7, _ => rfl
 | 8, _ => rfl
 | 9, _ => rfl
 | 10, _ => rfl
 | 11, _ => rfl
 | 12, _ => rfl
 | 13, _ => rfl
 | 14, _ => rfl
 | 15, _ => rfl
 | 16, _ => rfl
 | 17, _ => rfl
 | 18, _ => rfl
 | 19, _ => rfl
 | 20, _ => rfl
 | 21, _ => rfl
 | 22, _ => rfl
 | 23, _ => rfl
 | 24, _ => rfl
 | 25, _ => rfl
 | 26, _ => rfl
 | 27, _ => rfl
 | 28, _ => rfl
 | 29, _ => rfl
 | 30, _ => rfl
 | 31, _ => rfl
 | 32, _ => rfl
 | 33, _ => rfl
 | 34, _ => rfl
 | 35, _ => rfl
 | 36, _ => rfl
 | 37, _ => rfl
 | 38, _ => rfl
 | 39, _ => rfl
 | 40, _ => rfl
 | 41, _ => rfl
 | 42, _ => rfl
 | 43, _ => rfl
 | 44, _ => rfl
 | 45, _ => rfl
 | 46, _ => rfl
 | 47, _ => rfl
 | 48, _ => rfl
 | 49, _ => rfl
 | 50, _ => rfl
 | 51, _ => rfl
 | 52, _ => rfl
 | 53, _ => rfl
 | 54, _ => rfl
 | 55, _ => rfl
 | 56, _ => rfl
 | 57, _ => rfl
 | 58, _ => rfl
 | 59, _ => rfl
 | 60, _ => rfl
 | 61, _ => rfl
 | 62, _ => rfl
 | 63, _ => rfl
 | 64, _ => rfl
 | 65, _ => rfl
 | 66, _ => rfl
 | 67, _ => rfl
 | 68, _ => rfl
 | 69, _ => rfl
 | 70, _ => rfl
 | 71, _ => rfl
 | 72, _ => rfl
 | 73, _ => rfl
 | 74, _ => rfl
 | 75, _ => rfl
 | 76, _ => rfl
 | 77, _ => rfl
 | 78, _ => rfl
 | 79, _ => rfl
 | 80, _ => rfl
 | 81, _ => rfl
 | 82, _ => rfl
 | 83, _ => rfl
 | 84, _ => rfl
 | 85, _ => rfl
 | 86, _ => rfl
 | 87, _ => rfl
 | 88, _ => rfl
 | 89, _ => rfl
 | 90, _ => rfl
 | 91, _ => rfl
 | 92, _ => rfl
 | 93, _ => rfl
 | 94, _ => rfl
 | 95, _ => rfl
 | 96, _ => rfl
 | 97, _ => rfl
 | 98, _ => rfl
 | 99, _ => rfl
 | 100, _ => rfl
 | 101, _ => rfl
 | k + 102, h => exact absurd h (by omega))
/-! the document's third power, figure by figure. -/
def Q5 (l : List Nat) : Array Value := (l.map fun x => Q64 x).toArray
def inSum (u t b : List Nat) (j i c : Nat) : Nat := ((u.getD (j + i) 0 + t.getD j 0 * b.getD i 0 % 18446744073709551616) % 18446744073709551616 + c) % 18446744073709551616
def inN (u t b : List Nat) (j : Nat) : Nat → List Nat × Nat
 | 0 => (u, 0)
 | i + 1 => let s := inN u t b j i; ((s.1.set (j + i) (inSum s.1 t b j i s.2 % 4294967296)), inSum s.1 t b j i s.2 / 4294967296)
def midStep (u t b : List Nat) (j : Nat) : List Nat :=
 let s := inN u t b j (min 2 (5 - j))
 if j + 2 < 5 then s.1.set (j + 2) ((s.1.getD (j + 2) 0 + s.2) % 18446744073709551616) else s.1
def midN (t b : List Nat) : Nat → List Nat
 | 0 => [0, 0, 0, 0, 0]
 | j + 1 => midStep (midN t b j) t b j
def powN (b : List Nat) : Nat → List Nat
 | 0 => [1, 0, 0, 0, 0]
 | k + 1 => midN (powN b k) b 5
def limbs (x : Nat) : List Nat := [x % 4294967296, x / 4294967296, 0, 0, 0]
def aboveM (x n : Nat) : Bool := let t := powN (limbs x) 3
 decide (0 < t.getD 4 0) || (decide (n < t.getD 3 0) || (decide (t.getD 3 0 = n) && (decide (0 < t.getD 2 0) || (decide (0 < t.getD 1 0) || decide (0 < t.getD 0 0)))))
theorem inN_length (u t b : List Nat) (j : Nat) : ∀ i, (inN u t b j i).1.length = u.length
 | 0 => rfl
 | i + 1 => by simp only [inN, List.length_set]; exact inN_length u t b j i
theorem midN_length (t b : List Nat) : ∀ j, (midN t b j).length = 5
 | 0 => rfl
 | j + 1 => by
  have h := (inN_length (midN t b j) t b j (min 2 (5 - j))).trans (midN_length t b j)
  simp only [midN, midStep]
  split
  ·rw [List.length_set]; exact h
  ·exact h
theorem powN_length (b : List Nat) : ∀ k, (powN b k).length = 5
 | 0 => rfl
 | k + 1 => midN_length _ _ _
theorem hu256 : Tryz.prog.underlying 256 = some (.array 5 105) := by kernel_rfl
theorem hi256 : (Tryz.prog.info? 256).map (·.size) = some 5 := by kernel_rfl
theorem q5_ones (l : List Nat) : (Q5 l).all (·.oneCell') = true := by
 unfold Q5
 refine all_ones _ fun v hv => ?_
 obtain ⟨x, -, rfl⟩ := List.mem_map.1 hv; rfl
theorem q5_size (l : List Nat) : (Q5 l).size = l.length := by simp [Q5]
theorem five_l {α : Type} {l : List α} (h : l.length = 5) : ∃ a b c d e, l = [a, b, c, d, e] := by
 match l, h with
 | [a, b, c, d, e], _ => exact ⟨a, b, c, d, e, rfl⟩
theorem q5_at {w : World} {b : Nat} {l : List Nat} {k : Nat} (h : w.heap[b]? = some (.cells (Q5 l) 256 (0, 0))) (hk : k < l.length) : w.cell? ⟨b, k, none⟩ = some (Q64 (l.getD k 0)) := by
 rw [cell_of_row w b k _ 256 (0, 0) h]
 unfold Q5
 simp [List.getD, List.getElem?_eq_getElem hk]
theorem q5_set {w : World} {b : Nat} {l : List Nat} (h : w.heap[b]? = some (.cells (Q5 l) 256 (0, 0))) (k x : Nat) : (w.setCell ⟨b, k, none⟩ (Q64 x)).heap[b]? = some (.cells (Q5 (l.set k x)) 256 (0, 0)) := by
 rw [blk_set h]
 unfold Q5
 rw [List.setIfInBounds_toArray, List.map_set]
set_option maxHeartbeats 3200000 in
theorem above_any (x n : Nat) (hx : x < 18446744073709551616) (hn : n < 18446744073709551616) (w : World) :
  Calls Tryz.prog 142 #[Q64 x, Q64 n] w fun e w' => e = .returned (.bool (aboveM x n)) ∧ Below w.heap.size w w' := by
 have hlow := bits_low64 hx
 have hx0 : (0 : Int) ≤ (x : Int) := Int.natCast_nonneg _
 go_enter Tryz.func142, Tryz.ntmps142
 go_wp2_with fail
 generalize hWW : World.alloc _ _ = W
 have HB := Lib.hid (show W.heap[w.heap.size]? = some (.cells (Q5 (limbs x)) 256 (0, 0)) from by rw [← hWW]; exact (alloc_before (by rw [alloc_size1]; omega)).trans (alloc_at rfl))
 have HT := Lib.hid (show W.heap[w.heap.size + 1]? = some (.cells (Q5 (powN (limbs x) 0)) 256 (0, 0)) from by rw [← hWW]; exact alloc_at (alloc_size1 _ _).symm)
 have HBL := Lib.hid (show Below w.heap.size w W from by rw [← hWW]; exact ((Below.refl _ _).alloc (Nat.le_refl _) _).alloc (by rw [alloc_size1]; omega) _)
 have hz : w.heap.size + 2 ≤ W.heap.size := by rw [← hWW, alloc_size1, alloc_size1]; omega
 clear hWW hlow
 have HLB := Lib.hid (show (limbs x).length = 5 from rfl)
 obtain ⟨bl, hbl⟩ : ∃ bl, bl = limbs x := ⟨_, rfl⟩
 rw [← hbl] at HB HT HLB
 have HBLX := Lib.hid hbl
 clear hbl
 go_loopw [7] (fun i wr => ∃ k : Nat, k ≤ 3 ∧ i = .int .i64 k ∧ wr.heap[w.heap.size]? = some (.cells (Q5 bl) 256 (0, 0)) ∧ wr.heap[w.heap.size + 1]? = some (.cells (Q5 (powN bl k)) 256 (0, 0)) ∧ Below w.heap.size w wr ∧ w.heap.size + 2 ≤ wr.heap.size) (fun i _ => 3 - (intOf i).toNat)
 case atStart => exact ⟨0, by omega, rfl, HB.out, HT.out, HBL.out, hz⟩
 case round =>
  clear HB HT HBL hz
  obtain ⟨k, hk, rfl, hb, ht, hbl, hz⟩ := hrel
  have HB := Lib.hid hb
  have HT := Lib.hid ht
  have HBL := Lib.hid hbl
  clear hb ht hbl
  have hk0 : (0 : Int) ≤ (k : Int) := Int.natCast_nonneg _
  by_cases hlt : k < 3
  ·have hlt' : (k : Int) < 3 := by omega
   go_wp2_with fail
   have hu1 := Lib.hid (show (wr.alloc (.cells (Q5 [0, 0, 0, 0, 0]) 256)).heap[wr.heap.size]? = some (.cells (Q5 (midN (powN bl k) bl 0)) 256 (0, 0)) from alloc_at rfl)
   have hb1 := Lib.hid ((alloc_before (o := .cells (Q5 [0, 0, 0, 0, 0]) 256) (show w.heap.size < wr.heap.size by omega)).trans HB.out)
   have ht1 := Lib.hid ((alloc_before (o := .cells (Q5 [0, 0, 0, 0, 0]) 256) (show w.heap.size + 1 < wr.heap.size by omega)).trans HT.out)
   have hl1 := Lib.hid (HBL.out.alloc (show w.heap.size ≤ wr.heap.size by omega) (.cells (Q5 [0, 0, 0, 0, 0]) 256))
   change Code.wp _ _ _ _ (wr.alloc (.cells (Q5 [0, 0, 0, 0, 0]) 256))
   have hz1 : w.heap.size + 2 ≤ (wr.alloc (.cells (Q5 [0, 0, 0, 0, 0]) 256)).heap.size := by rw [alloc_size1]; omega
   obtain ⟨X, hX⟩ : ∃ X, X = wr.heap.size := ⟨_, rfl⟩
   rw [← hX] at hu1
   rw [← hX]
   have hXl : w.heap.size + 1 < X := by omega
   generalize World.alloc wr _ = W5 at hu1 hb1 ht1 hl1 hz1 ⊢
   clear HB HT HBL hz hX
   obtain ⟨tl, htl⟩ : ∃ tl, tl = powN bl k := ⟨_, rfl⟩
   rw [← htl] at hu1 ht1
   have HTL := Lib.hid htl
   have htl5 : tl.length = 5 := by rw [htl]; exact powN_length _ _
   clear htl
   go_loopw [9] (fun i w2 => ∃ j : Nat, j ≤ 5 ∧ i = .int .i64 j ∧ w2.heap[X]? = some (.cells (Q5 (midN tl bl j)) 256 (0, 0)) ∧ w2.heap[w.heap.size]? = some (.cells (Q5 bl) 256 (0, 0)) ∧ w2.heap[w.heap.size + 1]? = some (.cells (Q5 tl) 256 (0, 0)) ∧ Below w.heap.size w w2 ∧ w.heap.size + 2 ≤ w2.heap.size) (fun i _ => 5 - (intOf i).toNat)
   case atStart => exact ⟨0, by omega, rfl, hu1.out, hb1.out, ht1.out, hl1.out, hz1⟩
   case round =>
    clear hu1 hb1 ht1 hl1 hz1
    obtain ⟨j, hj, rfl, hu, hb, ht, hbl, hz⟩ := hrel
    have HU := Lib.hid hu
    have HB := Lib.hid hb
    have HT := Lib.hid ht
    have HBL := Lib.hid hbl
    clear hu hb ht hbl
    have hj0 : (0 : Int) ≤ (j : Int) := Int.natCast_nonneg _
    by_cases hlt2 : j < 5
    ·have hlt2' : (j : Int) < 5 := by omega
     go_wp2_with fail
     have hul : (midN tl bl j).length = 5 := midN_length _ _ _
     obtain ⟨ul, hule⟩ : ∃ ul, ul = midN tl bl j := ⟨_, rfl⟩
     rw [← hule] at HU hul
     have HUL := Lib.hid hule
     clear hule
     go_loopw [10, 11] (fun c i w3 => ∃ q : Nat, q ≤ min 2 (5 - j) ∧ i = .int .i64 q ∧ c = Q64 (inN ul tl bl j q).2 ∧ w3.heap[X]? = some (.cells (Q5 (inN ul tl bl j q).1) 256 (0, 0)) ∧ w3.heap[w.heap.size]? = some (.cells (Q5 bl) 256 (0, 0)) ∧ w3.heap[w.heap.size + 1]? = some (.cells (Q5 tl) 256 (0, 0)) ∧ Below w.heap.size w w3 ∧ w.heap.size + 2 ≤ w3.heap.size) (fun _ i _ => 2 - (intOf i).toNat)
     case atStart => exact ⟨0, Nat.zero_le _, rfl, rfl, HU.out, HB.out, HT.out, HBL.out, hz⟩
     case round =>
      clear HU HB HT HBL hz
      obtain ⟨q, hq, rfl, rfl, hu, hb, ht, hbl, hz⟩ := hrel
      have HU := Lib.hid hu
      have HB := Lib.hid hb
      have HT := Lib.hid ht
      have HBL := Lib.hid hbl
      clear hu hb ht hbl
      have hq0 : (0 : Int) ≤ (q : Int) := Int.natCast_nonneg _
      have hql := (inN_length ul tl bl j q).trans hul
      obtain ⟨vl, hvl⟩ : ∃ vl, vl = (inN ul tl bl j q).1 := ⟨_, rfl⟩
      obtain ⟨cc, hcc⟩ : ∃ cc, cc = (inN ul tl bl j q).2 := ⟨_, rfl⟩
      rw [← hvl] at HU hql
      rw [← hcc]
      have HVL := Lib.hid hvl
      have HCC := Lib.hid hcc
      clear hvl hcc
      by_cases hlt3 : q < 2 ∧ j + q < 5
      ·have hq2 : (q : Int) < 2 := by omega
       have hq5 : (j : Int) + (q : Int) < 5 := by omega
       go_upto_region 14 with (fail)
       have c8 := q5_at HU.out (k := j + q) (by omega)
       have c6 := q5_at HT.out (k := j) (by omega)
       have c5 := q5_at HB.out (k := q) (by have := HLB.out; omega)
       refine reg142_14 (b5 := w.heap.size) (b6 := w.heap.size + 1) (b8 := X) (jj := j) (ii := q) (cc := cc) (by kernel_rfl) rfl hlt3.2 hlt3.1 (by rw [World.cell?_drew]; exact c8) (by rw [World.cell?_drew]; exact c6) (by rw [World.cell?_drew]; exact c5) rfl rfl rfl rfl rfl rfl rfl (fun A hd hs hr hR => ?_)
       have y12 : A.eval (.tmp 12) = Q64 (inSum vl tl bl j q cc) := hR 15 (by decide)
       have y0 : A.eval (.tmp 0) = Q64 x := hr 0 (by kernel_rfl)
       have y1 : A.eval (.tmp 1) = Q64 n := hr 1 (by kernel_rfl)
       have y2 : A.eval (.tmp 2) = undef := hr 2 (by kernel_rfl)
       have y3 : A.eval (.tmp 3) = undef := hr 3 (by kernel_rfl)
       have y4 : A.eval (.tmp 4) = Value.bool false := hr 4 (by kernel_rfl)
       have y5 : A.eval (.tmp 5) = Value.pointer (some { block := w.heap.size, off := 0 }) := hr 5 (by kernel_rfl)
       have y6 : A.eval (.tmp 6) = Value.pointer (some { block := w.heap.size + 1, off := 0 }) := hr 6 (by kernel_rfl)
       have y7 : A.eval (.tmp 7) = Value.int IntKind.i64 ↑k := hr 7 (by kernel_rfl)
       have y8 : A.eval (.tmp 8) = Value.pointer (some { block := X, off := 0 }) := hr 8 (by kernel_rfl)
       have y9 : A.eval (.tmp 9) = Value.int IntKind.i64 ↑j := hr 9 (by kernel_rfl)
       have y10 : A.eval (.tmp 10) = Q64 cc := hr 10 (by kernel_rfl)
       have y11 : A.eval (.tmp 11) = Value.int IntKind.i64 ↑q := hr 11 (by kernel_rfl)
       have y12 : A.eval (.tmp 12) = Q64 (inSum vl tl bl j q cc) := y12
       have y13 : A.eval (.tmp 13) = Q64 x := hr 13 (by kernel_rfl)
       have y14 : A.eval (.tmp 14) = Value.int IntKind.u64 (↑x % 4294967296) := hr 14 (by kernel_rfl)
       have y15 : A.eval (.tmp 15) = Q64 x := hr 15 (by kernel_rfl)
       have y16 : A.eval (.tmp 16) = Value.int IntKind.u64 (↑x / 4294967296) := hr 16 (by kernel_rfl)
       have y17 : A.eval (.tmp 17) = Value.agg #[Value.int IntKind.u64 (↑x % 4294967296), Value.int IntKind.u64 (↑x / 4294967296), Value.int IntKind.u64 0, Value.int IntKind.u64 0, Value.int IntKind.u64 0] := hr 17 (by kernel_rfl)
       have y18 : A.eval (.tmp 18) = Value.agg #[Value.int IntKind.u64 1, Value.int IntKind.u64 0, Value.int IntKind.u64 0, Value.int IntKind.u64 0, Value.int IntKind.u64 0] := hr 18 (by kernel_rfl)
       have y19 : A.eval (.tmp 19) = Value.int IntKind.i64 ↑k := hr 19 (by kernel_rfl)
       have y20 : A.eval (.tmp 20) = Value.bool true := hr 20 (by kernel_rfl)
       have y21 : A.eval (.tmp 21) = u21 := hr 21 (by kernel_rfl)
       have y22 : A.eval (.tmp 22) = u22 := hr 22 (by kernel_rfl)
       have y23 : A.eval (.tmp 23) = Value.agg #[Value.int IntKind.u64 0, Value.int IntKind.u64 0, Value.int IntKind.u64 0, Value.int IntKind.u64 0, Value.int IntKind.u64 0] := hr 23 (by kernel_rfl)
       have y24 : A.eval (.tmp 24) = Value.int IntKind.i64 ↑j := hr 24 (by kernel_rfl)
       have y25 : A.eval (.tmp 25) = Value.bool true := hr 25 (by kernel_rfl)
       have y26 : A.eval (.tmp 26) = u26 := hr 26 (by kernel_rfl)
       have y27 : A.eval (.tmp 27) = u27 := hr 27 (by kernel_rfl)
       have y28 : A.eval (.tmp 28) = Value.int IntKind.i64 ↑q := hr 28 (by kernel_rfl)
       have y29 : A.eval (.tmp 29) = Value.bool true := hr 29 (by kernel_rfl)
       have y30 : A.eval (.tmp 30) = Value.bool true := hr 30 (by kernel_rfl)
       have y31 : A.eval (.tmp 31) = Value.int IntKind.i64 ↑j := hr 31 (by kernel_rfl)
       have y32 : A.eval (.tmp 32) = Value.int IntKind.i64 ↑q := hr 32 (by kernel_rfl)
       have y33 : A.eval (.tmp 33) = Value.int IntKind.i64 (↑j + ↑q) := hr 33 (by kernel_rfl)
       have y34 : A.eval (.tmp 34) = Value.bool true := hr 34 (by kernel_rfl)
       have y35 : A.eval (.tmp 35) = Value.bool true := hr 35 (by kernel_rfl)
       have y36 : A.eval (.tmp 36) = u36 := hr 36 (by kernel_rfl)
       have y37 : A.eval (.tmp 37) = u37 := hr 37 (by kernel_rfl)
       have y53 : A.eval (.tmp 53) = u53 := hr 53 (by kernel_rfl)
       have y54 : A.eval (.tmp 54) = u54 := hr 54 (by kernel_rfl)
       have y55 : A.eval (.tmp 55) = u55 := hr 55 (by kernel_rfl)
       have y56 : A.eval (.tmp 56) = u56 := hr 56 (by kernel_rfl)
       have y57 : A.eval (.tmp 57) = u57 := hr 57 (by kernel_rfl)
       have y58 : A.eval (.tmp 58) = u58 := hr 58 (by kernel_rfl)
       have y59 : A.eval (.tmp 59) = u59 := hr 59 (by kernel_rfl)
       have y60 : A.eval (.tmp 60) = u60 := hr 60 (by kernel_rfl)
       have y61 : A.eval (.tmp 61) = u61 := hr 61 (by kernel_rfl)
       have y62 : A.eval (.tmp 62) = u62 := hr 62 (by kernel_rfl)
       have y63 : A.eval (.tmp 63) = u63 := hr 63 (by kernel_rfl)
       have y64 : A.eval (.tmp 64) = u64 := hr 64 (by kernel_rfl)
       have y65 : A.eval (.tmp 65) = u65 := hr 65 (by kernel_rfl)
       have y66 : A.eval (.tmp 66) = u66 := hr 66 (by kernel_rfl)
       have y67 : A.eval (.tmp 67) = u67 := hr 67 (by kernel_rfl)
       have y68 : A.eval (.tmp 68) = u68 := hr 68 (by kernel_rfl)
       have y69 : A.eval (.tmp 69) = u69 := hr 69 (by kernel_rfl)
       have y70 : A.eval (.tmp 70) = u70 := hr 70 (by kernel_rfl)
       have y71 : A.eval (.tmp 71) = u71 := hr 71 (by kernel_rfl)
       have y72 : A.eval (.tmp 72) = u72 := hr 72 (by kernel_rfl)
       have y73 : A.eval (.tmp 73) = u73 := hr 73 (by kernel_rfl)
       have y74 : A.eval (.tmp 74) = undef := hr 74 (by kernel_rfl)
       have y75 : A.eval (.tmp 75) = undef := hr 75 (by kernel_rfl)
       have y76 : A.eval (.tmp 76) = undef := hr 76 (by kernel_rfl)
       have y77 : A.eval (.tmp 77) = undef := hr 77 (by kernel_rfl)
       have y78 : A.eval (.tmp 78) = undef := hr 78 (by kernel_rfl)
       have y79 : A.eval (.tmp 79) = undef := hr 79 (by kernel_rfl)
       have y80 : A.eval (.tmp 80) = undef := hr 80 (by kernel_rfl)
       have y81 : A.eval (.tmp 81) = undef := hr 81 (by kernel_rfl)
       have y82 : A.eval (.tmp 82) = undef := hr 82 (by kernel_rfl)
       have y83 : A.eval (.tmp 83) = undef := hr 83 (by kernel_rfl)
       have y84 : A.eval (.tmp 84) = undef := hr 84 (by kernel_rfl)
       have y85 : A.eval (.tmp 85) = undef := hr 85 (by kernel_rfl)
       have y86 : A.eval (.tmp 86) = undef := hr 86 (by kernel_rfl)
       have y87 : A.eval (.tmp 87) = undef := hr 87 (by kernel_rfl)
       have y88 : A.eval (.tmp 88) = undef := hr 88 (by kernel_rfl)
       have y89 : A.eval (.tmp 89) = undef := hr 89 (by kernel_rfl)
       have y90 : A.eval (.tmp 90) = undef := hr 90 (by kernel_rfl)
       have y91 : A.eval (.tmp 91) = undef := hr 91 (by kernel_rfl)
       have y92 : A.eval (.tmp 92) = undef := hr 92 (by kernel_rfl)
       have y93 : A.eval (.tmp 93) = undef := hr 93 (by kernel_rfl)
       have y94 : A.eval (.tmp 94) = undef := hr 94 (by kernel_rfl)
       have y95 : A.eval (.tmp 95) = undef := hr 95 (by kernel_rfl)
       have y96 : A.eval (.tmp 96) = undef := hr 96 (by kernel_rfl)
       have y97 : A.eval (.tmp 97) = undef := hr 97 (by kernel_rfl)
       have y98 : A.eval (.tmp 98) = undef := hr 98 (by kernel_rfl)
       have y99 : A.eval (.tmp 99) = undef := hr 99 (by kernel_rfl)
       have y100 : A.eval (.tmp 100) = undef := hr 100 (by kernel_rfl)
       have y101 : A.eval (.tmp 101) = undef := hr 101 (by kernel_rfl)
       rw [act102 hs, hd, y0, y1, y2, y3, y4, y5, y6, y7, y8, y9, y10, y11, y12, y13, y14, y15, y16, y17, y18, y19, y20, y21, y22, y23, y24, y25, y26, y27, y28, y29, y30, y31, y32, y33, y34, y35, y36, y37, y53, y54, y55, y56, y57, y58, y59, y60, y61, y62, y63, y64, y65, y66, y67, y68, y69, y70, y71, y72, y73, y74, y75, y76, y77, y78, y79, y80, y81, y82, y83, y84, y85, y86, y87, y88, y89, y90, y91, y92, y93, y94, y95, y96, y97, y98, y99, y100, y101]
       generalize A.eval (.tmp 38) = x1_38
       generalize A.eval (.tmp 39) = x1_39
       generalize A.eval (.tmp 40) = x1_40
       generalize A.eval (.tmp 41) = x1_41
       generalize A.eval (.tmp 42) = x1_42
       generalize A.eval (.tmp 43) = x1_43
       generalize A.eval (.tmp 44) = x1_44
       generalize A.eval (.tmp 45) = x1_45
       generalize A.eval (.tmp 46) = x1_46
       generalize A.eval (.tmp 47) = x1_47
       generalize A.eval (.tmp 48) = x1_48
       generalize A.eval (.tmp 49) = x1_49
       generalize A.eval (.tmp 50) = x1_50
       generalize A.eval (.tmp 51) = x1_51
       generalize A.eval (.tmp 52) = x1_52
       clear hr hs hd y0 y1 y2 y3 y4 y5 y6 y7 y8 y9 y10 y11 y12 y13 y14 y15 y16 y17 y18 y19 y20 y21 y22 y23 y24 y25 y26 y27 y28 y29 y30 y31 y32 y33 y34 y35 y36 y37 y53 y54 y55 y56 y57 y58 y59 y60 y61 y62 y63 y64 y65 y66 y67 y68 y69 y70 y71 y72 y73 y74 y75 y76 y77 y78 y79 y80 y81 y82 y83 y84 y85 y86 y87 y88 y89 y90 y91 y92 y93 y94 y95 y96 y97 y98 y99 y100 y101
       clear hR
       have hsl : inSum vl tl bl j q cc < 18446744073709551616 := Nat.mod_lt _ (by decide)
       have hlow := bits_low64 hsl
       have hfr : wr.frozen? ⟨X, j + q, none⟩ = false := by simp [World.frozen?, HU.out]
       generalize hsv : inSum vl tl bl j q cc = sv at hlow hsl
       have HSV := Lib.hid hsv
       clear hsv
       have hset : (wr.setCell ⟨X, j + q, none⟩ (.int .u64 ((sv : Int) % 4294967296))).heap[X]? = some (.cells (Q5 (vl.set (j + q) (sv % 4294967296))) 256 (0, 0)) := by
        have h := q5_set HU.out (j + q) (sv % 4294967296)
        rwa [show (Q64 (sv % 4294967296)) = .int .u64 ((sv : Int) % 4294967296) from by simp [Q64]] at h
       have HSET := Lib.hid hset
       have hst : inN ul tl bl j (q + 1) = (vl.set (j + q) (sv % 4294967296), sv / 4294967296) := by
        simp only [inN]
        rw [← HVL.out, ← HCC.out, HSV.out]
       have HST := Lib.hid hst
       clear hset hst
       go_wp2
       go_roundw
       case rel =>
        refine ⟨q + 1, by omega, (by first | rfl | go_num), by rw [HST.out]; simp [Q64], by rw [HST.out]; exact HSET.out, ?_, ?_, ?_, ?_⟩
        ·exact (Below.heap_setCell _ _ _ _ (by simp; omega)).trans HB.out
        ·exact (Below.heap_setCell _ _ _ _ (by simp; omega)).trans HT.out
        ·exact (HBL.out.setCell (by simp; omega) _).drew
        ·show w.heap.size + 2 ≤ (wr.setCell _ _).heap.size
         rw [setCell_size]; exact hz
       case measure => simp [intOf]; omega
      ·have hqm : q = min 2 (5 - j) := by omega
       have hms : midN tl bl (j + 1) = if j + 2 < 5 then vl.set (j + 2) ((vl.getD (j + 2) 0 + cc) % 18446744073709551616) else vl := by
        simp only [midN, midStep]
        rw [← HUL.out, ← hqm, ← HVL.out, ← HCC.out]
       have HMS := Lib.hid hms
       clear hms
       by_cases hj2 : j + 2 < 5
       ·have hq2 : ¬ (q : Int) < 2 := by omega
        have hj2' : (j : Int) + 2 < 5 := by omega
        have c8 := q5_at HU.out (k := j + 2) (by omega)
        have hfr : wr.frozen? ⟨X, j + 2, none⟩ = false := by simp [World.frozen?, HU.out]
        rw [if_pos hj2] at HMS
        obtain ⟨uv, huv⟩ : ∃ uv, uv = vl.getD (j + 2) 0 := ⟨_, rfl⟩
        rw [← huv] at HMS c8
        clear huv
        have hset : (wr.setCell ⟨X, j + 2, none⟩ (.int .u64 (IntKind.u64.wrap ((uv : Int) + (cc : Int))))).heap[X]? = some (.cells (Q5 (vl.set (j + 2) ((uv + cc) % 18446744073709551616))) 256 (0, 0)) := by
         have h := q5_set HU.out (j + 2) ((uv + cc) % 18446744073709551616)
         rwa [show (Q64 ((uv + cc) % 18446744073709551616)) = .int .u64 (IntKind.u64.wrap ((uv : Int) + (cc : Int))) from by rw [IntKind.wrap_u64]; simp [Q64]] at h
        have HSET := Lib.hid hset
        clear hset
        go_wp2
        go_roundw
        case rel =>
         refine ⟨j + 1, by omega, (by first | rfl | go_num), by rw [HMS.out]; exact HSET.out, ?_, ?_, ?_, ?_⟩
         ·exact (Below.heap_setCell _ _ _ _ (by simp; omega)).trans HB.out
         ·exact (Below.heap_setCell _ _ _ _ (by simp; omega)).trans HT.out
         ·exact HBL.out.setCell (by simp; omega) _
         ·rw [setCell_size]; exact hz
        case measure => simp [intOf]; omega
       ·have hj2' : ¬ (j : Int) + 2 < 5 := by omega
        rw [if_neg hj2] at HMS
        by_cases hq2 : q < 2
        ·have hq2' : (q : Int) < 2 := by omega
         have hq5 : ¬ (j : Int) + (q : Int) < 5 := by omega
         go_wp2
         go_roundw
         case rel => exact ⟨j + 1, by omega, (by first | rfl | go_num), by rw [HMS.out]; exact HU.out, HB.out, HT.out, HBL.out, hz⟩
         case measure => simp [intOf]; omega
        ·have hq2' : ¬ (q : Int) < 2 := by omega
         go_wp2
         go_roundw
         case rel => exact ⟨j + 1, by omega, (by first | rfl | go_num), by rw [HMS.out]; exact HU.out, HB.out, HT.out, HBL.out, hz⟩
         case measure => simp [intOf]; omega
    ·obtain rfl : j = 5 := by omega
     have hml5 := midN_length tl bl 5
     obtain ⟨ml, hml⟩ : ∃ ml, ml = midN tl bl 5 := ⟨_, rfl⟩
     rw [← hml] at HU hml5
     have HML := Lib.hid hml
     clear hml
     have hsz : (Q5 ml).size = 5 := by rw [q5_size]; exact hml5
     have hrange := Lib.hid (range_of_heap HU.out)
     have hth := Lib.hid (there_of_heap HT.out (n := 5) (by rw [q5_size]; exact htl5))
     go_wp2_with (first | (refine wpList_load_mid (by rfl) 256 (.tmp 8) (by rfl) X 0 (by rfl) (Q5 ml).toList (.array 5 105) hrange.out hu256 rfl (by rw [Array.length_toList, hsz]; exact hi256) ?_) | (refine wpList_store_mid (by rfl) 256 (.tmp 6) (.tmp 73) (by rfl) (w.heap.size + 1) 0 (Q5 ml) (by rfl) (by rfl) (by rw [hsz]; exact hth.out) (by rw [hsz]; exact hi256) (q5_ones _) ?_))
     go_roundw
     case rel =>
      refine ⟨k + 1, by omega, (by first | rfl | go_num), (setCells_block _ _ _ _ _ (by omega)).trans HB.out, ?_, setCells_below _ (by omega) _ _ HBL.out, by rw [setCells_size]; exact hz⟩
      rw [show powN bl (k + 1) = ml from by rw [HML.out, HTL.out]; rfl]
      exact setCells_whole HT.out (by rw [q5_size, q5_size, hml5, htl5])
     case measure => simp [intOf]; omega
  ·obtain rfl : k = 3 := by omega
   have hpl := powN_length bl 3
   obtain ⟨tl, htl⟩ : ∃ tl, tl = powN bl 3 := ⟨_, rfl⟩
   rw [← htl] at HT hpl
   obtain ⟨t0, t1, t2, t3, t4, rfl⟩ := five_l hpl
   have HTL := Lib.hid htl
   clear htl
   have e0 := q5_at HT.out (k := 0) (by simp)
   have e1 := q5_at HT.out (k := 1) (by simp)
   have e2 := q5_at HT.out (k := 2) (by simp)
   have e3 := q5_at HT.out (k := 3) (by simp)
   have e4 := q5_at HT.out (k := 4) (by simp)
   simp only [List.getD_cons_zero, List.getD_cons_succ] at e0 e1 e2 e3 e4
   have hab : aboveM x n = (decide (0 < t4) || (decide (n < t3) || (decide (t3 = n) && (decide (0 < t2) || (decide (0 < t1) || decide (0 < t0)))))) := by
    unfold aboveM
    rw [← HBLX.out, ← HTL.out]
    rfl
   have HAB := Lib.hid hab
   clear hab hpl
   go_wp2
   all_goals go_ret
   all_goals refine ⟨?_, HBL.out⟩
   all_goals rw [HAB.out]
   all_goals refine congrArg (fun z => Ending.returned (Value.bool z)) ?_
   all_goals rw [Bool.eq_iff_iff]
   all_goals simp only [Bool.or_eq_true, Bool.and_eq_true, decide_eq_true_eq]
   all_goals try simp only [eq_self_iff_true, true_iff]
   all_goals omega
end Go.Proofs.YtoimjnmhinfbkaaGreatDoor

namespace Go.Proofs.YtoimjnmhinfbkaaGreatDoor
open Go.RowKit
set_option maxRecDepth 100000
/-- the third root's figures, by halving. -/
def cubeIt (p : Nat) : Nat → Nat × Nat
 | 0 => (0, 68719476736)
 | i + 1 => let s := cubeIt p i; let m := (s.1 + s.2) / 2; if aboveM m p then (s.1, m) else (m, s.2)
theorem cubeIt_gap (p : Nat) : ∀ i, i ≤ 36 → (cubeIt p i).2 = (cubeIt p i).1 + 2 ^ (36 - i) ∧ (cubeIt p i).2 ≤ 68719476736
 | 0, _ => by simp [cubeIt]
 | i + 1, h => by
  have ⟨h1, h2⟩ := cubeIt_gap p i (by omega)
  have h3 : 2 ^ (36 - i) = 2 * 2 ^ (36 - (i + 1)) := by rw [show 36 - i = (36 - (i + 1)) + 1 by omega, Nat.pow_succ]; omega
  rw [h3] at h1
  generalize 2 ^ (36 - (i + 1)) = z at h1 ⊢
  simp only [cubeIt]
  generalize aboveM (((cubeIt p i).1 + (cubeIt p i).2) / 2) p = c
  generalize cubeIt p i = s at h1 h2 ⊢
  cases c
  ·simp only [Bool.false_eq_true, if_false]; omega
  ·simp only [if_true]; omega
set_option maxHeartbeats 3200000 in
theorem cube_any (p : Nat) (hp : p < 18446744073709551616) (w : World) :
  Calls Tryz.prog 116 #[Q64 p] w fun e w' => e = .returned (U (BitVec.ofNat 32 (cubeIt p 36).1)) ∧ Below w.heap.size w w' := by
 go_enter Tryz.func116, Tryz.ntmps116
 go_wp2_with fail
 have hB0 := Below.refl w.heap.size w
 go_loopw [3, 4] (fun a b wr => ∃ i : Nat, i ≤ 36 ∧ a = Q64 (cubeIt p i).1 ∧ b = Q64 (cubeIt p i).2 ∧ Below w.heap.size w wr) (fun a b _ => (intOf b - intOf a).toNat)
 case atStart => exact ⟨0, by omega, rfl, rfl, hB0⟩
 case round =>
  clear hB0
  obtain ⟨i, hi, rfl, rfl, hbl⟩ := hrel
  have HBL := Lib.hid hbl
  clear hbl
  have ⟨g1, g2⟩ := cubeIt_gap p i hi
  have hst : cubeIt p (i + 1) = if aboveM (((cubeIt p i).1 + (cubeIt p i).2) / 2) p then ((cubeIt p i).1, ((cubeIt p i).1 + (cubeIt p i).2) / 2) else (((cubeIt p i).1 + (cubeIt p i).2) / 2, (cubeIt p i).2) := rfl
  obtain ⟨lo, hlo⟩ : ∃ lo, lo = (cubeIt p i).1 := ⟨_, rfl⟩
  obtain ⟨hi', hhi⟩ : ∃ hi', hi' = (cubeIt p i).2 := ⟨_, rfl⟩
  rw [← hlo, ← hhi] at hst g1
  rw [← hhi] at g2
  rw [← hlo, ← hhi]
  have HST := Lib.hid hst
  have HLO := Lib.hid hlo
  clear hst hlo hhi
  obtain ⟨z, hz⟩ : ∃ z, z = 2 ^ (36 - i) := ⟨_, rfl⟩
  rw [← hz] at g1
  have hle : lo ≤ hi' := by omega
  have G1 := Lib.hid g1
  have HZ := Lib.hid hz
  clear hz g1
  have l0 : (0 : Int) ≤ (lo : Int) := Int.natCast_nonneg _
  have l1 : (0 : Int) ≤ (hi' : Int) := Int.natCast_nonneg _
  have l2 : (hi' : Int) ≤ 68719476736 := by omega
  have l3 : (lo : Int) ≤ 68719476736 := by omega
  by_cases hlt : i < 36
  ·have hc : (lo : Int) + 1 < (hi' : Int) := by
    have h1 := G1.out
    have h2 := HZ.out
    have h3 : 2 ^ 1 ≤ 2 ^ (36 - i) := Nat.pow_le_pow_right (by decide) (by omega)
    rw [← h2] at h3
    omega
   go_wp2_with fail
   obtain ⟨m, hmm⟩ : ∃ m, m = (lo + hi') / 2 := ⟨_, rfl⟩
   have hm : ((lo : Int) + (hi' : Int)) / 2 = (m : Int) := by omega
   rw [hm]
   have hst2 := HST.out
   rw [← hmm] at hst2
   have HST := Lib.hid hst2
   have hm2 : m < 18446744073709551616 := by omega
   have hm3 : lo ≤ m ∧ m ≤ hi' ∧ lo < m ∧ m < hi' := by omega
   have hm0 : (0 : Int) ≤ (m : Int) := Int.natCast_nonneg _
   clear hst2 hmm hm
   refine (above_any m p hm2 hp _).mono ?_
   rintro e w1 ⟨rfl, hb1⟩
   have HB1 := Lib.hid (HBL.out.trans (hb1.mono HBL.out.size))
   clear hb1
   have hmeas : (lo : Int) + 1 < (hi' : Int) := hc
   cases hab : aboveM m p with
   | true =>
    rw [hab, if_pos rfl] at HST
    clear hab
    have HST1 := Lib.hid (congrArg Prod.fst HST.out)
    have HST2 := Lib.hid (congrArg Prod.snd HST.out)
    clear HST HLO G1 HZ g2
    go_wp2
    go_roundw
    case rel => exact ⟨i + 1, by omega, by rw [HST1.out], by rw [HST2.out], HB1.out⟩
    case measure => simp only [intOf]; omega
   | false =>
    rw [hab, if_neg (by decide)] at HST
    clear hab
    have HST1 := Lib.hid (congrArg Prod.fst HST.out)
    have HST2 := Lib.hid (congrArg Prod.snd HST.out)
    clear HST HLO G1 HZ g2
    go_wp2
    go_roundw
    case rel => exact ⟨i + 1, by omega, by rw [HST1.out], by rw [HST2.out], HB1.out⟩
    case measure => simp only [intOf]; omega
  ·obtain rfl : i = 36 := by omega
   have hc : ¬ (lo : Int) + 1 < (hi' : Int) := by
    have h1 := G1.out
    have h2 : z = 1 := HZ.out
    omega
   have hlow := bits_low64 (a := lo) (by omega)
   go_wp2
   go_ret
   refine ⟨?_, HBL.out⟩
   rw [← HLO.out]
   have he : (lo : Int) % 4294967296 = ((BitVec.ofNat 32 lo).toNat : Int) := by
    rw [BitVec.toNat_ofNat]; omega
   exact congrArg (fun z => Ending.returned (.int .u32 z)) he
end Go.Proofs.YtoimjnmhinfbkaaGreatDoor

namespace Go.Proofs.YtoimjnmhinfbkaaGreatDoor
open Go.RowKit
set_option maxRecDepth 100000
/-- the primes under a bound, as the document finds them. -/
def prm : Nat → List Nat
 | 0 => []
 | n + 1 => if 2 ≤ n ∧ (prm n).all (fun q => decide (n % q ≠ 0)) = true then prm n ++ [n] else prm n
theorem prm_312 : (prm 312).length = 64 := by kernel_rfl
theorem prm_small : ∀ n, n < 312 → (prm n).length < 64 := fun n h => by
 have h1 : (List.range 312).all (fun n => decide ((prm n).length < 64)) = true := by kernel_rfl
 exact of_decide_eq_true (List.all_eq_true.1 h1 n (List.mem_range.2 h))
theorem prm_pos : ∀ n, ∀ q ∈ prm n, 2 ≤ q ∧ q < n
 | 0, q, h => by cases h
 | n + 1, q, h => by
  unfold prm at h
  split at h
  ·rename_i h2
   rcases List.mem_append.1 h with h | h
   ·have := prm_pos n q h; omega
   ·simp at h; omega
  ·have := prm_pos n q h; omega
theorem own_form {w : World} {base size n : Nat} {e : TypeId} {v : Value} {xs : List Value} (h : w.ownsRow base e size v n xs) (hn : 0 < n) : ∃ g cap, v = .slice (some ⟨g, 0, none⟩) n cap := by
 rcases h.2 with ⟨-, h1⟩ | ⟨g, cap, cur, h1, -⟩
 ·omega
 ·exact ⟨g, cap, h1⟩
theorem info105 : (Tryz.prog.info? 105).map (fun i => (i.zero, i.size, i.bytes)) = some (some (Q64 0), 1, 8) := by kernel_rfl
set_option maxHeartbeats 3200000 in
theorem primes_64 (w : World) : Calls Tryz.prog 115 #[.int .i64 64] w fun e w' => ∃ g cap, e = .returned (.slice (some ⟨g, 0, none⟩) 64 cap) ∧ w'.ownsRow w.heap.size 105 1 (.slice (some ⟨g, 0, none⟩) 64 cap) 64 ((prm 312).map fun x => Q64 x) ∧ Below w.heap.size w w' := by
 obtain ⟨i0, hi0, hz0, hzz1, hzz2⟩ := info_parts info105
 go_enter Tryz.func115, Tryz.ntmps115
 go_wp2_with fail
 have hown := Lib.hid (World.ownsRow_made (e := 105) (size := 1) (base := w.heap.size) w #[] 0 (Nat.le_refl _) (by decide) rfl)
 have hbl := Lib.hid ((Below.refl w.heap.size w).alloc (Nat.le_refl _) (.cells #[] 105))
 go_loopw [3, 4] (fun v m wr => ∃ n g cap : Nat, 2 ≤ n ∧ n ≤ 312 ∧ m = Q64 n ∧ v = .slice (some ⟨g, 0, none⟩) (prm n).length cap ∧ wr.ownsRow w.heap.size 105 1 (.slice (some ⟨g, 0, none⟩) (prm n).length cap) (prm n).length ((prm n).map fun x => Q64 x) ∧ Below w.heap.size w wr) (fun _ m _ => 312 - (intOf m).toNat)
 case atStart => exact ⟨2, w.heap.size, 0, by omega, by omega, rfl, rfl, hown.out, hbl.out⟩
 case round =>
  clear hown hbl
  obtain ⟨n, g, cap, hn2, hn, rfl, rfl, hown, hbl⟩ := hrel
  have HO := Lib.hid hown
  have HBL := Lib.hid hbl
  clear hown hbl
  by_cases hlt : n < 312
  ·have hs := prm_small n hlt
   have hlt' : ((prm n).length : Int) < 64 := by omega
   go_wp2_with fail
   have hq := prm_pos n
   have HQ := Lib.hid hq
   clear hq
   go_loopw [5, 17] (fun c i w2 => ∃ k : Nat, k ≤ (prm n).length ∧ i = .int .i64 k ∧ c = .bool true ∧ ((prm n).take k).all (fun q => decide (n % q ≠ 0)) = true ∧ w2 = wr) (fun _ i _ => (prm n).length - (intOf i).toNat)
   case atStart => exact ⟨0, by omega, rfl, rfl, rfl, rfl⟩
   case round =>
    obtain ⟨k, hk, rfl, rfl, hall, rfl⟩ := hrel
    have HALL := Lib.hid hall
    clear hall
    have hk0 : (0 : Int) ≤ (k : Int) := Int.natCast_nonneg _
    by_cases hlt2 : k < (prm n).length
    ·have hlt2' : (k : Int) < ((prm n).length : Int) := by omega
     have hcell := HO.out.cellAt k (by omega)
     rw [List.getElem?_map, List.getElem?_eq_getElem hlt2] at hcell
     have hcell2 : _ = some (Q64 (prm n)[k]) := hcell
     have hqq := HQ.out _ (List.getElem_mem hlt2)
     have hnx : n % (prm n)[k] = 0 → prm (n + 1) = prm n := fun h => by
      rw [prm, if_neg]
      rintro ⟨-, h2⟩
      have h3 := List.all_eq_true.1 h2 _ (List.getElem_mem hlt2)
      simp [h] at h3
     have HNX := Lib.hid hnx
     clear hnx
     by_cases hr : n % (prm n)[k] = 0
     ·go_wp2
      go_roundw
      case rel => exact ⟨n + 1, g, cap, by omega, by omega, (by first | rfl | go_num), by rw [HNX.out hr], by rw [HNX.out hr]; exact HO.out, HBL.out⟩
      case measure => simp [intOf]; omega
     ·go_wp2
      go_roundw
      case rel => exact ⟨k + 1, by omega, (by first | rfl | go_num), rfl, by rw [← List.take_append_getElem hlt2, List.all_append, HALL.out]; simp [hr], (by first | trivial | rfl)⟩
      case measure => simp [intOf]; omega
    ·obtain rfl : k = (prm n).length := by omega
     go_wp2_with (at_builtin; (refine wpList_append_own _ rfl _ _ 182 rfl w.heap.size 105 i0 (Q64 0) 1 8 Tryz.underlying182 hi0 hz0 hzz1 hzz2 rfl (by decide) _ (prm n).length _ rfl (HO.out.alloc _) ⟨wr.heap.size, 0, none⟩ 1 1 [_] rfl rfl (cell_one_new _ _ _) (by simp [Value.oneCell']) (by unfold maxLen; omega) (by omega) (by have := HBL.out.size; simp; omega) ?_; intro v' w1 hown' hgrow hnil))
     go_roundw
     case rel =>
      have hpn : prm (n + 1) = prm n ++ [n] := by
       rw [prm, if_pos]
       exact ⟨hn2, by simpa using HALL.out⟩
      obtain ⟨g', cap', hv⟩ := own_form hown' (by omega)
      have hl : (prm (n + 1)).length = (prm n).length + 1 := by rw [hpn]; simp
      refine ⟨n + 1, g', cap', by omega, by omega, (by first | rfl | go_num), by rw [hl]; exact hv, ?_, ?_⟩
      ·rw [hl, hpn, List.map_append, ← hv]; exact hown'
      ·exact (HBL.out.alloc HBL.out.size _).grown hgrow (by have := HBL.out.size; simp; omega) (fun k hk => (HO.out.lt k hk).1)
     case measure => simp [intOf]; omega
  ·obtain rfl : n = 312 := by omega
   have hl := prm_312
   rw [hl] at HO ⊢
   go_wp2
   go_ret
   exact ⟨g, cap, rfl, HO.out, HBL.out⟩
end Go.Proofs.YtoimjnmhinfbkaaGreatDoor
