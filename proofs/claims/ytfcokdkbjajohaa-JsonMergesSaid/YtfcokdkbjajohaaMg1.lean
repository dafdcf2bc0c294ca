/- Merged: Shelf, But, TxtP, JsP, Rd, App, JsA, JsB, JsC, JsD, JsQ, JsR, JsL, JsT. -/
import Derived.Shelf.Strings.Builder1
import Derived.Shelf.Small.Bits
import Derived.Shelf.Small.Strs
import Derived.Shelf.Small.Wraps
import Derived.Shelf.Strings.BuilderF
import Derived.Shelf.Strings.BuilderK
import Derived.Shelf.Utf8.AppendRune
import Derived.Shelf.Utf8.AppendRunePlain
import Derived.Shelf.Strconv.Itoa0
import Derived.Shelf.Strings.Search1
import Derived.Shelf.Sort.Plain
import Derived.Shelf.Strings.Prefix
import Derived.Shelf.Strings.BuilderCap
import Derived.Shelf.Slices.CompactS
import Derived.Shelf.Slices.Cells
import Derived.Shelf.Slices.In.SortNone
import Derived.Test.YtfcokdkbjajohaaProg
import Derived.WalkKit
import Derived.WalkSpells
import Derived.WalkLawsBesides
import Derived.KernelRfl
import Derived.Lib.Hide
import Derived.Deep.QuietTactic
import Derived.BigQuiet
import Derived.StillTailTactics
import Derived.RegionTactic
import Derived.ChangeAlike
import Derived.Lib.Builder
import Derived.Lib.Bytealg
import Derived.Lib.UnsafeStr
import Derived.Lib.ConvBytes
import Derived.WalkSmall
namespace Go.Proofs
open Go.Shelf
def Try.lays169_ren : Go.Shelf.Ren := ⟨fun | 169 => 20 | n => n, fun | 70 => 50 | 9 => 9 | 0 => 0 | 72 => 52 | 37 => 43 | 127 => 78 | 3 => 3 | 5 => 5 | n => n, fun | n => n⟩
theorem Try.lays169 : Go.Proofs.Lays.n169 Try.prog Try.lays169_ren := {
  mixed := by kernel_rfl
  f169 := Try.func20.trans (congrArg some (by kernel_rfl))
  t0 := Try.underlying0
  a0 := Try.isAgg0
  z0 := Try.sizeOf0
  v0 := Try.zeroValue0
  t3 := Try.underlying3
  a3 := Try.isAgg3
  z3 := Try.sizeOf3
  v3 := Try.zeroValue3
  t9 := Try.underlying9
  a9 := Try.isAgg9
  z9 := Try.sizeOf9
  v9 := Try.zeroValue9
  t37 := Try.underlying43
  a37 := Try.isAgg43
  z37 := Try.sizeOf43
  v37 := Try.zeroValue43
  t70 := Try.underlying50
  a70 := Try.isAgg50
  z70 := Try.sizeOf50
  v70 := Try.zeroValue50
  t72 := Try.underlying52
  a72 := Try.isAgg52
  z72 := Try.sizeOf52
  v72 := Try.zeroValue52
  t127 := Try.underlying78
  a127 := Try.isAgg78
  z127 := Try.sizeOf78
  v127 := Try.zeroValue78 }
theorem Try.Builder_Extra_169 : Builder.Extra Try.prog Try.lays169_ren := {
  sizeBuilder := by kernel_rfl
  liesBuilder := by kernel_rfl
  t5 := Try.underlying5
  a5 := Try.isAgg5
  z5 := Try.sizeOf5
  v5 := Try.zeroValue5
  infoByte := by kernel_rfl
  cellsByte := by kernel_rfl
  sizeByte := by kernel_rfl
  neB5 := by decide }
open Go.RowKit in

theorem Try.Builder_String (B b : Nat) (l : List UInt8) (w : World) (h : Lib.IsBuilder 52 5 B b (Lib.byteCells l) w) (h0 : l ≠ []) :
    Calls Try.prog 20 #[.pointer (some ⟨b, 0, none⟩)] w fun e w' => e = .returned (.string ⟨l.toArray⟩) ∧ Below B w w' := Any.Builder_String Try.lays169 Try.Builder_Extra_169 B b l w h h0
open Go.RowKit in

theorem Try.Builder_String_empty (B b : Nat) (w : World) (h : Lib.IsBuilder 52 5 B b [] w) (hBw : B ≤ w.heap.size) :
    Calls Try.prog 20 #[.pointer (some ⟨b, 0, none⟩)] w fun e w' => e = .returned (.string ⟨#[]⟩) ∧ Below B w w' := Any.Builder_String_empty Try.lays169 Try.Builder_Extra_169 B b w h hBw
open Go.RowKit in

theorem Try.Builder_String_any (B b : Nat) (l : List UInt8) (w : World) (h : Lib.IsBuilder 52 5 B b (Lib.byteCells l) w) (hBw : B ≤ w.heap.size) :
    Calls Try.prog 20 #[.pointer (some ⟨b, 0, none⟩)] w fun e w' => e = .returned (.string ⟨l.toArray⟩) ∧ Below B w w' := Any.Builder_String_any Try.lays169 Try.Builder_Extra_169 B b l w h hBw
def Try.lays128_ren : Go.Shelf.Ren := ⟨fun | 128 => 73 | n => n, fun | 51 => 108 | 3 => 3 | 4 => 4 | 46 => 87 | 5 => 5 | 9 => 9 | n => n, fun | n => n⟩
theorem Try.lays128 : Go.Proofs.Lays.n128 Try.prog Try.lays128_ren := {
  mixed := by kernel_rfl
  f128 := Try.func73.trans (congrArg some (by kernel_rfl))
  t3 := Try.underlying3
  a3 := Try.isAgg3
  z3 := Try.sizeOf3
  v3 := Try.zeroValue3
  t4 := Try.underlying4
  a4 := Try.isAgg4
  z4 := Try.sizeOf4
  v4 := Try.zeroValue4
  t5 := Try.underlying5
  a5 := Try.isAgg5
  z5 := Try.sizeOf5
  v5 := Try.zeroValue5
  t9 := Try.underlying9
  a9 := Try.isAgg9
  z9 := Try.sizeOf9
  v9 := Try.zeroValue9
  t46 := Try.underlying87
  a46 := Try.isAgg87
  z46 := Try.sizeOf87
  v46 := Try.zeroValue87
  t51 := Try.underlying108
  a51 := Try.isAgg108
  z51 := Try.sizeOf108
  v51 := Try.zeroValue108 }

theorem Try.bits_Len32 (x : Int) (w : World) (h0 : 0 ≤ x) (h1 : x ≤ 4294967295) :
    Calls Try.prog 73 #[.int .u32 x] w fun e w' => e = .returned (.int .i64 (Lib.bitLen x.toNat)) ∧ w' = w := Any.bits_Len32 Try.lays128 x w h0 h1
def Try.lays125_ren : Go.Shelf.Ren := ⟨fun | 125 => 49 | 128 => 73 | 129 => 74 | n => n, fun | 46 => 87 | 3 => 3 | 51 => 108 | 53 => 110 | 4 => 4 | 5 => 5 | 9 => 9 | n => n, fun | n => n⟩
theorem Try.lays125 : Go.Proofs.Lays.n125 Try.prog Try.lays125_ren := {
  mixed := by kernel_rfl
  f125 := Try.func49.trans (congrArg some (by kernel_rfl))
  f128 := Try.func73.trans (congrArg some (by kernel_rfl))
  f129 := Try.func74.trans (congrArg some (by kernel_rfl))
  t3 := Try.underlying3
  a3 := Try.isAgg3
  z3 := Try.sizeOf3
  v3 := Try.zeroValue3
  t4 := Try.underlying4
  a4 := Try.isAgg4
  z4 := Try.sizeOf4
  v4 := Try.zeroValue4
  t5 := Try.underlying5
  a5 := Try.isAgg5
  z5 := Try.sizeOf5
  v5 := Try.zeroValue5
  t9 := Try.underlying9
  a9 := Try.isAgg9
  z9 := Try.sizeOf9
  v9 := Try.zeroValue9
  t46 := Try.underlying87
  a46 := Try.isAgg87
  z46 := Try.sizeOf87
  v46 := Try.zeroValue87
  t51 := Try.underlying108
  a51 := Try.isAgg108
  z51 := Try.sizeOf108
  v51 := Try.zeroValue108
  t53 := Try.underlying110
  a53 := Try.isAgg110
  z53 := Try.sizeOf110
  v53 := Try.zeroValue110 }

theorem Try.bits_Len (x : Int) (w : World) (h0 : 0 ≤ x) (h1 : x ≤ 18446744073709551615) :
    Calls Try.prog 49 #[.int .u64 x] w fun e w' => e = .returned (.int .i64 (Lib.bitLen x.toNat)) ∧ w' = w := Any.bits_Len Try.lays125 x w h0 h1
def Try.lays137_ren : Go.Shelf.Ren := ⟨fun | 137 => 52 | 217 => 76 | 266 => 91 | n => n, fun | 9 => 9 | 5 => 5 | 3 => 3 | n => n, fun | n => n⟩
theorem Try.lays137 : Go.Proofs.Lays.n137 Try.prog Try.lays137_ren := {
  mixed := by kernel_rfl
  f137 := Try.func52.trans (congrArg some (by kernel_rfl))
  f217 := Try.func76.trans (congrArg some (by kernel_rfl))
  f266 := Try.func91.trans (congrArg some (by kernel_rfl))
  t3 := Try.underlying3
  a3 := Try.isAgg3
  z3 := Try.sizeOf3
  v3 := Try.zeroValue3
  t5 := Try.underlying5
  a5 := Try.isAgg5
  z5 := Try.sizeOf5
  v5 := Try.zeroValue5
  t9 := Try.underlying9
  a9 := Try.isAgg9
  z9 := Try.sizeOf9
  v9 := Try.zeroValue9 }
open Go.RowKit in

theorem Try.strings_IndexByte (s : ByteArray) (c : Int) (w : World) :
    Calls Try.prog 52 #[.string s, .int .u8 c] w fun e w' => e = .returned (.int .i64 (Lib.indexByte s.data.toList c.toNat.toUInt8)) ∧ w' = w := Any.strings_IndexByte Try.lays137 s c w
def Try.lays214_ren : Go.Shelf.Ren := ⟨fun | 214 => 51 | n => n, fun | 4 => 4 | 9 => 9 | n => n, fun | n => n⟩
theorem Try.lays214 : Go.Proofs.Lays.n214 Try.prog Try.lays214_ren := {
  mixed := by kernel_rfl
  f214 := Try.func51.trans (congrArg some (by kernel_rfl))
  t4 := Try.underlying4
  a4 := Try.isAgg4
  z4 := Try.sizeOf4
  v4 := Try.zeroValue4
  t9 := Try.underlying9
  a9 := Try.isAgg9
  z9 := Try.sizeOf9
  v9 := Try.zeroValue9 }
open Go.RowKit in

theorem Try.internal_strconv_FormatBool (b : Bool) (w : World) :
    Calls Try.prog 51 #[.bool b] w fun e w' => e = .returned (.string ⟨(Lib.formatBool b).toArray⟩) ∧ w' = w := Any.internal_strconv_FormatBool Try.lays214 b w
def Try.lays121_ren : Go.Shelf.Ren := ⟨fun | 121 => 32 | 214 => 51 | n => n, fun | 4 => 4 | 9 => 9 | n => n, fun | n => n⟩
theorem Try.lays121 : Go.Proofs.Lays.n121 Try.prog Try.lays121_ren := {
  mixed := by kernel_rfl
  f121 := Try.func32.trans (congrArg some (by kernel_rfl))
  f214 := Try.func51.trans (congrArg some (by kernel_rfl))
  t4 := Try.underlying4
  a4 := Try.isAgg4
  z4 := Try.sizeOf4
  v4 := Try.zeroValue4
  t9 := Try.underlying9
  a9 := Try.isAgg9
  z9 := Try.sizeOf9
  v9 := Try.zeroValue9 }
open Go.RowKit in

theorem Try.strconv_FormatBool (b : Bool) (w : World) :
    Calls Try.prog 32 #[.bool b] w fun e w' => e = .returned (.string ⟨(Lib.formatBool b).toArray⟩) ∧ w' = w := Any.strconv_FormatBool Try.lays121 b w
open Go.RowKit in

theorem Try.Builder_String_f (B b : Nat) (l : List UInt8) (w : World) (h : Lib.IsBuilderF 52 5 B b (Lib.byteCells l) w) (h0 : l ≠ []) :
    Calls Try.prog 20 #[.pointer (some ⟨b, 0, none⟩)] w fun e w' => e = .returned (.string ⟨l.toArray⟩) ∧ (Lib.IsBuilderF 52 5 B b (Lib.byteCells l) w' ∧ Below B w w') := Any.Builder_String_f Try.lays169 Try.Builder_Extra_169 B b l w h h0
open Go.RowKit in

theorem Try.Builder_String_empty_f (B b : Nat) (w : World) (h : Lib.IsBuilderF 52 5 B b [] w) (hBw : B ≤ w.heap.size) :
    Calls Try.prog 20 #[.pointer (some ⟨b, 0, none⟩)] w fun e w' => e = .returned (.string ⟨#[]⟩) ∧ (Lib.IsBuilderF 52 5 B b [] w' ∧ Below B w w') := Any.Builder_String_empty_f Try.lays169 Try.Builder_Extra_169 B b w h hBw
open Go.RowKit in

theorem Try.Builder_String_any_f (B b : Nat) (l : List UInt8) (w : World) (h : Lib.IsBuilderF 52 5 B b (Lib.byteCells l) w) (hBw : B ≤ w.heap.size) :
    Calls Try.prog 20 #[.pointer (some ⟨b, 0, none⟩)] w fun e w' => e = .returned (.string ⟨l.toArray⟩) ∧ (Lib.IsBuilderF 52 5 B b (Lib.byteCells l) w' ∧ Below B w w') := Any.Builder_String_any_f Try.lays169 Try.Builder_Extra_169 B b l w h hBw
open Go.RowKit in

theorem Try.Builder_String_k (B b : Nat) (l : List UInt8) (w : World) (h : Lib.IsBuilderF 52 5 B b (Lib.byteCells l) w) (h0 : l ≠ []) :
    Calls Try.prog 20 #[.pointer (some ⟨b, 0, none⟩)] w fun e w' => e = .returned (.string ⟨l.toArray⟩) ∧ (Lib.IsBuilderF 52 5 B b (Lib.byteCells l) w' ∧ Below B w w' ∧ Lib.OthersKept 5 (some b) w w') := Any.Builder_String_k Try.lays169 Try.Builder_Extra_169 B b l w h h0
open Go.RowKit in

theorem Try.Builder_String_empty_k (B b : Nat) (w : World) (h : Lib.IsBuilderF 52 5 B b [] w) (hBw : B ≤ w.heap.size) :
    Calls Try.prog 20 #[.pointer (some ⟨b, 0, none⟩)] w fun e w' => e = .returned (.string ⟨#[]⟩) ∧ (Lib.IsBuilderF 52 5 B b [] w' ∧ Below B w w' ∧ Lib.OthersKept 5 (some b) w w') := Any.Builder_String_empty_k Try.lays169 Try.Builder_Extra_169 B b w h hBw
open Go.RowKit in

theorem Try.Builder_String_any_k (B b : Nat) (l : List UInt8) (w : World) (h : Lib.IsBuilderF 52 5 B b (Lib.byteCells l) w) (hBw : B ≤ w.heap.size) :
    Calls Try.prog 20 #[.pointer (some ⟨b, 0, none⟩)] w fun e w' => e = .returned (.string ⟨l.toArray⟩) ∧ (Lib.IsBuilderF 52 5 B b (Lib.byteCells l) w' ∧ Below B w w' ∧ Lib.OthersKept 5 (some b) w w') := Any.Builder_String_any_k Try.lays169 Try.Builder_Extra_169 B b l w h hBw
def Try.lays278_ren : Go.Shelf.Ren := ⟨fun | 278 => 95 | n => n, fun | 37 => 43 | 21 => 21 | 51 => 108 | 4 => 4 | 46 => 87 | 5 => 5 | n => n, fun | n => n⟩
theorem Try.lays278 : Go.Proofs.Lays.n278 Try.prog Try.lays278_ren := {
  mixed := by kernel_rfl
  f278 := Try.func95.trans (congrArg some (by kernel_rfl))
  t4 := Try.underlying4
  a4 := Try.isAgg4
  z4 := Try.sizeOf4
  v4 := Try.zeroValue4
  t5 := Try.underlying5
  a5 := Try.isAgg5
  z5 := Try.sizeOf5
  v5 := Try.zeroValue5
  t21 := Try.underlying21
  a21 := Try.isAgg21
  z21 := Try.sizeOf21
  v21 := Try.zeroValue21
  t37 := Try.underlying43
  a37 := Try.isAgg43
  z37 := Try.sizeOf43
  v37 := Try.zeroValue43
  t46 := Try.underlying87
  a46 := Try.isAgg87
  z46 := Try.sizeOf87
  v46 := Try.zeroValue87
  t51 := Try.underlying108
  a51 := Try.isAgg108
  z51 := Try.sizeOf108
  v51 := Try.zeroValue108 }
open Go.RowKit in

theorem Try.utf8_appendRuneNonASCII_row (B : Nat) (v : Value) (n : Nat) (xs : List Value) (r : Int) (hr0 : -2147483648 ≤ r) (hr1 : r ≤ 2147483647) (hna : r < 0 ∨ 128 ≤ r) (w : World) (hown : w.ownsRowF B 5 1 v n xs) (hlen : n + 4 ≤ 140737488355328) (hBw : B ≤ w.heap.size) :
    Calls Try.prog 95 #[v, .int .i32 r] w fun e w' => ∃ v', e = .returned v' ∧ w'.ownsRowF B 5 1 v' (n + (Lib.runeCells r).length) (xs ++ Lib.runeCells r) ∧ ∃ o, (w.alloc o).grownBy w' v.ownBlock := Any.utf8_appendRuneNonASCII_row Try.lays278 (by kernel_rfl) B v n xs r hr0 hr1 hna w hown hlen hBw
def Try.lays242_ren : Go.Shelf.Ren := ⟨fun | 242 => 92 | 278 => 95 | n => n, fun | 37 => 43 | 21 => 21 | 51 => 108 | 4 => 4 | 5 => 5 | 46 => 87 | n => n, fun | n => n⟩
theorem Try.lays242 : Go.Proofs.Lays.n242 Try.prog Try.lays242_ren := {
  mixed := by kernel_rfl
  f242 := Try.func92.trans (congrArg some (by kernel_rfl))
  f278 := Try.func95.trans (congrArg some (by kernel_rfl))
  t4 := Try.underlying4
  a4 := Try.isAgg4
  z4 := Try.sizeOf4
  v4 := Try.zeroValue4
  t5 := Try.underlying5
  a5 := Try.isAgg5
  z5 := Try.sizeOf5
  v5 := Try.zeroValue5
  t21 := Try.underlying21
  a21 := Try.isAgg21
  z21 := Try.sizeOf21
  v21 := Try.zeroValue21
  t37 := Try.underlying43
  a37 := Try.isAgg43
  z37 := Try.sizeOf43
  v37 := Try.zeroValue43
  t46 := Try.underlying87
  a46 := Try.isAgg87
  z46 := Try.sizeOf87
  v46 := Try.zeroValue87
  t51 := Try.underlying108
  a51 := Try.isAgg108
  z51 := Try.sizeOf108
  v51 := Try.zeroValue108 }
open Go.RowKit in

theorem Try.utf8_AppendRune_row (B : Nat) (v : Value) (n : Nat) (xs : List Value) (r : Int) (hr0 : -2147483648 ≤ r) (hr1 : r ≤ 2147483647) (w : World) (hown : w.ownsRowF B 5 1 v n xs) (hlen : n + 4 ≤ 140737488355328) (hBw : B ≤ w.heap.size) :
    Calls Try.prog 92 #[v, .int .i32 r] w fun e w' => ∃ v', e = .returned v' ∧ w'.ownsRowF B 5 1 v' (n + (Lib.runeCells r).length) (xs ++ Lib.runeCells r) ∧ ∃ o, (w.alloc o).grownBy w' v.ownBlock := Any.utf8_AppendRune_row Try.lays242 (by kernel_rfl) B v n xs r hr0 hr1 w hown hlen hBw
open Go.RowKit in

theorem Try.utf8_appendRuneNonASCII_plain (B : Nat) (v : Value) (n : Nat) (xs : List Value) (r : Int) (hr0 : -2147483648 ≤ r) (hr1 : r ≤ 2147483647) (hna : r < 0 ∨ 128 ≤ r) (w : World) (hown : w.ownsRow B 5 1 v n xs) (hlen : n + 4 ≤ 140737488355328) (hBw : B ≤ w.heap.size) :
    Calls Try.prog 95 #[v, .int .i32 r] w fun e w' => ∃ v', e = .returned v' ∧ w'.ownsRow B 5 1 v' (n + (Lib.runeCells r).length) (xs ++ Lib.runeCells r) ∧ ∃ o, (w.alloc o).grownBy w' v.ownBlock := Any.utf8_appendRuneNonASCII_plain Try.lays278 (by kernel_rfl) B v n xs r hr0 hr1 hna w hown hlen hBw
open Go.RowKit in

theorem Try.utf8_AppendRune_plain (B : Nat) (v : Value) (n : Nat) (xs : List Value) (r : Int) (hr0 : -2147483648 ≤ r) (hr1 : r ≤ 2147483647) (w : World) (hown : w.ownsRow B 5 1 v n xs) (hlen : n + 4 ≤ 140737488355328) (hBw : B ≤ w.heap.size) :
    Calls Try.prog 92 #[v, .int .i32 r] w fun e w' => ∃ v', e = .returned v' ∧ w'.ownsRow B 5 1 v' (n + (Lib.runeCells r).length) (xs ++ Lib.runeCells r) ∧ ∃ o, (w.alloc o).grownBy w' v.ownBlock := Any.utf8_AppendRune_plain Try.lays242 (by kernel_rfl) B v n xs r hr0 hr1 w hown hlen hBw
def Try.lays129_ren : Go.Shelf.Ren := ⟨fun | 129 => 74 | n => n, fun | 53 => 110 | 3 => 3 | 4 => 4 | 46 => 87 | 5 => 5 | 9 => 9 | n => n, fun | n => n⟩
theorem Try.lays129 : Go.Proofs.Lays.n129 Try.prog Try.lays129_ren := {
  mixed := by kernel_rfl
  f129 := Try.func74.trans (congrArg some (by kernel_rfl))
  t3 := Try.underlying3
  a3 := Try.isAgg3
  z3 := Try.sizeOf3
  v3 := Try.zeroValue3
  t4 := Try.underlying4
  a4 := Try.isAgg4
  z4 := Try.sizeOf4
  v4 := Try.zeroValue4
  t5 := Try.underlying5
  a5 := Try.isAgg5
  z5 := Try.sizeOf5
  v5 := Try.zeroValue5
  t9 := Try.underlying9
  a9 := Try.isAgg9
  z9 := Try.sizeOf9
  v9 := Try.zeroValue9
  t46 := Try.underlying87
  a46 := Try.isAgg87
  z46 := Try.sizeOf87
  v46 := Try.zeroValue87
  t53 := Try.underlying110
  a53 := Try.isAgg110
  z53 := Try.sizeOf110
  v53 := Try.zeroValue110 }

theorem Try.bits_Len64 (x : Int) (w : World) (h0 : 0 ≤ x) (h1 : x ≤ 18446744073709551615) :
    Calls Try.prog 74 #[.int .u64 x] w fun e w' => e = .returned (.int .i64 (Lib.bitLen x.toNat)) ∧ w' = w := Any.bits_Len64 Try.lays129 x w h0 h1
def Try.lays217_ren : Go.Shelf.Ren := ⟨fun | 217 => 76 | 266 => 91 | n => n, fun | 9 => 9 | 5 => 5 | 3 => 3 | n => n, fun | n => n⟩
theorem Try.lays217 : Go.Proofs.Lays.n217 Try.prog Try.lays217_ren := {
  mixed := by kernel_rfl
  f217 := Try.func76.trans (congrArg some (by kernel_rfl))
  f266 := Try.func91.trans (congrArg some (by kernel_rfl))
  t3 := Try.underlying3
  a3 := Try.isAgg3
  z3 := Try.sizeOf3
  v3 := Try.zeroValue3
  t5 := Try.underlying5
  a5 := Try.isAgg5
  z5 := Try.sizeOf5
  v5 := Try.zeroValue5
  t9 := Try.underlying9
  a9 := Try.isAgg9
  z9 := Try.sizeOf9
  v9 := Try.zeroValue9 }
open Go.RowKit Go.Lib in

theorem Try.stringslite_IndexByte (s : ByteArray) (c : Int) (w : World) :
    Calls Try.prog 76 #[.string s, .int .u8 c] w fun e w' => e = .returned (.int .i64 (Lib.indexByte s.data.toList c.toNat.toUInt8)) ∧ w' = w := Any.stringslite_IndexByte Try.lays217 s c w
def Try.lays190_ren : Go.Shelf.Ren := ⟨fun | 190 => 29 | 125 => 49 | 258 => 48 | 128 => 73 | 129 => 74 | 302 => 64 | 303 => 65 | 304 => 66 | 305 => 67 | 306 => 68 | 307 => 69 | 308 => 70 | 309 => 71 | 310 => 72 | 333 => 85 | 329 => 86 | 330 => 87 | 334 => 88 | 335 => 89 | 336 => 90 | 344 => 94 | n => n, fun | 31 => 36 | 9 => 9 | 3 => 3 | 46 => 87 | 0 => 0 | 51 => 108 | 53 => 110 | 4 => 4 | 183 => 100 | 182 => 99 | 131 => 105 | 5 => 5 | 218 => 119 | 222 => 123 | 228 => 127 | 229 => 128 | n => n, fun | n => n⟩
theorem Try.lays190 : Go.Proofs.Lays.n190 Try.prog Try.lays190_ren := {
  mixed := by kernel_rfl
  f125 := Try.func49.trans (congrArg some (by kernel_rfl))
  f128 := Try.func73.trans (congrArg some (by kernel_rfl))
  f129 := Try.func74.trans (congrArg some (by kernel_rfl))
  f190 := Try.func29.trans (congrArg some (by kernel_rfl))
  f258 := Try.func48.trans (congrArg some (by kernel_rfl))
  f302 := Try.func64.trans (congrArg some (by kernel_rfl))
  f303 := Try.func65.trans (congrArg some (by kernel_rfl))
  f304 := Try.func66.trans (congrArg some (by kernel_rfl))
  f305 := Try.func67.trans (congrArg some (by kernel_rfl))
  f306 := Try.func68.trans (congrArg some (by kernel_rfl))
  f307 := Try.func69.trans (congrArg some (by kernel_rfl))
  f308 := Try.func70.trans (congrArg some (by kernel_rfl))
  f309 := Try.func71.trans (congrArg some (by kernel_rfl))
  f310 := Try.func72.trans (congrArg some (by kernel_rfl))
  f329 := Try.func86.trans (congrArg some (by kernel_rfl))
  f330 := Try.func87.trans (congrArg some (by kernel_rfl))
  f333 := Try.func85.trans (congrArg some (by kernel_rfl))
  f334 := Try.func88.trans (congrArg some (by kernel_rfl))
  f335 := Try.func89.trans (congrArg some (by kernel_rfl))
  f336 := Try.func90.trans (congrArg some (by kernel_rfl))
  f344 := Try.func94.trans (congrArg some (by kernel_rfl))
  t0 := Try.underlying0
  a0 := Try.isAgg0
  z0 := Try.sizeOf0
  v0 := Try.zeroValue0
  t3 := Try.underlying3
  a3 := Try.isAgg3
  z3 := Try.sizeOf3
  v3 := Try.zeroValue3
  t4 := Try.underlying4
  a4 := Try.isAgg4
  z4 := Try.sizeOf4
  v4 := Try.zeroValue4
  t5 := Try.underlying5
  a5 := Try.isAgg5
  z5 := Try.sizeOf5
  v5 := Try.zeroValue5
  t9 := Try.underlying9
  a9 := Try.isAgg9
  z9 := Try.sizeOf9
  v9 := Try.zeroValue9
  t31 := Try.underlying36
  a31 := Try.isAgg36
  z31 := Try.sizeOf36
  v31 := Try.zeroValue36
  t46 := Try.underlying87
  a46 := Try.isAgg87
  z46 := Try.sizeOf87
  v46 := Try.zeroValue87
  t51 := Try.underlying108
  a51 := Try.isAgg108
  z51 := Try.sizeOf108
  v51 := Try.zeroValue108
  t53 := Try.underlying110
  a53 := Try.isAgg110
  z53 := Try.sizeOf110
  v53 := Try.zeroValue110
  t131 := Try.underlying105
  a131 := Try.isAgg105
  z131 := Try.sizeOf105
  v131 := Try.zeroValue105
  t182 := Try.underlying99
  a182 := Try.isAgg99
  z182 := Try.sizeOf99
  v182 := Try.zeroValue99
  t183 := Try.underlying100
  a183 := Try.isAgg100
  z183 := Try.sizeOf100
  v183 := Try.zeroValue100
  t218 := Try.underlying119
  a218 := Try.isAgg119
  z218 := Try.sizeOf119
  v218 := Try.zeroValue119
  t222 := Try.underlying123
  a222 := Try.isAgg123
  z222 := Try.sizeOf123
  v222 := Try.zeroValue123
  t228 := Try.underlying127
  a228 := Try.isAgg127
  z228 := Try.sizeOf127
  v228 := Try.zeroValue127
  t229 := Try.underlying128
  a229 := Try.isAgg128
  z229 := Try.sizeOf128
  v229 := Try.zeroValue128 }
open Go.Sort Go.RowKit in
theorem Try.slices_Sort_string (blk off cap : Nat) (ss : List (List UInt8)) (w : World) (hH : Holds encStr w blk off ss.toArray) (hblk : blk < w.heap.size) (hsz : ss.length < 4611686018427387904) :
    Calls Try.prog 29 #[.slice (some ⟨blk, off, none⟩) ss.length cap] w fun e w' =>
      e = .returned (.tuple #[]) ∧ ∃ n os, w' = grow (putRow encStr (Sort.ahead w n) blk off (ss.mergeSort fun x y => decide (x ≤ y)).toArray) os := Any.slices_Sort_string Try.lays190 blk off cap ss w hH hblk hsz
def Try.lays206_ren : Go.Shelf.Ren := ⟨fun | 206 => 98 | n => n, fun | 9 => 9 | 4 => 4 | 3 => 3 | n => n, fun | n => n⟩
theorem Try.lays206 : Go.Proofs.Lays.n206 Try.prog Try.lays206_ren := {
  mixed := by kernel_rfl
  f206 := Try.func98.trans (congrArg some (by kernel_rfl))
  t3 := Try.underlying3
  a3 := Try.isAgg3
  z3 := Try.sizeOf3
  v3 := Try.zeroValue3
  t4 := Try.underlying4
  a4 := Try.isAgg4
  z4 := Try.sizeOf4
  v4 := Try.zeroValue4
  t9 := Try.underlying9
  a9 := Try.isAgg9
  z9 := Try.sizeOf9
  v9 := Try.zeroValue9 }
open Go.RowKit Go.Lib in

theorem Try.stringslite_HasPrefix (s p : ByteArray) (w : World) :
    Calls Try.prog 98 #[.string s, .string p] w fun e w' => e = .returned (.bool (Lib.hasPrefix s.data.toList p.data.toList)) ∧ w' = w := Any.stringslite_HasPrefix Try.lays206 s p w
def Try.lays99_ren : Go.Shelf.Ren := ⟨fun | 99 => 97 | 206 => 98 | n => n, fun | 9 => 9 | 4 => 4 | 3 => 3 | n => n, fun | n => n⟩
theorem Try.lays99 : Go.Proofs.Lays.n99 Try.prog Try.lays99_ren := {
  mixed := by kernel_rfl
  f99 := Try.func97.trans (congrArg some (by kernel_rfl))
  f206 := Try.func98.trans (congrArg some (by kernel_rfl))
  t3 := Try.underlying3
  a3 := Try.isAgg3
  z3 := Try.sizeOf3
  v3 := Try.zeroValue3
  t4 := Try.underlying4
  a4 := Try.isAgg4
  z4 := Try.sizeOf4
  v4 := Try.zeroValue4
  t9 := Try.underlying9
  a9 := Try.isAgg9
  z9 := Try.sizeOf9
  v9 := Try.zeroValue9 }
open Go.RowKit Go.Lib in

theorem Try.strings_HasPrefix (s p : ByteArray) (w : World) :
    Calls Try.prog 97 #[.string s, .string p] w fun e w' => e = .returned (.bool (Lib.hasPrefix s.data.toList p.data.toList)) ∧ w' = w := Any.strings_HasPrefix Try.lays99 s p w
def Try.lays194_ren : Go.Shelf.Ren := ⟨fun | 194 => 30 | n => n, fun | 31 => 36 | 9 => 9 | 3 => 3 | 4 => 4 | 0 => 0 | n => n, fun | n => n⟩
theorem Try.lays194 : Go.Proofs.Lays.n194 Try.prog Try.lays194_ren := {
  mixed := by kernel_rfl
  f194 := Try.func30.trans (congrArg some (by kernel_rfl))
  t0 := Try.underlying0
  a0 := Try.isAgg0
  z0 := Try.sizeOf0
  v0 := Try.zeroValue0
  t3 := Try.underlying3
  a3 := Try.isAgg3
  z3 := Try.sizeOf3
  v3 := Try.zeroValue3
  t4 := Try.underlying4
  a4 := Try.isAgg4
  z4 := Try.sizeOf4
  v4 := Try.zeroValue4
  t9 := Try.underlying9
  a9 := Try.isAgg9
  z9 := Try.sizeOf9
  v9 := Try.zeroValue9
  t31 := Try.underlying36
  a31 := Try.isAgg36
  z31 := Try.sizeOf36
  v31 := Try.zeroValue36 }
open Go.RowKit Go.Lib Go.Sort in

theorem Try.slices_Compact_string_arr (blk off cap : Nat) (d : Array (List UInt8)) (w : World) (hH : Holds encStr w blk off d) (hsz : d.size ≤ 9223372036854775807) (hcap : d.size ≤ cap) :
    Calls Try.prog 30 #[.slice (some ⟨blk, off, none⟩) d.size cap] w fun e w' => e = .returned (.slice (some ⟨blk, off, none⟩) (compactUpTo d d.size).length cap) ∧ ∃ q, w' = putRow encStr (Sort.ahead w q) blk off (compactUpTo d d.size ++ List.replicate (d.size - (compactUpTo d d.size).length) []).toArray := Any.slices_Compact_string_arr Try.lays194 blk off cap d w hH hsz hcap
open Go.RowKit Go.Lib Go.Sort in

theorem Try.slices_Compact_string (blk off cap : Nat) (zs : List (List UInt8)) (w : World) (hH : Holds encStr w blk off zs.toArray) (hsz : zs.length ≤ 9223372036854775807) (hcap : zs.length ≤ cap) :
    Calls Try.prog 30 #[.slice (some ⟨blk, off, none⟩) zs.length cap] w fun e w' => e = .returned (.slice (some ⟨blk, off, none⟩) (Lib.compact zs).length cap) ∧ ∃ q, w' = putRow encStr (Sort.ahead w q) blk off (Lib.compact zs ++ List.replicate (zs.length - (Lib.compact zs).length) []).toArray := Any.slices_Compact_string Try.lays194 blk off cap zs w hH hsz hcap
open Go.RowKit Go.Lib Go.Sort in

theorem Try.slices_Compact_string_empty (a : Option Addr) (cap : Nat) (w : World) :
    Calls Try.prog 30 #[.slice a 0 cap] w fun e w' => e = .returned (.slice a 0 cap) ∧ w' = w := Any.slices_Compact_string_empty Try.lays194 a cap w
open Go.RowKit Go.Lib Go.Sort in

theorem Try.slices_Compact_string_cells (b off n c : Nat) (Sx : Nat → ByteArray) (w : World) (hbig : n ≤ 9223372036854775807) (hcap : n ≤ c) (hc : ∀ i, i < n → w.cell? ⟨b, off + i, none⟩ = some (.string (Sx i))) (hf : ∀ j, j < n → w.frozen? ⟨b, off + j, none⟩ = false) :
    Calls Try.prog 30 #[.slice (some ⟨b, off, none⟩) n c] w fun e w' => e = .returned (.slice (some ⟨b, off, none⟩) (Lib.compact (Lib.strsOf Sx n)).length c) ∧ ∃ q, w' = (w.drewN q).setCells b off ((Lib.compact (Lib.strsOf Sx n) ++ List.replicate (n - (Lib.compact (Lib.strsOf Sx n)).length) []).map encStr) := Any.slices_Compact_string_cells Try.lays194 b off n c Sx w hbig hcap hc hf
open Go.RowKit Go.Sort in

theorem Try.slices_Sort_string_none (p : Option Addr) (cap : Nat) (w : World) :
    Calls Try.prog 29 #[.slice p 0 cap] w fun e w' => e = .returned (.tuple #[]) ∧ w' = w := Any.slices_Sort_string_none Try.lays190 p cap w
end Go.Proofs
/- What a call leaves as it was, but for one block. -/
namespace Go.Proofs.Ytfcokdkbjajohaa
open Go.RowKit

/-- What was there is as it was, but for block g. -/
structure But (g : Nat) (w w' : World) : Prop where
  os : w'.os = w.os
  tape : w'.tape = w.tape
  output : w'.output = w.output
  size : w.heap.size ≤ w'.heap.size
  block : ∀ k, k < w.heap.size → k ≠ g → w'.heap[k]? = w.heap[k]?

theorem setCell_block {w : World} {g o : Nat} {cs : Array Value} {T : TypeId} {fr : Nat × Nat} (h : w.heap[g]? = some (.cells cs T fr)) (v : Value) :
    (w.setCell ⟨g, o, none⟩ v).heap[g]? = some (.cells (cs.setIfInBounds o v) T fr) := by
  simp [World.setCell, Array.getElem?_modify, h]

theorem drewN_at {w : World} {g : Nat} {o : Obj} (h : w.heap[g]? = some o) (n : Nat) : (w.drewN n).heap[g]? = some o := h

theorem But.setCell (w : World) (g o : Nat) (v : Value) : But g w (w.setCell ⟨g, o, none⟩ v) :=
  ⟨rfl, rfl, rfl, by simp [World.setCell], fun k _ hk => Below.heap_setCell _ _ _ _ hk⟩
theorem But.trans {g : Nat} {a b c : World} (h : But g a b) (k : But g b c) : But g a c :=
  ⟨k.os.trans h.os, k.tape.trans h.tape, k.output.trans h.output, Nat.le_trans h.size k.size, fun i hi hg => (k.block i (Nat.lt_of_lt_of_le hi h.size) hg).trans (h.block i hi hg)⟩
theorem But.refl (g : Nat) (w : World) : But g w w := ⟨rfl, rfl, rfl, Nat.le_refl _, fun _ _ _ => rfl⟩
theorem But.drewN {g : Nat} {a b : World} (h : But g a b) (n : Nat) : But g a (b.drewN n) := ⟨h.os, h.tape, h.output, h.size, h.block⟩

end Go.Proofs.Ytfcokdkbjajohaa
/- Texts that are told: UTF-8, by plain lists. No program. -/
set_option linter.unusedVariables false
namespace Go.Proofs.Ytfcokdkbjajohaa

/-- Is the byte at a place from one to another one? -/
def inB (s : List UInt8) (i lo hi : Nat) : Bool := decide (i < s.length) && (decide (lo ≤ (s.getD i 0).toNat) && decide ((s.getD i 0).toNat ≤ hi))
def lo3 (c : Nat) : Nat := if c = 224 then 160 else 128
def hi3 (c : Nat) : Nat := if c = 237 then 159 else 191
def lo4 (c : Nat) : Nat := if c = 240 then 144 else 128
def hi4 (c : Nat) : Nat := if c = 244 then 143 else 191
def chrC (c : Nat) (s : List UInt8) : Nat :=
  if c < 128 then 1
  else if c < 194 then 0
  else if c < 224 then (if inB s 1 128 191 then 2 else 0)
  else if c < 240 then (if inB s 1 (lo3 c) (hi3 c) && inB s 2 128 191 then 3 else 0)
  else if c < 245 then (if inB s 1 (lo4 c) (hi4 c) && inB s 2 128 191 && inB s 3 128 191 then 4 else 0)
  else 0
/-- How many bytes the character has with which a text begins; 0: none does. -/
def chr (s : List UInt8) : Nat := chrC (s.getD 0 0).toNat s
theorem getD_drop (s : List UInt8) (a i : Nat) : (s.drop a).getD i 0 = s.getD (a + i) 0 := by
  simp [List.getD_eq_getElem?_getD]
theorem inB_drop (s : List UInt8) (a i lo hi : Nat) : inB (s.drop a) i lo hi = inB s (a + i) lo hi := by
  unfold inB
  rw [getD_drop, List.length_drop]
  congr 1
  rw [Bool.eq_iff_iff]
  simp only [decide_eq_true_eq]
  omega
/-- The spans that must stand behind a first byte. -/
def behindL (c : Nat) : Option (List (Nat × Nat)) :=
  if c < 128 then some []
  else if c < 194 then none
  else if c < 224 then some [(128, 191)]
  else if c = 224 then some [(160, 191), (128, 191)]
  else if c = 237 then some [(128, 159), (128, 191)]
  else if c < 240 then some [(128, 191), (128, 191)]
  else if c = 240 then some [(144, 191), (128, 191), (128, 191)]
  else if c < 244 then some [(128, 191), (128, 191), (128, 191)]
  else if c = 244 then some [(128, 143), (128, 191), (128, 191)]
  else none
def hasB (p : Nat × Nat) (c : Nat) : Bool := decide (p.1 ≤ c) && decide (c ≤ p.2)
def spansOK : List (Nat × Nat) → List UInt8 → Bool
  | [], _ => true
  | _ :: _, [] => false
  | p :: l, c :: r => hasB p c.toNat && spansOK l r
theorem spansOK_short : ∀ (l : List (Nat × Nat)) (r : List UInt8), r.length < l.length → spansOK l r = false
  | [], _, h => by simp at h
  | _ :: _, [], _ => rfl
  | p :: l, c :: r, h => by
    unfold spansOK
    rw [spansOK_short l r (by simpa using h), Bool.and_false]
theorem inB_0 (c : UInt8) (r : List UInt8) (lo hi : Nat) : inB (c :: r) 0 lo hi = hasB (lo, hi) c.toNat := by
  simp [inB, hasB]
theorem inB_nil (i lo hi : Nat) : inB [] i lo hi = false := by simp [inB]
theorem inB_succ (c : UInt8) (r : List UInt8) (i lo hi : Nat) : inB (c :: r) (i + 1) lo hi = inB r i lo hi := by
  simp [inB]
theorem spansOK_in : ∀ (p : Nat × Nat) (l : List (Nat × Nat)) (r : List UInt8), spansOK (p :: l) r = (inB r 0 p.1 p.2 && spansOK l (r.drop 1))
  | p, l, [] => by simp [spansOK, inB]
  | p, l, c :: r => by rw [inB_0]; rfl
theorem spans1 (r : List UInt8) (a b : Nat) : spansOK [(a, b)] r = inB r 0 a b := by
  rw [spansOK_in]; simp [spansOK]
theorem spans2 (r : List UInt8) (a b c d : Nat) : spansOK [(a, b), (c, d)] r = (inB r 0 a b && inB r 1 c d) := by
  rw [spansOK_in, spans1, inB_drop]
theorem spans3 (r : List UInt8) (a b c d e f : Nat) : spansOK [(a, b), (c, d), (e, f)] r = (inB r 0 a b && inB r 1 c d && inB r 2 e f) := by
  rw [spansOK_in, spans2, inB_drop, inB_drop, Bool.and_assoc]
theorem chr_spans (s : List UInt8) : chr s = match behindL (s.getD 0 0).toNat with
    | none => 0
    | some l => if spansOK l (s.drop 1) then 1 + l.length else 0 := by
  unfold chr
  generalize (s.getD 0 0).toNat = c
  unfold chrC behindL
  have e1 : ∀ i lo hi, inB (s.drop 1) i lo hi = inB s (1 + i) lo hi := fun i lo hi => inB_drop s 1 i lo hi
  by_cases h1 : c < 128
  · rw [if_pos h1, if_pos h1]; rfl
  rw [if_neg h1, if_neg h1]
  by_cases h2 : c < 194
  · rw [if_pos h2, if_pos h2]
  rw [if_neg h2, if_neg h2]
  by_cases h3 : c < 224
  · rw [if_pos h3, if_pos h3]
    simp only [spans1, e1]
    rfl
  rw [if_neg h3, if_neg h3]
  by_cases h4 : c = 224
  · subst h4
    rw [if_pos (show (224 : Nat) < 240 by decide), if_pos (rfl : (224 : Nat) = 224)]
    simp only [spans2, e1]
    rfl
  rw [if_neg h4]
  by_cases h5 : c = 237
  · subst h5
    rw [if_pos (show (237 : Nat) < 240 by decide), if_pos (rfl : (237 : Nat) = 237)]
    simp only [spans2, e1]
    rfl
  rw [if_neg h5]
  by_cases h6 : c < 240
  · rw [if_pos h6, if_pos h6]
    simp only [spans2, e1, lo3, hi3, if_neg h4, if_neg h5]
    rfl
  rw [if_neg h6, if_neg h6]
  by_cases h7 : c = 240
  · subst h7
    rw [if_pos (show (240 : Nat) < 245 by decide), if_pos (rfl : (240 : Nat) = 240)]
    simp only [spans3, e1]
    rfl
  rw [if_neg h7]
  by_cases h8 : c < 244
  · rw [if_pos h8, if_pos (by omega)]
    simp only [spans3, e1, lo4, hi4, if_neg h7, if_neg (show ¬ c = 244 by omega)]
    rfl
  rw [if_neg h8]
  by_cases h9 : c = 244
  · subst h9
    rw [if_pos (show (244 : Nat) < 245 by decide), if_pos (rfl : (244 : Nat) = 244)]
    simp only [spans3, e1]
    rfl
  rw [if_neg h9, if_neg (by omega)]
theorem chr_le (s : List UInt8) : chr s ≤ 4 := by
  unfold chr chrC
  repeat' split
  all_goals omega
theorem chr_len (s : List UInt8) (h : s ≠ []) : chr s ≤ s.length := by
  have hl : 1 ≤ s.length := by cases s with | nil => exact absurd rfl h | cons => simp
  have hin : ∀ i lo hi, inB s i lo hi = true → i < s.length := by
    intro i lo hi hh
    unfold inB at hh
    simp only [Bool.and_eq_true, decide_eq_true_eq] at hh
    exact hh.1
  unfold chr chrC
  split
  · exact hl
  · split
    · omega
    · split
      · split
        · rename_i h; have := hin _ _ _ h; omega
        · omega
      · split
        · split
          · rename_i h; simp only [Bool.and_eq_true] at h; have := hin _ _ _ h.2; omega
          · omega
        · split
          · split
            · rename_i h; simp only [Bool.and_eq_true] at h; have := hin _ _ _ h.2; omega
            · omega
          · omega
/-- Where a text isn't told. -/
def wrongN : Nat → List UInt8 → Option Nat
  | _, [] => none
  | 0, _ :: _ => none
  | n + 1, b :: r => if chr (b :: r) = 0 then some 0 else (wrongN n ((b :: r).drop (chr (b :: r)))).map (· + chr (b :: r))
def wrongL (s : List UInt8) : Option Nat := wrongN s.length s
theorem wrongN_any : ∀ (n m : Nat) (s : List UInt8), s.length ≤ n → s.length ≤ m → wrongN n s = wrongN m s
  | n, m, [], _, _ => by cases n <;> cases m <;> rfl
  | 0, m, _ :: _, h, _ => by simp at h
  | n + 1, 0, _ :: _, _, h => by simp at h
  | n + 1, m + 1, b :: r, h1, h2 => by
    unfold wrongN
    by_cases hc : chr (b :: r) = 0
    · rw [if_pos hc, if_pos hc]
    · rw [if_neg hc, if_neg hc, wrongN_any n m _ (by rw [List.length_drop]; simp at h1 ⊢; omega) (by rw [List.length_drop]; simp at h2 ⊢; omega)]
theorem wrongL_nil : wrongL [] = none := rfl
theorem wrongL_cons (b : UInt8) (r : List UInt8) : wrongL (b :: r) = if chr (b :: r) = 0 then some 0 else (wrongL ((b :: r).drop (chr (b :: r)))).map (· + chr (b :: r)) := by
  unfold wrongL
  rw [List.length_cons]
  conv => lhs; unfold wrongN
  by_cases hc : chr (b :: r) = 0
  · rw [if_pos hc, if_pos hc]
  · rw [if_neg hc, if_neg hc, wrongN_any r.length _ _ (by rw [List.length_drop]; simp; omega) (Nat.le_refl _)]
theorem wrongL_ne (s : List UInt8) (h : s ≠ []) : wrongL s = if chr s = 0 then some 0 else (wrongL (s.drop (chr s))).map (· + chr s) := by
  cases s with
  | nil => exact absurd rfl h
  | cons b r => exact wrongL_cons b r
/-- .. as a number: -1, if it is told. -/
def wrongI (s : List UInt8) : Int := match wrongL s with
  | some n => n
  | none => -1
def toldB (s : List UInt8) : Bool := (wrongL s).isNone
theorem wrongI_neg (s : List UInt8) : decide (wrongI s < 0) = toldB s := by
  unfold wrongI toldB
  cases wrongL s with
  | none => rfl
  | some n => simp
end Go.Proofs.Ytfcokdkbjajohaa
/- JSON's values and texts. Plain data, no program. -/
set_option linter.unusedVariables false
namespace Go.Proofs.Ytfcokdkbjajohaa

/-- A value. -/
inductive JV where
  | mk (kind : Int) (yes : Bool) (text : List UInt8) (list : List JV) (mem : List (List UInt8 × JV))
def JV.kind : JV → Int | .mk k _ _ _ _ => k
def JV.yes : JV → Bool | .mk _ y _ _ _ => y
def JV.text : JV → List UInt8 | .mk _ _ t _ _ => t
def JV.list : JV → List JV | .mk _ _ _ l _ => l
def JV.mem : JV → List (List UInt8 × JV) | .mk _ _ _ _ m => m
def JV.zero : JV := .mk 0 false [] [] []
def jnull : JV := .mk 1 false [] [] []
def jbool (b : Bool) : JV := .mk 2 b [] [] []
def jnum (t : List UInt8) : JV := .mk 3 false t [] []
def jstr (t : List UInt8) : JV := .mk 4 false t [] []
def jarr (l : List JV) : JV := .mk 5 false [] l []
def jobj (m : List (List UInt8 × JV)) : JV := .mk 6 false [] [] m

/-- What a reader makes of the rest of a text: something, and what is left; or a fault. -/
inductive PR (α : Type) where
  | ok (x : α) (r : List UInt8)
  | bad (e : Int)
def PR.bind {α β : Type} (p : PR α) (f : α → List UInt8 → PR β) : PR β := match p with
  | .ok x r => f x r
  | .bad e => .bad e
theorem PR.bind_ok {α β : Type} (x : α) (r : List UInt8) (f : α → List UInt8 → PR β) : (PR.ok x r).bind f = f x r := rfl
theorem PR.bind_bad {α β : Type} (e : Int) (f : α → List UInt8 → PR β) : (PR.bad e : PR α).bind f = .bad e := rfl

def peekL (r : List UInt8) : UInt8 := r.headD 0
def blankB (c : UInt8) : Bool := c == 32 || c == 9 || c == 10 || c == 13
def blankL (r : List UInt8) : List UInt8 := r.dropWhile blankB
def digB (c : UInt8) : Bool := decide (48 ≤ c.toNat) && decide (c.toNat ≤ 57)
/-- Past a byte, if it comes. -/
def skipL (c : UInt8) (r : List UInt8) : List UInt8 := if r.head? = some c then r.tail else r
def mustL (c : UInt8) (r : List UInt8) : PR Unit := if r.head? = some c then .ok () r.tail else .bad 31
def wordR : List UInt8 → List UInt8 → PR Unit
  | [], r => .ok () r
  | c :: w, r => (mustL c r).bind fun _ r => wordR w r
def digitsL (r : List UInt8) : PR Unit := if digB (peekL r) then .ok () (r.dropWhile digB) else .bad 31
def numTail (r : List UInt8) : PR Unit :=
  if r.head? = some 101 ∨ r.head? = some 69 then digitsL (if r.tail.head? = some 43 then r.tail.tail else skipL 45 r.tail) else .ok () r
def numFrac (r : List UInt8) : PR Unit := if r.head? = some 46 then (digitsL r.tail).bind fun _ r => numTail r else numTail r
def numR (r : List UInt8) : PR Unit :=
  if (skipL 45 r).head? = some 48 then numFrac (skipL 45 r).tail else (digitsL (skipL 45 r)).bind fun _ r => numFrac r
/-- A number's text. -/
def numberL (r : List UInt8) : PR (List UInt8) := (numR r).bind fun _ r' => .ok (r.take (r.length - r'.length)) r'
/-- A hexadecimal digit's number. -/
def hexV (c : UInt8) : Option Nat :=
  if 48 ≤ c.toNat ∧ c.toNat ≤ 57 then some (c.toNat - 48)
  else if 97 ≤ c.toNat ∧ c.toNat ≤ 102 then some (c.toNat - 87)
  else if 65 ≤ c.toNat ∧ c.toNat ≤ 70 then some (c.toNat - 55)
  else none
def hexN : Nat → Nat → List UInt8 → PR Nat
  | 0, n, r => .ok n r
  | k + 1, n, r => match r with
    | [] => .bad 31
    | c :: r => match hexV c with
      | none => .bad 31
      | some d => hexN k (n * 16 + d) r
def hexR (r : List UInt8) : PR Nat := hexN 4 0 r
/-- A character's bytes. -/
def utfL (n : Nat) : List UInt8 :=
  if n < 128 then [UInt8.ofNat n]
  else if n < 2048 then [UInt8.ofNat (192 + n / 64), UInt8.ofNat (128 + n % 64)]
  else if n < 65536 then [UInt8.ofNat (224 + n / 4096), UInt8.ofNat (128 + n / 64 % 64), UInt8.ofNat (128 + n % 64)]
  else [UInt8.ofNat (240 + n / 262144), UInt8.ofNat (128 + n / 4096 % 64), UInt8.ofNat (128 + n / 64 % 64), UInt8.ofNat (128 + n % 64)]
def unitR (r : List UInt8) : PR Nat := (hexR r).bind fun a r =>
  if a < 55296 ∨ 57344 ≤ a then .ok a r
  else if 56320 ≤ a then .bad 31
  else match r with
    | 92 :: 117 :: r => (hexR r).bind fun b r => if b < 56320 ∨ 57344 ≤ b then .bad 31 else .ok (65536 + (a - 55296) * 1024 + (b - 56320)) r
    | _ => .bad 31
/-- What a sign's letter means. -/
def shortV (c : UInt8) : Option UInt8 :=
  if c = 98 then some 8 else if c = 102 then some 12 else if c = 110 then some 10 else if c = 114 then some 13 else if c = 116 then some 9
  else if c = 34 then some 34 else if c = 92 then some 92 else if c = 47 then some 47 else none
def escR (r : List UInt8) : PR (List UInt8) := match r with
  | [] => .bad 31
  | c :: r => match shortV c with
    | some d => .ok [d] r
    | none => if c = 117 then (unitR r).bind fun n r => .ok (utfL n) r else .bad 31
/-- A string, behind its opening sign: b is what has been read. -/
def textN : Nat → List UInt8 → List UInt8 → PR (List UInt8)
  | 0, _, _ => .bad 31
  | k + 1, b, r => match r with
    | [] => .bad 31
    | c :: r => if c = 34 then .ok b r
      else if c = 92 then (escR r).bind fun x r => textN k (b ++ x) r
      else if c.toNat < 32 then .bad 31
      else textN k (b ++ [c]) r
def textR (r : List UInt8) : PR (List UInt8) := (mustL 34 r).bind fun _ r => textN (r.length + 1) [] r
/-- Things with commas between them, up to the byte e. -/
def rowN {α : Type} (one : α → List UInt8 → PR α) (e : UInt8) : Nat → α → List UInt8 → PR α
  | 0, _, _ => .bad 31
  | k + 1, x, r => (one x r).bind fun x r =>
    if (blankL r).head? = some e then .ok x (blankL r).tail
    else (mustL 44 (blankL r)).bind fun _ r => rowN one e k x (blankL r)
def rowR {α : Type} (one : α → List UInt8 → PR α) (e : UInt8) (x : α) (r : List UInt8) : PR α :=
  if r.head? = some e then .ok x r.tail else rowN one e (r.length + 1) x r
/-- The value of the first member of a name. -/
def getM (n : List UInt8) : List (List UInt8 × JV) → Option JV
  | [] => none
  | p :: m => if p.1 = n then some p.2 else getM n m
/-- A member's value. -/
def getJ (n : List UInt8) (v : JV) : Option JV := if v.kind = 6 then getM n v.mem else none
def arrR (val : List UInt8 → PR JV) (l : List JV) (r : List UInt8) : PR (List JV) := (val r).bind fun v r => .ok (l ++ [v]) r
def memR (val : List UInt8 → PR JV) (m : List (List UInt8 × JV)) (r : List UInt8) : PR (List (List UInt8 × JV)) :=
  (textR r).bind fun n r => if (getM n m).isSome then .bad 15 else
    (mustL 58 (blankL r)).bind fun _ r => (val (blankL r)).bind fun v r => .ok (m ++ [(n, v)]) r
/-- A value, where d more may be opened. -/
def valR : Nat → List UInt8 → PR JV
  | d, r =>
    if peekL r = 110 then (wordR [110, 117, 108, 108] r).bind fun _ r => .ok jnull r
    else if peekL r = 116 then (wordR [116, 114, 117, 101] r).bind fun _ r => .ok (jbool true) r
    else if peekL r = 102 then (wordR [102, 97, 108, 115, 101] r).bind fun _ r => .ok (jbool false) r
    else if peekL r = 34 then (textR r).bind fun t r => .ok (jstr t) r
    else if peekL r = 91 then (match d with
      | 0 => .bad 32
      | d + 1 => (rowR (arrR (valR d)) 93 [] (blankL r.tail)).bind fun l r => .ok (jarr l) r)
    else if peekL r = 123 then (match d with
      | 0 => .bad 32
      | d + 1 => (rowR (memR (valR d)) 125 [] (blankL r.tail)).bind fun m r => .ok (jobj m) r)
    else if peekL r = 45 ∨ digB (peekL r) then (numberL r).bind fun t r => .ok (jnum t) r
    else .bad 31
def wholeR (d : Nat) (r : List UInt8) : PR JV := (valR d (blankL r)).bind fun v r => if blankL r = [] then .ok v [] else .bad 31
/-- Parse: a value, or a fault's number. -/
def parseL (b : List UInt8) (depth : Int) : JV × Int :=
  if 16384 < b.length then (.zero, 11)
  else if depth < 1 ∨ 32 < depth then (.zero, 12)
  else if toldB b = false then (.zero, 30)
  else match wholeR depth.toNat b with
    | .ok v _ => (v, 0)
    | .bad e => (.zero, e)
def numericB (s : List UInt8) : Bool := match numberL s with
  | .ok t _ => t == s
  | .bad _ => false
mutual
/-- Is a value right? -/
def rightJ : JV → Bool
  | .mk k y t l m => (k == 2 || !y) && (k == 3 || k == 4 || t == []) && (k == 5 || l.isEmpty) && (k == 6 || m.isEmpty) &&
    (k == 1 || k == 2 || (k == 3 && numericB t) || (k == 4 && toldB t) || (k == 5 && rightL l) || (k == 6 && rightM m))
def rightL : List JV → Bool
  | [] => true
  | v :: l => rightJ v && rightL l
/-- .. members: each told and right, and no name twice. -/
def rightM : List (List UInt8 × JV) → Bool
  | [] => true
  | (n, v) :: m => toldB n && rightJ v && (getM n m).isNone && rightM m
end
def lowL (n : Nat) : UInt8 := if n < 10 then UInt8.ofNat (48 + n) else UInt8.ofNat (87 + n)
/-- A byte in a string's plain text. -/
def quoteC (c : UInt8) : List UInt8 :=
  if c = 8 then [92, 98] else if c = 12 then [92, 102] else if c = 10 then [92, 110] else if c = 13 then [92, 114] else if c = 9 then [92, 116]
  else if c = 34 then [92, 34] else if c = 92 then [92, 92]
  else if c.toNat < 32 then [92, 117, 48, 48, lowL (c.toNat / 16), lowL (c.toNat % 16)] else [c]
def quoteL (s : List UInt8) : List UInt8 := 34 :: (s.flatMap quoteC ++ [34])
mutual
/-- A value's plain text. -/
def plainJ : JV → List UInt8
  | .mk k y t l m => if k = 1 then [110, 117, 108, 108] else if k = 2 then (if y then [116, 114, 117, 101] else [102, 97, 108, 115, 101]) else if k = 3 then t else if k = 4 then quoteL t
    else if k = 5 then 91 :: (plainL true l ++ [93]) else if k = 6 then 123 :: (plainM true m ++ [125]) else []
def plainL : Bool → List JV → List UInt8
  | _, [] => []
  | first, v :: l => (if first then [] else [44]) ++ (plainJ v ++ plainL false l)
def plainM : Bool → List (List UInt8 × JV) → List UInt8
  | _, [] => []
  | first, (n, v) :: m => (if first then [] else [44]) ++ (quoteL n ++ (58 :: (plainJ v ++ plainM false m)))
end
mutual
/-- How deep a value is. -/
def depthJ : JV → Nat
  | .mk k y t l m => (if k = 5 then depthL l else if k = 6 then depthM m else 0) + 1
def depthL : List JV → Nat
  | [] => 0
  | v :: l => max (depthJ v) (depthL l)
def depthM : List (List UInt8 × JV) → Nat
  | [] => 0
  | (_, v) :: m => max (depthJ v) (depthM m)
end
example : parseL [91, 49, 44, 123, 34, 97, 34, 58, 91, 93, 125, 93] 3 = (jarr [jnum [49], jobj [([97], jarr [])]], 0) := by rfl
end Go.Proofs.Ytfcokdkbjajohaa
/- What the walks are told of bytes that lie in memory. -/
namespace Go.Proofs.Ytfcokdkbjajohaa
open Go.RowKit

/-- The bytes l lie at the address a. -/
def Rd (w : World) (a : Option Addr) (l : List UInt8) : Prop :=
  l = [] ∨ ∃ b off, a = some ⟨b, off, none⟩ ∧ ∀ i (h : i < l.length), w.cell? ⟨b, off + i, none⟩ = some (.int .u8 (l[i]).toNat)

theorem Rd.at {w : World} {a : Option Addr} {l : List UInt8} (h : Rd w a l) {k : Nat} (hk : k < l.length) :
    ∃ b off, a = some ⟨b, off, none⟩ ∧ ∀ i (h : i < l.length), w.cell? ⟨b, off + i, none⟩ = some (.int .u8 (l[i]).toNat) := by
  rcases h with rfl | h
  · simp at hk
  · exact h

/-- What a row of the call's own reads as. -/
theorem Rd.of_cells {w : World} {g : Nat} {cs : Array Value} {T : TypeId} {fr : Nat × Nat} (h : w.heap[g]? = some (.cells cs T fr)) (l : List UInt8) (hl : ∀ i (h : i < l.length), cs[i]? = some (.int .u8 (l[i]).toNat)) :
    Rd w (some ⟨g, 0, none⟩) l := by
  refine .inr ⟨g, 0, rfl, fun i hi => ?_⟩
  rw [Nat.zero_add, Lib.cell_of_heap h]
  exact hl i hi

theorem Rd.of_lit {w : World} {g : Nat} {T : TypeId} {fr : Nat × Nat} (l : List UInt8) (h : w.heap[g]? = some (.cells (Lib.byteCells l).toArray T fr)) : Rd w (some ⟨g, 0, none⟩) l :=
  Rd.of_cells h l fun i hi => by simp [Lib.byteCells, hi]


/-- The cells of a row that came in, as bytes. -/
theorem rd_of_cells {w : World} {a : Option Addr} {len cap : Nat} {zs : List Int}
    (h : (a = none ∧ len = 0 ∧ cap = 0 ∧ zs = []) ∨ ∃ x, a = some x ∧ len ≤ cap ∧ cap ≤ maxLen ∧ zs.length = cap ∧ (∀ i, i < zs.length → w.cell? (x.add i) = some (.int .u8 (zs.getD i 0))) ∧ ∀ n ∈ zs, (Lit.int .u8 n).wf = true) :
    ∃ l : List UInt8, len = l.length ∧ Rd w a l := by
  rcases h with ⟨rfl, rfl, rfl, rfl⟩ | ⟨x, rfl, hl, hm, hz, hc, hwf⟩
  · exact ⟨[], rfl, .inl rfl⟩
  · cases len with
    | zero => exact ⟨[], rfl, .inl rfl⟩
    | succ len =>
      obtain ⟨b, off, spot⟩ := x
      have h0 := hc 0 (by omega)
      have hsp : spot = none := by
        cases spot with
        | none => rfl
        | some k =>
          have e0 : (⟨b, off, some k⟩ : Addr).add 0 = ⟨b, off, some k⟩ := by simp [Addr.add]
          rw [e0] at h0
          unfold World.cell? at h0
          split at h0 <;> simp at h0
      subst hsp
      refine ⟨(zs.take (len + 1)).map fun z => UInt8.ofNat z.toNat, by simp; omega, .inr ⟨b, off, rfl, fun i hi => ?_⟩⟩
      simp only [List.length_map, List.length_take] at hi
      have hi' : i < zs.length := by omega
      have h1 := hc i hi'
      rw [Addr.add_lit] at h1
      rw [h1]
      have hw := hwf zs[i] (List.getElem_mem hi')
      have hd : zs.getD i 0 = zs[i] := by rw [List.getD_eq_getElem?_getD, List.getElem?_eq_getElem hi']; rfl
      simp [Lit.wf, IntKind.min, IntKind.max, IntKind.signed, IntKind.bits] at hw
      rw [hd]
      simp only [List.getElem_map, List.getElem_take, Option.some.injEq, Value.int.injEq, true_and]
      rw [UInt8.toNat_ofNat']
      omega

/-- Bytes that lay there before are there still. -/
theorem Rd.below {w w' : World} {a : Option Addr} {l : List UInt8} (h : Rd w a l) (hb : Below w.heap.size w w') : Rd w' a l := by
  rcases h with rfl | ⟨b, off, rfl, hc⟩
  · exact .inl rfl
  · refine .inr ⟨b, off, rfl, fun i hi => ?_⟩
    rw [hb.cell (World.block_lt_of_cell? w _ (hc i hi))]
    exact hc i hi

theorem Rd.alloc {w : World} {a : Option Addr} {l : List UInt8} (h : Rd w a l) (o : Obj) : Rd (w.alloc o) a l := h.below ((Below.refl _ _).alloc (Nat.le_refl _) o)

theorem cell_now {w wr : World} {b o : Nat} {v : Value} (hb : Below w.heap.size w wr) (h : w.cell? ⟨b, o, none⟩ = some v) : wr.cell? ⟨b, o, none⟩ = some v := by
  rw [hb.cell (World.block_lt_of_cell? w _ h)]
  exact h
/-- A row of bytes of the call's own (from block B on). -/
def Own (B : Nat) (w : World) (v : Value) (l : List UInt8) : Prop := w.ownsRow B 5 1 v l.length (Lib.byteCells l)

theorem byteCells_len (l : List UInt8) : (Lib.byteCells l).length = l.length := by simp [Lib.byteCells]
theorem byteCells_app (l m : List UInt8) : Lib.byteCells (l ++ m) = Lib.byteCells l ++ Lib.byteCells m := by simp [Lib.byteCells]
theorem byteCells_one (l : List UInt8) : ∀ u ∈ Lib.byteCells l, u.oneCell' = true := by
  intro u hu; obtain ⟨_, _, rfl⟩ := List.mem_map.1 hu; rfl

theorem Own.nil (B : Nat) (w : World) : Own B w (.slice none 0 0) [] := World.ownsRow_nil _ _ _ _

/-- '[]byte' of no elements, just made. -/
theorem Own.empty (w : World) : Own w.heap.size (w.alloc (.cells #[] 5)) (.slice (some ⟨w.heap.size, 0, none⟩) 0 0) [] := World.ownsRow_made w #[] 0 (Nat.le_refl _) (by decide) rfl

theorem Own.shape {B : Nat} {w : World} {v : Value} {l : List UInt8} (h : Own B w v l) : ∃ a c, v = .slice a l.length c ∧ Rd w a l := by
  rcases h.2 with ⟨rfl, h0⟩ | ⟨g, cap, cur, rfl, _, hg, _, _, _, htake⟩
  · have : l = [] := List.eq_nil_of_length_eq_zero h0
    subst this
    exact ⟨none, 0, rfl, .inl rfl⟩
  · refine ⟨some ⟨g, 0, none⟩, cap, rfl, .inr ⟨g, 0, rfl, fun i hi => ?_⟩⟩
    have := World.ownsRow.cells (show w.ownsRow B 5 1 (.slice (some ⟨g, 0, none⟩) l.length cap) l.length (Lib.byteCells l) from h) (g := g) rfl i (.int .u8 (l[i]).toNat) (by simp [Lib.byteCells, hi])
    rw [Addr.add_lit, Nat.zero_add] at this
    rw [Nat.zero_add]
    exact this

theorem Own.block {B : Nat} {w : World} {v : Value} {l : List UInt8} (h : Own B w v l) : ∀ k, v.ownBlock = some k → B ≤ k ∧ k < w.heap.size := h.lt

theorem Own.alloc {B : Nat} {w : World} {v : Value} {l : List UInt8} (h : Own B w v l) (o : Obj) : Own B (w.alloc o) v l := World.ownsRow.alloc h o

/-- What a call leaves alone: a world that is as it was below its size. -/
theorem Own.below {B : Nat} {w w' : World} {v : Value} {l : List UInt8} (h : Own B w v l) (hb : Below w.heap.size w w') : Own B w' v l :=
  World.ownsRow.kept (row := none) h ⟨hb.os, hb.tape, hb.output, hb.size, fun k hk _ => hb.block k hk⟩ (by cases v.ownBlock <;> simp)

theorem info_u8 : (Try.prog.info? 5).map (fun i => (i.zero, i.size, i.bytes)) = some (some (.int .u8 0), 1, 1) := by kernel_rfl

/-- append(own, bytes...): the bytes go behind what is owned. -/
theorem wpList_append_rd {ops : Array Oper} {rest : List Oper} {o : Oper} {a : Act} {w : World} {Q : Exit → Act → World → Prop} (hgd : o.guard = none) (s x : Operand)
    (ho : o.op = .call { callee := .builtin .append, args := #[s, x], argTypes := #[43, 43] })
    (B : Nat) (v : Value) (l : List UInt8) (hs : a.eval s = v) (hown : Own B w v l) (ad : Option Addr) (m : List UInt8) (n c : Nat) (hx : a.eval x = .slice ad n c) (hn : n = m.length) (hrd : Rd w ad m)
    (hlen : l.length + m.length ≤ 140737488355328) (hB : B ≤ w.heap.size)
    (h : ∀ v' w', Own B w' v' (l ++ m) → w.grownBy w' v.ownBlock → wpList Try.prog ops Q rest (a.put o.dst v') w') : wpList Try.prog ops Q (o :: rest) a w := by
  subst hn
  obtain ⟨i0, hi, hz0, hz1, hz2⟩ := info_parts info_u8
  have key : ∀ ad' : Addr, (∀ j u, (Lib.byteCells m)[j]? = some u → w.cell? (ad'.add j) = some u) → a.eval x = .slice (some ad') m.length c → wpList Try.prog ops Q (o :: rest) a w := by
    intro ad' hc hx'
    refine wpList_append_own w hgd s x 43 ho B 5 i0 (.int .u8 0) 1 1 Try.underlying43 hi hz0 hz1 hz2 rfl (by decide) v l.length (Lib.byteCells l) hs hown ad' m.length c (Lib.byteCells m) hx' (by simp [byteCells_len]) hc (byteCells_one m)
      (by unfold maxLen; omega) (by omega) hB ?_
    intro v' w' h1 h2 _
    refine h v' w' ?_ h2
    unfold Own
    rw [byteCells_app, List.length_append]
    exact h1
  rcases hrd with rfl | ⟨b, off, rfl, hc⟩
  · cases ad with
    | some ad' => exact key ad' (fun j u hu => by simp [Lib.byteCells] at hu) hx
    | none =>
      refine wpList_plain hgd fun K hK' => ?_
      have hsz : i0.size = 1 := hz1
      have e0 : (Builtin.append_ #[43, 43] o.type #[v, .slice none 0 c]).run Try.prog w = .ok v w := by
        rcases hown.2 with ⟨rfl, h0⟩ | ⟨g, cap, cur, rfl, _, hg, hle, _, _, _⟩
        · simp [Builtin.append_, run_underlying Try.underlying43, sizeOf, typeInfo, hi, Builtin.lenOf, Builtin.firstCells]
        · simp [Builtin.append_, run_underlying Try.underlying43, sizeOf, typeInfo, hi, Builtin.lenOf, Builtin.firstCells, hle, storeCells]
      unfold Oper.wp
      simp only [List.length_nil] at hx
      simp [execOp, ho, resolve, invoke, builtin, hs, hx, e0, Result.andThen]
      exact hK' _ _ (h v w (by simpa using hown) ⟨rfl, rfl, rfl, Nat.le_refl _, fun _ _ _ => rfl⟩)
  · refine key ⟨b, off, none⟩ (fun j u hu => ?_) hx
    have hj : j < m.length := by have := (List.getElem?_eq_some_iff.1 hu).1; simpa [Lib.byteCells] using this
    have e1 : u = .int .u8 (m[j]).toNat := by
      simp [Lib.byteCells, hj] at hu
      exact hu.symm
    rw [e1, ← hc j hj, Addr.add_lit]

/-- A world in which one row of the call's own has grown. -/
theorem below_grow {B : Nat} {a w w' : World} {v : Value} {l : List UInt8} (h : Below B a w) (hown : Own B w v l) (hg : w.grownBy w' v.ownBlock) (hB : B ≤ w.heap.size) : Below B a w' :=
  h.grown hg hB (fun k hk => (hown.lt k hk).1)

theorem Rd.grown {w w' : World} {row : Option Nat} {a : Option Addr} {l : List UInt8} (h : Rd w a l) (hg : w.grownBy w' row) (hne : ∀ b off s, a = some ⟨b, off, s⟩ → some b ≠ row) : Rd w' a l := by
  rcases h with rfl | ⟨b, off, rfl, hc⟩
  · exact .inl rfl
  · exact .inr ⟨b, off, rfl, fun i hi => hg.cell (hc i hi) (hne b off none rfl)⟩

/-- A block of another kind stands as it stood while a row of bytes grows. -/
theorem Own.other {B g : Nat} {w w' : World} {v : Value} {l : List UInt8} {cs : Array Value} {T : TypeId} {fr : Nat × Nat} (h : Own B w v l) (hg : w.grownBy w' v.ownBlock) (hb : w.heap[g]? = some (.cells cs T fr)) (hT : T ≠ 5) :
    w'.heap[g]? = some (.cells cs T fr) := by
  rw [hg.block g (Array.getElem?_eq_some_iff.1 hb).1 ?_]
  · exact hb
  · intro e
    rcases h.2 with ⟨rfl, _⟩ | ⟨g', cap, cur, rfl, _, hgg, _⟩
    · simp [Value.ownBlock] at e
    · simp [Value.ownBlock] at e
      subst e
      rw [hb] at hgg
      simp at hgg
      exact hT hgg.2.1

theorem block_alloc {w : World} {g : Nat} {x : Obj} (h : w.heap[g]? = some x) (o : Obj) : (w.alloc o).heap[g]? = some x := by
  rw [Below.heap_alloc _ _ _ (Array.getElem?_eq_some_iff.1 h).1]
  exact h
theorem block_below {w w' : World} {g : Nat} {x : Obj} (h : w.heap[g]? = some x) (hb : Below w.heap.size w w') : w'.heap[g]? = some x := by
  rw [hb.block g (Array.getElem?_eq_some_iff.1 h).1]
  exact h

/-- The cells of numbers. -/
def ints (ns : List Nat) : List Value := ns.map fun n : Nat => Value.int .i64 (n : Int)
theorem cell_ints {w : World} {g : Nat} {ns : List Nat} {T : TypeId} {fr : Nat × Nat} (h : w.heap[g]? = some (.cells (ints ns).toArray T fr)) {j : Nat} (hj : j < ns.length) : w.cell? ⟨g, j, none⟩ = some (.int .i64 (ns[j] : Nat)) := by
  rw [Lib.cell_of_heap h]
  simp [ints, hj]

/-- string(b). -/
theorem str_of_rd {w : World} {a : Option Addr} {l : List UInt8} (h : Rd w a l) (n c : Nat) (hn : n = l.length) :
    (convert 43 9 (.slice a n c)).run Try.prog w = .ok (.string ⟨l.toArray⟩) w := by
  subst hn
  rcases h with rfl | ⟨b, off, rfl, hc⟩
  · cases a with
    | none =>
      rw [run_convert_bytes_string w 43 9 5 none _ c Try.underlying43 Try.underlying5 Try.underlying9]
      simp [Conv.bytesToString]
      rfl
    | some x => exact run_convert_bytes_back w 43 9 5 x c [] Try.underlying43 Try.underlying5 Try.underlying9 (by simp)
  · exact run_convert_bytes_back w 43 9 5 _ c l Try.underlying43 Try.underlying5 Try.underlying9 (fun j hj => by rw [Addr.add_lit]; exact hc j hj)

/-- The cells of bytes that are numbers. -/
def ints8 (ns : List Nat) : List Value := ns.map fun n : Nat => Value.int .u8 (n : Int)
theorem cell_ints8 {w : World} {g : Nat} {ns : List Nat} {T : TypeId} {fr : Nat × Nat} (h : w.heap[g]? = some (.cells (ints8 ns).toArray T fr)) {j : Nat} (hj : j < ns.length) : w.cell? ⟨g, j, none⟩ = some (.int .u8 (ns[j] : Nat)) := by
  rw [Lib.cell_of_heap h]
  simp [ints8, hj]
end Go.Proofs.Ytfcokdkbjajohaa
/- append(own, literal bytes..): what becomes of the rest. -/
set_option linter.unusedVariables false
namespace Go.Proofs.Ytfcokdkbjajohaa
open Go.RowKit

/-- What append(own, m...) leaves, m just written out. -/
structure Apped (B : Nat) (w0 w' : World) (v' : Value) (l : List UInt8) : Prop where
  own : Own B w' v' l
  below : ∀ a0, Below B a0 w0 → Below B a0 w'
  block : ∀ (g : Nat) (cs : Array Value) (T : TypeId) (fr : Nat × Nat), w0.heap[g]? = some (.cells cs T fr) → T ≠ 5 → w'.heap[g]? = some (.cells cs T fr)

theorem wpList_append_lit {ops : Array Oper} {rest : List Oper} {o : Oper} {a : Act} {w : World} {Q : Exit → Act → World → Prop} (hgd : o.guard = none) (s x : Operand)
    (ho : o.op = .call { callee := .builtin .append, args := #[s, x], argTypes := #[43, 43] })
    (B : Nat) (v : Value) (l : List UInt8) (hs : a.eval s = v) (w0 : World) (hown : Own B w0 v l) (m : List UInt8) (cs : Array Value) (hcs : cs.toList = Lib.byteCells m) (n c : Nat)
    (hw : w = w0.alloc (.cells cs 5)) (g : Nat) (hx : a.eval x = .slice (some ⟨g, 0, none⟩) n c) (hg : w0.heap.size = g) (hn : n = m.length)
    (hlen : l.length + m.length ≤ 140737488355328) (hB : B ≤ w0.heap.size)
    (h : ∀ v' w', Apped B w0 w' v' (l ++ m) → wpList Try.prog ops Q rest (a.put o.dst v') w') : wpList Try.prog ops Q (o :: rest) a w := by
  subst hw hg
  refine wpList_append_rd hgd s x ho B v l hs (hown.alloc _) _ m n c hx hn (Rd.of_cells (heap_alloc_new w0 _) m fun i hi => ?_) hlen (by simp; omega) fun v' w' h1 h2 => h v' w' ⟨h1, fun a0 ha => ?_, fun g cs' T fr hg hT => ?_⟩
  · rw [← Array.getElem?_toList, hcs]
    simp [Lib.byteCells, hi]
  · exact below_grow (ha.alloc hB _) (hown.alloc _) h2 (by simp; omega)
  · exact Own.other (hown.alloc _) h2 (block_alloc hg _) hT
/-- l[i] of a string. -/
theorem str_at (l : List UInt8) (i : Nat) (h : i < l.length) (w : World) : (Instr.index 9 (.string ⟨l.toArray⟩) (.int .i64 (i : Int))).run Try.prog w = .ok (.int .u8 (l[i].toNat : Nat)) w := by
  rw [run_index_string w 9 ⟨l.toArray⟩ .i64 _ Try.underlying9, dif_pos (by simpa [ByteArray.size] using h)]
  rfl
theorem str_head (l : List UInt8) (j : Nat) (h : j ≤ l.length) (J : Int) (hJ : J = (j : Int)) (w : World) : (Instr.slice 9 (.string ⟨l.toArray⟩) none (some (.int .i64 J)) none).run Try.prog w = .ok (.string ⟨(l.take j).toArray⟩) w := by
  subst hJ
  rw [run_slice_string_h w 9 ⟨l.toArray⟩ Try.underlying9 .i64 (j : Int) (by omega) (by simp [ByteArray.size]; omega)]
  congr 2
  apply ByteArray.ext
  apply Array.ext'
  simp [ByteArray.data_extract]
theorem str_tail (l : List UInt8) (i : Nat) (h : i ≤ l.length) (I : Int) (hI : I = (i : Int)) (w : World) : (Instr.slice 9 (.string ⟨l.toArray⟩) (some (.int .i64 I)) none none).run Try.prog w = .ok (.string ⟨(l.drop i).toArray⟩) w := by
  subst hI
  rw [run_slice_string_l w 9 ⟨l.toArray⟩ Try.underlying9 .i64 (i : Int) (by omega) (by simp [ByteArray.size]; omega)]
  congr 2
  apply ByteArray.ext
  apply Array.ext'
  simp [ByteArray.data_extract, ByteArray.size, List.take_of_length_le]
/-- []byte(l). -/
theorem bytes_of_str (l : List UInt8) (w : World) : ∃ c w', (convert 9 43 (.string ⟨l.toArray⟩)).run Try.prog w = .ok (.slice (some ⟨w.heap.size, 0, none⟩) l.length c) w' ∧ Below w.heap.size w w' ∧ Rd w' (some ⟨w.heap.size, 0, none⟩) l ∧ w'.heap.size = w.heap.size + 1 := by
  have h := Lib.run_convert_string_bytes (P := Try.prog) w 9 43 5 ⟨l.toArray⟩ Try.underlying9 Try.underlying43 Try.underlying5
  refine ⟨_, _, h, ?_, ?_, Lib.bytesWorld_size _ _ _⟩
  · exact ⟨rfl, rfl, rfl, by rw [Lib.bytesWorld_size]; omega, fun k hk => Lib.bytesWorld_at_old _ _ _ _ hk⟩
  · refine .inr ⟨w.heap.size, 0, rfl, fun i hi => ?_⟩
    rw [Nat.zero_add, Lib.bytesWorld_cell w 5 ⟨l.toArray⟩ i (by simpa [ByteArray.size] using hi)]
    simp [List.getD_eq_getElem?_getD, hi]
end Go.Proofs.Ytfcokdkbjajohaa
/- json's reader: bytes. -/
set_option linter.unusedVariables false
namespace Go.Proofs.Ytfcokdkbjajohaa
open Go.RowKit

/-- The reader at block g: of the text S, at p, of depth d, with o open. -/
structure Rdr (w : World) (g : Nat) (S : List UInt8) (p d o : Nat) : Prop where
  heap : w.heap[g]? = some (.cells #[.string ⟨S.toArray⟩, .int .i64 (p : Int), .int .i64 (d : Int), .int .i64 (o : Int)] 61 (0, 0))
  le : p ≤ S.length
theorem Rdr.c0 {w : World} {g : Nat} {S : List UInt8} {p d o : Nat} (h : Rdr w g S p d o) : w.cell? ⟨g, 0, none⟩ = some (.string ⟨S.toArray⟩) := by rw [Lib.cell_of_heap h.heap]; rfl
theorem Rdr.c1 {w : World} {g : Nat} {S : List UInt8} {p d o : Nat} (h : Rdr w g S p d o) : w.cell? ⟨g, 1, none⟩ = some (.int .i64 (p : Int)) := by rw [Lib.cell_of_heap h.heap]; rfl
theorem Rdr.c2 {w : World} {g : Nat} {S : List UInt8} {p d o : Nat} (h : Rdr w g S p d o) : w.cell? ⟨g, 2, none⟩ = some (.int .i64 (d : Int)) := by rw [Lib.cell_of_heap h.heap]; rfl
theorem Rdr.c3 {w : World} {g : Nat} {S : List UInt8} {p d o : Nat} (h : Rdr w g S p d o) : w.cell? ⟨g, 3, none⟩ = some (.int .i64 (o : Int)) := by rw [Lib.cell_of_heap h.heap]; rfl
theorem Rdr.fz {w : World} {g : Nat} {S : List UInt8} {p d o : Nat} (h : Rdr w g S p d o) (i : Nat) : w.frozen? ⟨g, i, none⟩ = false := Lib.frozen_of_heap h.heap i
theorem Rdr.lt {w : World} {g : Nat} {S : List UInt8} {p d o : Nat} (h : Rdr w g S p d o) : g < w.heap.size := (Array.getElem?_eq_some_iff.1 h.heap).1
theorem Rdr.at {w : World} {g : Nat} {S : List UInt8} {p d o : Nat} (h : Rdr w g S p d o) (q : Nat) (hq : q ≤ S.length) : Rdr (w.setCell ⟨g, 1, none⟩ (.int .i64 (q : Int))) g S q d o :=
  ⟨by rw [setCell_block h.heap]; rfl, hq⟩
theorem Rdr.op {w : World} {g : Nat} {S : List UInt8} {p d o : Nat} (h : Rdr w g S p d o) (q : Nat) : Rdr (w.setCell ⟨g, 3, none⟩ (.int .i64 (q : Int))) g S p d q :=
  ⟨by rw [setCell_block h.heap]; rfl, h.le⟩
theorem Rdr.drewN {w : World} {g : Nat} {S : List UInt8} {p d o : Nat} (h : Rdr w g S p d o) (n : Nat) : Rdr (w.drewN n) g S p d o := ⟨h.heap, h.le⟩
theorem Rdr.below {w w' : World} {g : Nat} {S : List UInt8} {p d o : Nat} (h : Rdr w g S p d o) (hb : Below w.heap.size w w') : Rdr w' g S p d o := ⟨(hb.block g h.lt).trans h.heap, h.le⟩
theorem But.below {g : Nat} {a w w' : World} (h : But g a w) (hb : Below w.heap.size w w') : But g a w' :=
  ⟨hb.os.trans h.os, hb.tape.trans h.tape, hb.output.trans h.output, Nat.le_trans h.size hb.size, fun k hk hg => (hb.block k (Nat.lt_of_lt_of_le hk h.size)).trans (h.block k hk hg)⟩
theorem But.to_below {g B : Nat} {a w w' : World} (h : Below B a w) (hb : But g w w') (hg : B ≤ g) (hs : B ≤ w.heap.size) : Below B a w' :=
  ⟨hb.os.trans h.os, hb.tape.trans h.tape, hb.output.trans h.output, Nat.le_trans h.size hb.size, fun k hk => (hb.block k (by omega) (by omega)).trans (h.block k hk)⟩
theorem peek_drop (S : List UInt8) (p : Nat) (h : p < S.length) : peekL (S.drop p) = S[p] := by
  unfold peekL
  rw [List.drop_eq_getElem_cons h]
  rfl
theorem peek_end (S : List UInt8) : peekL (S.drop S.length) = 0 := by simp [peekL]
set_option maxRecDepth 100000 in
set_option maxHeartbeats 4000000 in
theorem jpeek_any (g : Nat) (S : List UInt8) (p d o : Nat) (c : UInt8) (w : World) (h : Rdr w g S p d o) (hl : S.length ≤ 1000000) (hc : peekL (S.drop p) = c) :
    Calls Try.prog 55 #[.pointer (some ⟨g, 0, none⟩)] w fun e w' => e = .returned (.int .u8 (c.toNat : Int)) ∧ Rdr w' g S p d o ∧ But g w w' := by
  have h0 := h.c0
  have h1 := h.c1
  have hle := h.le
  have HR := Lib.hid h
  have HC := Lib.hid hc
  clear h hc
  by_cases hlt : p < S.length
  · have hix : ∀ w, (Instr.index 9 (.string ⟨S.toArray⟩) (.int .i64 (p : Int))).run Try.prog w = .ok (.int .u8 (c.toNat : Nat)) w := by
      rw [← HC.out, peek_drop S p hlt]
      exact str_at S p hlt
    have hb : (((p : Nat) : Int) == ((S.length : Nat) : Int)) = false := by simp only [beq_eq_false_iff_ne, ne_eq]; omega
    go_enter Try.func55, Try.ntmps55
    go_wp2_with fail
    go_quiet (fail)
    go_wp2_with fail
    go_quiet (fail)
    go_wp2_with fail
    go_ret
    exact ⟨rfl, (HR.out.drewN _).drewN _, ((But.refl g w).drewN _).drewN _⟩
  · obtain rfl : p = S.length := by omega
    have hb : (((S.length : Nat) : Int) == ((S.length : Nat) : Int)) = true := by simp
    go_enter Try.func55, Try.ntmps55
    go_wp2_with fail
    go_quiet (fail)
    go_wp2_with fail
    go_ret
    refine ⟨?_, HR.out.drewN _, ((But.refl g w).drewN _)⟩
    rw [← HC.out, peek_end]
    rfl
/-- A fault that is thrown. -/
def thrown (e at_ : Int) : List PanicEntry := [{ v := .iface 63 (.agg #[.int .i64 e, .int .i64 at_]), recovered := false }]
set_option maxRecDepth 100000 in
set_option maxHeartbeats 4000000 in
theorem jfail_any (g : Nat) (e a : Int) (w : World) :
    Calls Try.prog 63 #[.pointer (some ⟨g, 0, none⟩), .int .i64 e, .int .i64 a] w fun x w' => x = .panicked (thrown e a) ∧ w' = w := by
  go_enter Try.func63, Try.ntmps63
  go_wp2_with fail
  exact ⟨rfl, rfl, rfl⟩
set_option maxRecDepth 100000 in
set_option maxHeartbeats 4000000 in
theorem jstop_any (g : Nat) (S : List UInt8) (p d o : Nat) (w : World) (h : Rdr w g S p d o) :
    Calls Try.prog 45 #[.pointer (some ⟨g, 0, none⟩)] w fun x w' => x = .panicked (thrown 31 p) ∧ w' = w := by
  have h1 := h.c1
  clear h
  go_enter Try.func45, Try.ntmps45
  go_wp2_with fail
  refine (jfail_any g 31 p w).mono ?_
  rintro e w' ⟨rfl, rfl⟩
  go_wp2_with fail
  exact ⟨rfl, rfl, rfl⟩
theorem head_peek {r : List UInt8} {c : UInt8} (hc : c ≠ 0) : r.head? = some c ↔ peekL r = c := by
  cases r with
  | nil => simp [peekL]; exact fun e => hc e.symm
  | cons b r => simp [peekL]
theorem peek_lt {S : List UInt8} {p : Nat} (hle : p ≤ S.length) (h : peekL (S.drop p) ≠ 0) : p < S.length := by
  rcases Nat.lt_or_ge p S.length with h' | h'
  · exact h'
  · obtain rfl : p = S.length := by omega
    exact absurd (peek_end S) h
set_option maxRecDepth 100000 in
set_option maxHeartbeats 4000000 in
theorem jnext_hit (g : Nat) (S : List UInt8) (p d o : Nat) (c : UInt8) (C : Int) (w : World) (h : Rdr w g S p d o) (hl : S.length ≤ 1000000) (hc : peekL (S.drop p) = c) (h0 : c ≠ 0) (hC : C = (c.toNat : Int)) :
    Calls Try.prog 46 #[.pointer (some ⟨g, 0, none⟩), .int .u8 C] w fun e w' => e = .returned (.bool true) ∧ Rdr w' g S (p + 1) d o ∧ But g w w' := by
  have hlt : p < S.length := peek_lt h.le (by rw [hc]; exact h0)
  have H0 := Lib.hid h0
  have HC := Lib.hid hC
  have HP := Lib.hid (jpeek_any g S p d o c w h hl hc)
  clear h hc h0 hC
  go_enter Try.func46, Try.ntmps46
  go_wp2_with fail
  refine HP.out.mono ?_
  rintro e w1 ⟨rfl, hr, hb⟩
  have h1 := hr.c1
  have f1 := hr.fz 1
  have HR := Lib.hid (hr.at (p + 1) (by omega))
  have HB := Lib.hid (hb.trans (But.setCell w1 g 1 (.int .i64 ((p + 1 : Nat) : Int))))
  have q : (((c.toNat : Nat) : Int) != C) = false := by rw [HC.out]; simp
  clear hr hb
  go_wp2_with fail
  go_ret
  exact ⟨rfl, HR.out, HB.out⟩
set_option maxRecDepth 100000 in
set_option maxHeartbeats 4000000 in
theorem jnext_miss (g : Nat) (S : List UInt8) (p d o : Nat) (c : UInt8) (C : Int) (w : World) (h : Rdr w g S p d o) (hl : S.length ≤ 1000000) (hc : peekL (S.drop p) ≠ c) (hC : C = (c.toNat : Int)) :
    Calls Try.prog 46 #[.pointer (some ⟨g, 0, none⟩), .int .u8 C] w fun e w' => e = .returned (.bool false) ∧ Rdr w' g S p d o ∧ But g w w' := by
  obtain ⟨b, hbd⟩ : ∃ b, peekL (S.drop p) = b := ⟨_, rfl⟩
  rw [hbd] at hc
  have q : (((b.toNat : Nat) : Int) != C) = true := by
    rw [hC]
    simp only [bne_iff_ne, ne_eq]
    intro e
    exact hc (UInt8.toNat_inj.1 (by omega))
  have HP := Lib.hid (jpeek_any g S p d o b w h hl hbd)
  clear h hc hC hbd
  go_enter Try.func46, Try.ntmps46
  go_wp2_with fail
  refine HP.out.mono ?_
  rintro e w1 ⟨rfl, hr, hb⟩
  have HR := Lib.hid hr
  have HB := Lib.hid hb
  clear hr hb
  go_wp2_with fail
  go_ret
  exact ⟨rfl, HR.out, HB.out⟩
set_option maxRecDepth 100000 in
set_option maxHeartbeats 4000000 in
theorem jmust_hit_any (g : Nat) (S : List UInt8) (p d o : Nat) (c : UInt8) (C : Int) (w : World) (h : Rdr w g S p d o) (hl : S.length ≤ 1000000) (hc : peekL (S.drop p) = c) (h0 : c ≠ 0) (hC : C = (c.toNat : Int)) :
    Calls Try.prog 78 #[.pointer (some ⟨g, 0, none⟩), .int .u8 C] w fun e w' => e = .returned (.tuple #[]) ∧ Rdr w' g S (p + 1) d o ∧ But g w w' := by
  have HP := Lib.hid (jnext_hit g S p d o c C w h hl hc h0 hC)
  clear h hc h0 hC
  go_enter Try.func78, Try.ntmps78
  go_wp2_with fail
  refine HP.out.mono ?_
  rintro e w1 ⟨rfl, hr, hb⟩
  have HR := Lib.hid hr
  have HB := Lib.hid hb
  clear hr hb
  go_wp2_with fail
  go_end0
  exact ⟨rfl, HR.out, HB.out⟩
set_option maxRecDepth 100000 in
set_option maxHeartbeats 4000000 in
theorem jmust_miss_any (g : Nat) (S : List UInt8) (p d o : Nat) (c : UInt8) (C : Int) (w : World) (h : Rdr w g S p d o) (hl : S.length ≤ 1000000) (hc : peekL (S.drop p) ≠ c) (hC : C = (c.toNat : Int)) :
    Calls Try.prog 78 #[.pointer (some ⟨g, 0, none⟩), .int .u8 C] w fun e w' => e = .panicked (thrown 31 p) ∧ But g w w' := by
  have HP := Lib.hid (jnext_miss g S p d o c C w h hl hc hC)
  clear h hc hC
  go_enter Try.func78, Try.ntmps78
  go_wp2_with fail
  refine HP.out.mono ?_
  rintro e w1 ⟨rfl, hr, hb⟩
  have HR := Lib.hid hr
  have HB := Lib.hid hb
  clear hr hb
  go_wp2_with fail
  refine (jstop_any g S p d o w1 HR.out).mono ?_
  rintro e w2 ⟨rfl, rfl⟩
  go_wp2_with fail
  exact ⟨rfl, rfl, HB.out⟩
theorem digB_iff (c : UInt8) : digB c = true ↔ 48 ≤ c.toNat ∧ c.toNat ≤ 57 := by simp [digB]
set_option maxRecDepth 100000 in
set_option maxHeartbeats 4000000 in
theorem jdigit_any (c : UInt8) (b : Bool) (w : World) (hb : digB c = b) :
    Calls Try.prog 62 #[.int .u8 (c.toNat : Int)] w fun e w' => e = .returned (.bool b) ∧ w' = w := by
  unfold digB at hb
  by_cases h1 : 48 ≤ c.toNat
  · have d1 : decide ((48 : Int) ≤ ((c.toNat : Nat) : Int)) = true := decide_eq_true (by omega)
    by_cases h2 : c.toNat ≤ 57
    · have d2 : decide (((c.toNat : Nat) : Int) ≤ 57) = true := decide_eq_true (by omega)
      have e : b = true := by rw [← hb]; simp [h1, h2]
      subst e
      clear hb
      go_enter Try.func62, Try.ntmps62
      go_wp2_with fail
      go_ret
      exact ⟨rfl, rfl⟩
    · have d2 : decide (((c.toNat : Nat) : Int) ≤ 57) = false := decide_eq_false (by omega)
      have e : b = false := by rw [← hb]; simp [h2]
      subst e
      clear hb
      go_enter Try.func62, Try.ntmps62
      go_wp2_with fail
      go_ret
      exact ⟨rfl, rfl⟩
  · have d1 : decide ((48 : Int) ≤ ((c.toNat : Nat) : Int)) = false := decide_eq_false (by omega)
    have e : b = false := by rw [← hb]; simp [h1]
    subst e
    clear hb
    go_enter Try.func62, Try.ntmps62
    go_wp2_with fail
    go_ret
    exact ⟨rfl, rfl⟩
end Go.Proofs.Ytfcokdkbjajohaa
/- json's reader: blanks, digits, words. -/
set_option linter.unusedVariables false
namespace Go.Proofs.Ytfcokdkbjajohaa
open Go.RowKit

theorem u8_every (P : UInt8 → Prop) (h : ∀ n : Fin 256, P (UInt8.ofNat n.1)) (c : UInt8) : P c := by
  have := h ⟨c.toNat, UInt8.toNat_lt c⟩
  simpa only [UInt8.ofNat_toNat] using this
theorem blank_idx (c : UInt8) : decide (0 ≤ Lib.indexByte [32, 9, 10, 13] c) = blankB c := u8_every (fun c => decide (0 ≤ Lib.indexByte [32, 9, 10, 13] c) = blankB c) (by decide +kernel) c
theorem drop_cons {S : List UInt8} {q : Nat} (h : q < S.length) : S.drop q = S[q] :: S.drop (q + 1) := List.drop_eq_getElem_cons h
theorem blank_next {S : List UInt8} {q : Nat} (h : q < S.length) (hb : blankB (peekL (S.drop q)) = true) : blankL (S.drop q) = blankL (S.drop (q + 1)) := by
  rw [peek_drop S q h] at hb
  rw [drop_cons h]
  unfold blankL
  rw [List.dropWhile_cons, if_pos hb]
theorem blank_here {S : List UInt8} {q : Nat} (hb : blankB (peekL (S.drop q)) = false) : blankL (S.drop q) = S.drop q := by
  cases hs : S.drop q with
  | nil => rfl
  | cons c r =>
    rw [hs] at hb
    have hb' : blankB c = false := hb
    unfold blankL
    rw [List.dropWhile_cons, if_neg (by simp [hb'])]
theorem byte_arg (c : UInt8) : ((c.toNat : Nat) : Int).toNat.toUInt8 = c := by simp [Nat.toUInt8]
set_option maxRecDepth 100000 in
set_option maxHeartbeats 4000000 in
theorem jblank_any (g : Nat) (S : List UInt8) (p d o : Nat) (w : World) (h : Rdr w g S p d o) (hl : S.length ≤ 1000000) :
    Calls Try.prog 43 #[.pointer (some ⟨g, 0, none⟩)] w fun e w' => e = .returned (.tuple #[]) ∧ ∃ q, S.drop q = blankL (S.drop p) ∧ p ≤ q ∧ Rdr w' g S q d o ∧ But g w w' := by
  have hle := h.le
  have HR0 := Lib.hid h
  clear h
  go_enter Try.func43, Try.ntmps43
  go_wp2_with fail
  go_loopg [] (S.length + 1 - p) (fun k wr => ∃ q : Nat, q + k = S.length + 1 ∧ p ≤ q ∧ Hid (blankL (S.drop q) = blankL (S.drop p)) ∧ Hid (Rdr wr g S q d o) ∧ Hid (But g w wr))
  case atStart => exact ⟨p, by omega, Nat.le_refl _, Lib.hid rfl, HR0, Lib.hid (But.refl g w)⟩
  case round =>
    obtain ⟨q, hq, hpq, hbl, hr, hb⟩ := hrel
    obtain ⟨c, hc⟩ : ∃ c, peekL (S.drop q) = c := ⟨_, rfl⟩
    have HP := Lib.hid (fun w hr => jpeek_any g S q d o c w hr hl hc)
    have HC := Lib.hid hc
    clear hc
    by_cases h0 : c.toNat = 0
    · have q0 : (((c.toNat : Nat) : Int) != 0) = false := by rw [h0]; rfl
      have hc0 : c = 0 := UInt8.toNat_inj.1 h0
      have hnb : blankB (peekL (S.drop q)) = false := by rw [HC.out, hc0]; decide
      have HE := Lib.hid ((blank_here hnb).symm.trans hbl.out)
      clear h0 hc0 hnb
      go_wp2_with fail
      refine (HP.out wr hr.out).mono ?_
      rintro e w1 ⟨rfl, hr1, hb1⟩
      have HR1 := Lib.hid hr1
      have HB1 := Lib.hid (hb.out.trans hb1)
      clear hr1 hb1
      go_wp2_with fail
      go_end0
      exact ⟨rfl, q, HE.out, hpq, HR1.out, HB1.out⟩
    · have q0 : (((c.toNat : Nat) : Int) != 0) = true := by simp only [bne_iff_ne, ne_eq]; omega
      have hlt : q < S.length := peek_lt hr.out.le (by rw [HC.out]; intro e; exact h0 (by rw [e]; rfl))
      have hidx := blank_idx c
      have HIX : Hid (Lib.indexByte [32, 9, 10, 13] c = Lib.indexByte [32, 9, 10, 13] c) := Lib.hid rfl
      cases hbb : blankB c with
      | true =>
        rw [hbb] at hidx
        have hx : 0 ≤ Lib.indexByte [32, 9, 10, 13] c := by simpa using hidx
        have HN := Lib.hid ((blank_next hlt (by rw [HC.out]; exact hbb)).symm.trans hbl.out)
        clear h0 hidx hbb
        go_wp2_with fail
        refine (HP.out wr hr.out).mono ?_
        rintro e w1 ⟨rfl, hr1, hb1⟩
        have HR1 := Lib.hid hr1
        have HB1 := Lib.hid (hb.out.trans hb1)
        clear hr1 hb1
        go_wp2_with fail
        refine (HP.out w1 HR1.out).mono ?_
        rintro e w2 ⟨rfl, hr2, hb2⟩
        have HR2 := Lib.hid hr2
        have HB2 := Lib.hid (HB1.out.trans hb2)
        have hc1 := hr2.c1
        have hf1 := hr2.fz 1
        have HR3 := Lib.hid (hr2.at (q + 1) (by omega))
        have HB3 := Lib.hid (HB2.out.trans (But.setCell w2 g 1 (.int .i64 ((q + 1 : Nat) : Int))))
        clear hr2 hb2
        go_wp2_with fail
        refine (Try.strings_IndexByte ⟨#[32, 9, 10, 13]⟩ ((c.toNat : Nat) : Int) w2).mono ?_
        rintro e w3 ⟨rfl, rfl⟩
        rw [byte_arg, show (⟨#[32, 9, 10, 13]⟩ : ByteArray).data.toList = [32, 9, 10, 13] from rfl]
        generalize Lib.indexByte [32, 9, 10, 13] c = ix at *
        have dx : decide (0 ≤ ix) = true := decide_eq_true hx
        go_wp2_with fail
        go_roundg (gk - 1)
        case measure => omega
        case rel => exact ⟨q + 1, by omega, by omega, HN, HR3, HB3⟩
      | false =>
        rw [hbb] at hidx
        have hx : ¬ 0 ≤ Lib.indexByte [32, 9, 10, 13] c := by simpa using hidx
        have HE := Lib.hid ((blank_here (by rw [HC.out]; exact hbb)).symm.trans hbl.out)
        clear h0 hidx hbb
        go_wp2_with fail
        refine (HP.out wr hr.out).mono ?_
        rintro e w1 ⟨rfl, hr1, hb1⟩
        have HR1 := Lib.hid hr1
        have HB1 := Lib.hid (hb.out.trans hb1)
        clear hr1 hb1
        go_wp2_with fail
        refine (HP.out w1 HR1.out).mono ?_
        rintro e w2 ⟨rfl, hr2, hb2⟩
        have HR2 := Lib.hid hr2
        have HB2 := Lib.hid (HB1.out.trans hb2)
        clear hr2 hb2
        go_wp2_with fail
        refine (Try.strings_IndexByte ⟨#[32, 9, 10, 13]⟩ ((c.toNat : Nat) : Int) w2).mono ?_
        rintro e w3 ⟨rfl, rfl⟩
        rw [byte_arg, show (⟨#[32, 9, 10, 13]⟩ : ByteArray).data.toList = [32, 9, 10, 13] from rfl]
        generalize Lib.indexByte [32, 9, 10, 13] c = ix at *
        have dx : decide (0 ≤ ix) = false := decide_eq_false (by omega)
        go_wp2_with fail
        go_end0
        exact ⟨rfl, q, HE.out, hpq, HR2.out, HB2.out⟩
/-- How a reader's call without a result ends. -/
def UnitRes (g : Nat) (S : List UInt8) (d o : Nat) (res : PR Unit) (w : World) (e : Ending) (w' : World) : Prop :=
  But g w w' ∧ ((∃ q, res = .ok () (S.drop q) ∧ e = .returned (.tuple #[]) ∧ Rdr w' g S q d o) ∨ ∃ n a, res = .bad n ∧ e = .panicked (thrown n a))
theorem must_ok {S : List UInt8} {p : Nat} {c : UInt8} (hc : peekL (S.drop p) = c) (h0 : c ≠ 0) : mustL c (S.drop p) = .ok () (S.drop (p + 1)) := by
  unfold mustL
  rw [if_pos ((head_peek h0).2 hc), List.tail_drop]
theorem must_bad {S : List UInt8} {p : Nat} {c : UInt8} (hc : peekL (S.drop p) ≠ c) (h0 : c ≠ 0) : mustL c (S.drop p) = .bad 31 := by
  unfold mustL
  rw [if_neg (fun e => hc ((head_peek h0).1 e))]
theorem jmust_any (g : Nat) (S : List UInt8) (p d o : Nat) (c : UInt8) (C : Int) (w : World) (h : Rdr w g S p d o) (hl : S.length ≤ 1000000) (h0 : c ≠ 0) (hC : C = (c.toNat : Int)) :
    Calls Try.prog 78 #[.pointer (some ⟨g, 0, none⟩), .int .u8 C] w fun e w' => UnitRes g S d o (mustL c (S.drop p)) w e w' := by
  by_cases hc : peekL (S.drop p) = c
  · refine (jmust_hit_any g S p d o c C w h hl hc h0 hC).mono ?_
    rintro e w' ⟨rfl, hr, hb⟩
    exact ⟨hb, .inl ⟨p + 1, must_ok hc h0, rfl, hr⟩⟩
  · refine (jmust_miss_any g S p d o c C w h hl hc hC).mono ?_
    rintro e w' ⟨rfl, hb⟩
    exact ⟨hb, .inr ⟨31, p, must_bad hc h0, rfl⟩⟩
theorem word_step {S W : List UInt8} {p j : Nat} (hj : j < W.length) : wordR (W.drop j) (S.drop p) = (mustL W[j] (S.drop p)).bind fun _ r => wordR (W.drop (j + 1)) r := by
  rw [List.drop_eq_getElem_cons hj]
  rfl
set_option maxRecDepth 100000 in
set_option maxHeartbeats 4000000 in
theorem jword_any (g : Nat) (S W : List UInt8) (p d o : Nat) (w : World) (h : Rdr w g S p d o) (hl : S.length ≤ 1000000) (hW : W.length ≤ 100) (hne : ∀ c ∈ W, c ≠ 0) :
    Calls Try.prog 56 #[.pointer (some ⟨g, 0, none⟩), .string ⟨W.toArray⟩] w fun e w' => UnitRes g S d o (wordR W (S.drop p)) w e w' := by
  have HR0 := Lib.hid h
  have HNE := Lib.hid hne
  clear h hne
  go_enter Try.func56, Try.ntmps56
  go_wp2_with fail
  go_loopg [7] (W.length) (fun k iv wr => ∃ j q : Nat, j + k = W.length ∧ iv = .int .i64 (j : Int) ∧ Hid (wordR W (S.drop p) = wordR (W.drop j) (S.drop q)) ∧ Hid (Rdr wr g S q d o) ∧ Hid (But g w wr))
  case atStart => exact ⟨0, p, by omega, rfl, Lib.hid rfl, HR0, Lib.hid (But.refl g w)⟩
  case round =>
    obtain ⟨j, q, hj, rfl, hw, hr, hb⟩ := hrel
    by_cases hlt : j < W.length
    · obtain ⟨c, hc⟩ : ∃ c, W[j]'hlt = c := ⟨_, rfl⟩
      have hix : ∀ w, (Instr.index 9 (.string ⟨W.toArray⟩) (.int .i64 (j : Int))).run Try.prog w = .ok (.int .u8 (c.toNat : Nat)) w := by
        rw [← hc]
        exact str_at W j hlt
      have hst := word_step (S := S) (p := q) hlt
      rw [hc] at hst
      have HM := Lib.hid (jmust_any g S q d o c ((c.toNat : Nat) : Int) wr hr.out hl (by rw [← hc]; exact HNE.out _ (List.getElem_mem _)) rfl)
      have HW := Lib.hid (hw.out.trans hst)
      clear hc hst
      go_wp2_with fail
      refine HM.out.mono ?_
      rintro e w1 ⟨hb1, hres⟩
      have HB1 := Lib.hid (hb.out.trans hb1)
      rcases hres with ⟨q', hm, rfl, hr1⟩ | ⟨n, a, hm, rfl⟩
      · have HR1 := Lib.hid hr1
        have HN := Lib.hid (show wordR W (S.drop p) = wordR (W.drop (j + 1)) (S.drop q') by rw [HW.out, hm]; rfl)
        clear hm hr1 hb1
        go_wp2_with fail
        go_roundg (gk - 1)
        case measure => omega
        case rel => exact ⟨j + 1, q', by omega, by go_num, HN, HR1, HB1⟩
      · have HN := Lib.hid (show wordR W (S.drop p) = .bad n by rw [HW.out, hm]; rfl)
        clear hm hb1
        go_wp2_with fail
        exact ⟨rfl, HB1.out, .inr ⟨n, a, HN.out, rfl⟩⟩
    · obtain rfl : j = W.length := by omega
      have HE := Lib.hid (show wordR W (S.drop p) = .ok () (S.drop q) by rw [hw.out]; simp [wordR])
      go_wp2_with fail
      go_end0
      exact ⟨hb.out, .inl ⟨q, HE.out, rfl, hr.out⟩⟩
theorem dig_next {S : List UInt8} {q : Nat} (h : q < S.length) (hb : digB (peekL (S.drop q)) = true) : (S.drop q).dropWhile digB = (S.drop (q + 1)).dropWhile digB := by
  rw [peek_drop S q h] at hb
  rw [drop_cons h, List.dropWhile_cons, if_pos hb]
theorem dig_here {S : List UInt8} {q : Nat} (hb : digB (peekL (S.drop q)) = false) : (S.drop q).dropWhile digB = S.drop q := by
  cases hs : S.drop q with
  | nil => rfl
  | cons c r =>
    rw [hs] at hb
    have hb' : digB c = false := hb
    rw [List.dropWhile_cons, if_neg (by simp [hb'])]
set_option maxRecDepth 100000 in
set_option maxHeartbeats 4000000 in
theorem jdigits_any (g : Nat) (S : List UInt8) (p d o : Nat) (w : World) (h : Rdr w g S p d o) (hl : S.length ≤ 1000000) :
    Calls Try.prog 47 #[.pointer (some ⟨g, 0, none⟩)] w fun e w' => UnitRes g S d o (digitsL (S.drop p)) w e w' := by
  obtain ⟨c, hc⟩ : ∃ c, peekL (S.drop p) = c := ⟨_, rfl⟩
  have HP := Lib.hid (jpeek_any g S p d o c w h hl hc)
  have hle := h.le
  cases hd : digB c with
  | false =>
    have HE := Lib.hid (show digitsL (S.drop p) = .bad 31 by unfold digitsL; rw [hc, hd]; rfl)
    have HD := Lib.hid hd
    clear h hc hd
    go_enter Try.func47, Try.ntmps47
    go_wp2_with fail
    refine HP.out.mono ?_
    rintro e w1 ⟨rfl, hr1, hb1⟩
    have HR1 := Lib.hid hr1
    have HB1 := Lib.hid hb1
    clear hr1 hb1
    go_wp2_with fail
    refine (jdigit_any c false w1 HD.out).mono ?_
    rintro e w2 ⟨rfl, rfl⟩
    go_wp2_with fail
    refine (jstop_any g S p d o w2 HR1.out).mono ?_
    rintro e w3 ⟨rfl, rfl⟩
    go_wp2_with fail
    exact ⟨rfl, HB1.out, .inr ⟨31, p, HE.out, rfl⟩⟩
  | true =>
    have HE := Lib.hid (show digitsL (S.drop p) = .ok () ((S.drop p).dropWhile digB) by unfold digitsL; rw [hc, hd]; rfl)
    have HD := Lib.hid hd
    clear h hc hd
    go_enter Try.func47, Try.ntmps47
    go_wp2_with fail
    refine HP.out.mono ?_
    rintro e w1 ⟨rfl, hr1, hb1⟩
    have HR1 := Lib.hid hr1
    have HB1 := Lib.hid hb1
    clear hr1 hb1
    go_wp2_with fail
    refine (jdigit_any c true w1 HD.out).mono ?_
    rintro e w2 ⟨rfl, rfl⟩
    go_wp2_with fail
    go_loopg [] (S.length + 1 - p) (fun k wr => ∃ q : Nat, q + k = S.length + 1 ∧ Hid ((S.drop q).dropWhile digB = (S.drop p).dropWhile digB) ∧ Hid (Rdr wr g S q d o) ∧ Hid (But g w wr))
    case atStart => exact ⟨p, by omega, Lib.hid rfl, HR1, HB1⟩
    case round =>
      obtain ⟨q, hq, hbl, hr, hb⟩ := hrel
      obtain ⟨b, hbd⟩ : ∃ c, peekL (S.drop q) = c := ⟨_, rfl⟩
      have HP2 := Lib.hid (jpeek_any g S q d o b wr hr.out hl hbd)
      cases hd : digB b with
      | false =>
        have HX := Lib.hid ((dig_here (by rw [hbd]; exact hd)).symm.trans hbl.out)
        have HD2 := Lib.hid hd
        clear hbd hd
        go_wp2_with fail
        refine HP2.out.mono ?_
        rintro e w3 ⟨rfl, hr3, hb3⟩
        have HR3 := Lib.hid hr3
        have HB3 := Lib.hid (hb.out.trans hb3)
        clear hr3 hb3
        go_wp2_with fail
        refine (jdigit_any b false w3 HD2.out).mono ?_
        rintro e w4 ⟨rfl, rfl⟩
        go_wp2_with fail
        go_end0
        exact ⟨HB3.out, .inl ⟨q, by rw [HE.out, HX.out], rfl, HR3.out⟩⟩
      | true =>
        have hlt : q < S.length := peek_lt hr.out.le (by rw [hbd]; rintro rfl; exact absurd hd (by decide))
        have HX := Lib.hid ((dig_next hlt (by rw [hbd]; exact hd)).symm.trans hbl.out)
        have HD2 := Lib.hid hd
        clear hbd hd
        go_wp2_with fail
        refine HP2.out.mono ?_
        rintro e w3 ⟨rfl, hr3, hb3⟩
        have HR3 := Lib.hid hr3
        have HB3 := Lib.hid (hb.out.trans hb3)
        clear hr3 hb3
        go_wp2_with fail
        refine (jdigit_any b true w3 HD2.out).mono ?_
        rintro e w4 ⟨rfl, rfl⟩
        have hc1 := HR3.out.c1
        have hf1 := HR3.out.fz 1
        have HR4 := Lib.hid (HR3.out.at (q + 1) (by omega))
        have HB4 := Lib.hid (HB3.out.trans (But.setCell w4 g 1 (.int .i64 ((q + 1 : Nat) : Int))))
        go_wp2_with fail
        go_roundg (gk - 1)
        case measure => omega
        case rel => exact ⟨q + 1, by omega, HX, HR4, HB4⟩
end Go.Proofs.Ytfcokdkbjajohaa
/- json's reader: hexadecimal digits. -/
set_option linter.unusedVariables false
namespace Go.Proofs.Ytfcokdkbjajohaa
open Go.RowKit

theorem wraps_i32 (n : Int) (h0 : 0 ≤ n) (h1 : n < 2 ^ 31) : IntKind.i32.wrap n = n := by rw [IntKind.wrap_i32]; omega
theorem i32_or16 (n d : Nat) (hn : n < 4096) (hd : d < 16) : bits .or .i32 ((n : Int) * 16) (d : Int) = ((n * 16 + d : Nat) : Int) := by
  have h := (bits_nat .i32 31 (by decide) wraps_i32 (n * 16) d (by omega) (by omega)).2
  have e : n * 16 + d = n * 16 ||| d := by
    have := Nat.shiftLeft_add_eq_or_of_lt (show d < 2 ^ 4 by omega) n
    rw [Nat.shiftLeft_eq] at this
    exact this
  rw [← e] at h
  rw [← h]
  congr 1
def upC (c : UInt8) : Bool := decide (65 ≤ c.toNat) && decide (c.toNat ≤ 70)
def lowC (c : UInt8) : UInt8 := if upC c then c + 32 else c
def hexDig : List UInt8 := [48, 49, 50, 51, 52, 53, 54, 55, 56, 57, 97, 98, 99, 100, 101, 102]
theorem hex_idx (c : UInt8) : hexV c = if Lib.indexByte hexDig (lowC c) < 0 then none else some (Lib.indexByte hexDig (lowC c)).toNat :=
  u8_every (fun c => hexV c = if Lib.indexByte hexDig (lowC c) < 0 then none else some (Lib.indexByte hexDig (lowC c)).toNat) (by decide +kernel) c
theorem up_toNat (c : UInt8) (h : upC c = true) : (lowC c).toNat = c.toNat + 32 := by
  have := u8_every (fun c => upC c = false ∨ (lowC c).toNat = c.toNat + 32) (by decide +kernel) c
  rcases this with h' | h'
  · rw [h] at h'; cases h'
  · exact h'
theorem hexV_lt {c : UInt8} {d : Nat} (h : hexV c = some d) : d < 16 := by
  have := u8_every (fun c => ((hexV c).getD 0 < 16)) (by decide +kernel) c
  rw [h] at this
  exact this
theorem hex_head (S : List UInt8) (q k n : Nat) (hle : q ≤ S.length) : hexN (k + 1) n (S.drop q) = match hexV (peekL (S.drop q)) with | none => .bad 31 | some d => hexN k (n * 16 + d) (S.drop (q + 1)) := by
  rcases Nat.lt_or_ge q S.length with h | h
  · rw [peek_drop S q h, drop_cons h]
    rfl
  · obtain rfl : q = S.length := by omega
    rw [peek_end]
    simp [hexN, hexV]
/-- How a reader's call with a number ends. -/
def IntRes (g : Nat) (S : List UInt8) (d o : Nat) (res : PR Nat) (w : World) (e : Ending) (w' : World) : Prop :=
  But g w w' ∧ ((∃ n q, res = .ok n (S.drop q) ∧ e = .returned (.int .i32 (n : Int)) ∧ Rdr w' g S q d o) ∨ ∃ n a, res = .bad n ∧ e = .panicked (thrown n a))
set_option maxRecDepth 100000 in
set_option maxHeartbeats 8000000 in
theorem jhex_any (g : Nat) (S : List UInt8) (p d o : Nat) (w : World) (h : Rdr w g S p d o) (hl : S.length ≤ 1000000) :
    Calls Try.prog 96 #[.pointer (some ⟨g, 0, none⟩)] w fun e w' => IntRes g S d o (hexR (S.drop p)) w e w' := by
  have HR0 := Lib.hid h
  clear h
  go_enter Try.func96, Try.ntmps96
  go_wp2_with fail
  go_loopg [3, 6] (4) (fun k nv iv wr => ∃ j n q : Nat, j + k = 4 ∧ n < 16 ^ j ∧ iv = .int .i64 (j : Int) ∧ nv = .int .i32 (n : Int) ∧ Hid (hexR (S.drop p) = hexN k n (S.drop q)) ∧ Hid (Rdr wr g S q d o) ∧ Hid (But g w wr))
  case atStart => exact ⟨0, 0, p, by omega, by decide, rfl, rfl, Lib.hid rfl, HR0, Lib.hid (But.refl g w)⟩
  case round =>
    obtain ⟨j, n, q, hj, hn, rfl, rfl, hh, hr, hb⟩ := hrel
    by_cases hj4 : j < 4
    · obtain ⟨k', rfl⟩ : ∃ k', gk = k' + 1 := ⟨gk - 1, by omega⟩
      have hn3 : n < 4096 := Nat.lt_of_lt_of_le hn (show 16 ^ j ≤ 16 ^ 3 from Nat.pow_le_pow_right (by decide) (by omega))
      have hn4 : n * 16 + 15 < 16 ^ (j + 1) := by rw [Nat.pow_succ]; omega
      have hjI : ((j : Nat) : Int) < 4 := by omega
      obtain ⟨c, hc⟩ : ∃ c, peekL (S.drop q) = c := ⟨_, rfl⟩
      have HP := Lib.hid (jpeek_any g S q d o c wr hr.out hl hc)
      have hhd := hex_head S q k' n hr.out.le
      rw [hc] at hhd
      have HH := Lib.hid (hh.out.trans hhd)
      have HXI := Lib.hid (hex_idx c)
      have HLT := Lib.hid (show c.toNat ≠ 0 → q < S.length from fun h => peek_lt hr.out.le (by rw [hc]; intro e; exact h (by rw [e]; rfl)))
      clear hhd hc hn
      have htail : ∀ (b : UInt8), lowC c = b → True := fun _ _ => trivial
      cases hu : upC c with
      | true =>
        have hup := up_toNat c hu
        have hu' := hu
        simp only [upC, Bool.and_eq_true, decide_eq_true_eq] at hu'
        have u1 : decide ((65 : Int) ≤ ((c.toNat : Nat) : Int)) = true := decide_eq_true (by omega)
        have u2 : decide (((c.toNat : Nat) : Int) ≤ 70) = true := decide_eq_true (by omega)
        obtain ⟨b, hbd⟩ : ∃ b, lowC c = b := ⟨_, rfl⟩
        rw [hbd] at hup HXI
        have hadd : IntKind.u8.wrap (((c.toNat : Nat) : Int) + 32) = ((b.toNat : Nat) : Int) := by
          rw [IntKind.wrap_u8]
          omega
        have hc1 : ((c.toNat : Nat) : Int) ≤ 70 := by omega
        clear hup hu hbd htail
        go_wp2_with fail
        refine HP.out.mono ?_
        rintro e w1 ⟨rfl, hr1, hb1⟩
        have HR1 := Lib.hid hr1
        have HB1 := Lib.hid (hb.out.trans hb1)
        clear hr1 hb1 HP
        go_wp2_with fail
        refine (Try.strings_IndexByte ⟨#[48, 49, 50, 51, 52, 53, 54, 55, 56, 57, 97, 98, 99, 100, 101, 102]⟩ ((b.toNat : Nat) : Int) w1).mono ?_
        rintro e w2 ⟨rfl, rfl⟩
        rw [byte_arg, show (⟨#[48, 49, 50, 51, 52, 53, 54, 55, 56, 57, 97, 98, 99, 100, 101, 102]⟩ : ByteArray).data.toList = hexDig from rfl]
        obtain ⟨ix, hix⟩ : ∃ ix, Lib.indexByte hexDig b = ix := ⟨_, rfl⟩
        rw [hix] at HXI ⊢
        clear hix
        by_cases hneg : ix < 0
        · have HE := Lib.hid (show hexR (S.drop p) = .bad 31 by rw [HH.out, HXI.out, if_pos hneg])
          clear HXI HH
          go_wp2_with fail
          refine (jstop_any g S q d o w2 HR1.out).mono ?_
          rintro e w3 ⟨rfl, rfl⟩
          go_wp2_with fail
          exact ⟨rfl, HB1.out, .inr ⟨31, q, HE.out, rfl⟩⟩
        · obtain ⟨dd, rfl⟩ : ∃ dd : Nat, ix = (dd : Int) := ⟨ix.toNat, by omega⟩
          have hxv : hexV c = some dd := by rw [HXI.out, if_neg hneg]; simp
          have hd16 := hexV_lt hxv
          have hlt : q < S.length := HLT.out (by intro e0; have e1 : c = 0 := UInt8.toNat_inj.1 e0; rw [e1] at hxv; simp [hexV] at hxv)
          have HE := Lib.hid (show hexR (S.drop p) = hexN k' (n * 16 + dd) (S.drop (q + 1)) by rw [HH.out, hxv])
          have hq1 := HR1.out.c1
          have hf1 := HR1.out.fz 1
          have HR3 := Lib.hid (HR1.out.at (q + 1) (by omega))
          have HB3 := Lib.hid (HB1.out.trans (But.setCell w2 g 1 (.int .i64 ((q + 1 : Nat) : Int))))
          have hor := i32_or16 n dd hn3 hd16
          clear hxv HXI HH HLT hneg
          go_wp2_with fail
          go_roundg k'
          case measure => omega
          case rel => exact ⟨j + 1, n * 16 + dd, q + 1, by omega, by omega, by go_num, by first | rfl | simp, HE, HR3, HB3⟩
      | false =>
        have hup : lowC c = c := by unfold lowC; rw [hu]; rfl
        rw [hup] at HXI
        have hu' := hu
        simp only [upC, Bool.and_eq_false_iff, decide_eq_false_iff_not] at hu'
        clear hup hu htail
        by_cases u65 : 65 ≤ c.toNat
        · have u1 : decide ((65 : Int) ≤ ((c.toNat : Nat) : Int)) = true := decide_eq_true (by omega)
          have u2 : decide (((c.toNat : Nat) : Int) ≤ 70) = false := decide_eq_false (by omega)
          clear hu'
          go_wp2_with fail
          refine HP.out.mono ?_
          rintro e w1 ⟨rfl, hr1, hb1⟩
          have HR1 := Lib.hid hr1
          have HB1 := Lib.hid (hb.out.trans hb1)
          clear hr1 hb1 HP
          go_wp2_with fail
          refine (Try.strings_IndexByte ⟨#[48, 49, 50, 51, 52, 53, 54, 55, 56, 57, 97, 98, 99, 100, 101, 102]⟩ ((c.toNat : Nat) : Int) w1).mono ?_
          rintro e w2 ⟨rfl, rfl⟩
          rw [byte_arg, show (⟨#[48, 49, 50, 51, 52, 53, 54, 55, 56, 57, 97, 98, 99, 100, 101, 102]⟩ : ByteArray).data.toList = hexDig from rfl]
          obtain ⟨ix, hix⟩ : ∃ ix, Lib.indexByte hexDig c = ix := ⟨_, rfl⟩
          rw [hix] at HXI ⊢
          clear hix
          by_cases hneg : ix < 0
          · have HE := Lib.hid (show hexR (S.drop p) = .bad 31 by rw [HH.out, HXI.out, if_pos hneg])
            clear HXI HH
            go_wp2_with fail
            refine (jstop_any g S q d o w2 HR1.out).mono ?_
            rintro e w3 ⟨rfl, rfl⟩
            go_wp2_with fail
            exact ⟨rfl, HB1.out, .inr ⟨31, q, HE.out, rfl⟩⟩
          · obtain ⟨dd, rfl⟩ : ∃ dd : Nat, ix = (dd : Int) := ⟨ix.toNat, by omega⟩
            have hxv : hexV c = some dd := by rw [HXI.out, if_neg hneg]; simp
            have hd16 := hexV_lt hxv
            have hlt : q < S.length := HLT.out (by intro e0; have e1 : c = 0 := UInt8.toNat_inj.1 e0; rw [e1] at hxv; simp [hexV] at hxv)
            have HE := Lib.hid (show hexR (S.drop p) = hexN k' (n * 16 + dd) (S.drop (q + 1)) by rw [HH.out, hxv])
            have hq1 := HR1.out.c1
            have hf1 := HR1.out.fz 1
            have HR3 := Lib.hid (HR1.out.at (q + 1) (by omega))
            have HB3 := Lib.hid (HB1.out.trans (But.setCell w2 g 1 (.int .i64 ((q + 1 : Nat) : Int))))
            have hor := i32_or16 n dd hn3 hd16
            clear hxv HXI HH HLT hneg
            go_wp2_with fail
            go_roundg k'
            case measure => omega
            case rel => exact ⟨j + 1, n * 16 + dd, q + 1, by omega, by omega, by go_num, by first | rfl | simp, HE, HR3, HB3⟩
        · have u1 : decide ((65 : Int) ≤ ((c.toNat : Nat) : Int)) = false := decide_eq_false (by omega)
          clear hu'
          go_wp2_with fail
          refine HP.out.mono ?_
          rintro e w1 ⟨rfl, hr1, hb1⟩
          have HR1 := Lib.hid hr1
          have HB1 := Lib.hid (hb.out.trans hb1)
          clear hr1 hb1 HP
          go_wp2_with fail
          refine (Try.strings_IndexByte ⟨#[48, 49, 50, 51, 52, 53, 54, 55, 56, 57, 97, 98, 99, 100, 101, 102]⟩ ((c.toNat : Nat) : Int) w1).mono ?_
          rintro e w2 ⟨rfl, rfl⟩
          rw [byte_arg, show (⟨#[48, 49, 50, 51, 52, 53, 54, 55, 56, 57, 97, 98, 99, 100, 101, 102]⟩ : ByteArray).data.toList = hexDig from rfl]
          obtain ⟨ix, hix⟩ : ∃ ix, Lib.indexByte hexDig c = ix := ⟨_, rfl⟩
          rw [hix] at HXI ⊢
          clear hix
          by_cases hneg : ix < 0
          · have HE := Lib.hid (show hexR (S.drop p) = .bad 31 by rw [HH.out, HXI.out, if_pos hneg])
            clear HXI HH
            go_wp2_with fail
            refine (jstop_any g S q d o w2 HR1.out).mono ?_
            rintro e w3 ⟨rfl, rfl⟩
            go_wp2_with fail
            exact ⟨rfl, HB1.out, .inr ⟨31, q, HE.out, rfl⟩⟩
          · obtain ⟨dd, rfl⟩ : ∃ dd : Nat, ix = (dd : Int) := ⟨ix.toNat, by omega⟩
            have hxv : hexV c = some dd := by rw [HXI.out, if_neg hneg]; simp
            have hd16 := hexV_lt hxv
            have hlt : q < S.length := HLT.out (by intro e0; have e1 : c = 0 := UInt8.toNat_inj.1 e0; rw [e1] at hxv; simp [hexV] at hxv)
            have HE := Lib.hid (show hexR (S.drop p) = hexN k' (n * 16 + dd) (S.drop (q + 1)) by rw [HH.out, hxv])
            have hq1 := HR1.out.c1
            have hf1 := HR1.out.fz 1
            have HR3 := Lib.hid (HR1.out.at (q + 1) (by omega))
            have HB3 := Lib.hid (HB1.out.trans (But.setCell w2 g 1 (.int .i64 ((q + 1 : Nat) : Int))))
            have hor := i32_or16 n dd hn3 hd16
            clear hxv HXI HH HLT hneg
            go_wp2_with fail
            go_roundg k'
            case measure => omega
            case rel => exact ⟨j + 1, n * 16 + dd, q + 1, by omega, by omega, by go_num, by first | rfl | simp, HE, HR3, HB3⟩
    · obtain rfl : j = 4 := by omega
      obtain rfl : gk = 0 := by omega
      have HE := Lib.hid (show hexR (S.drop p) = .ok n (S.drop q) from hh.out)
      go_wp2_with fail
      go_ret
      exact ⟨hb.out, .inl ⟨n, q, HE.out, rfl, hr.out⟩⟩
end Go.Proofs.Ytfcokdkbjajohaa
/- json's reader: characters of a number. -/
set_option linter.unusedVariables false
namespace Go.Proofs.Ytfcokdkbjajohaa
open Go.RowKit

theorem hexN_lt : ∀ (k n : Nat) (r : List UInt8) (m : Nat) (r' : List UInt8), hexN k n r = .ok m r' → m < (n + 1) * 16 ^ k
  | 0, n, r, m, r', h => by
    simp only [hexN, PR.ok.injEq] at h
    omega
  | k + 1, n, [], m, r', h => by simp [hexN] at h
  | k + 1, n, c :: r, m, r', h => by
    simp only [hexN] at h
    cases hd : hexV c with
    | none => rw [hd] at h; cases h
    | some d =>
      rw [hd] at h
      have h1 := hexN_lt k (n * 16 + d) r m r' h
      have h2 := hexV_lt hd
      refine Nat.lt_of_lt_of_le h1 ?_
      rw [Nat.pow_succ, Nat.mul_comm (16 ^ k) 16, ← Nat.mul_assoc]
      exact Nat.mul_le_mul_right _ (by omega)
theorem hexR_lt {r : List UInt8} {m : Nat} {r' : List UInt8} (h : hexR r = .ok m r') : m < 65536 := by
  have := hexN_lt 4 0 r m r' h
  omega
def unit2 (a : Nat) (r : List UInt8) : PR Nat := match r with
  | 92 :: 117 :: r => (hexR r).bind fun b r => if b < 56320 ∨ 57344 ≤ b then .bad 31 else .ok (65536 + (a - 55296) * 1024 + (b - 56320)) r
  | _ => .bad 31
theorem unitR_eq (r : List UInt8) : unitR r = (hexR r).bind fun a r => if a < 55296 ∨ 57344 ≤ a then .ok a r else if 56320 ≤ a then .bad 31 else unit2 a r := rfl
theorem unit2_no {a : Nat} {r : List UInt8} (h : Lib.hasPrefix r [92, 117] = false) : unit2 a r = .bad 31 := by
  unfold unit2
  split
  · simp [Lib.hasPrefix] at h
  · rfl
theorem unit2_yes {S : List UInt8} {a q : Nat} (h : Lib.hasPrefix (S.drop q) [92, 117] = true) : q + 2 ≤ S.length ∧ unit2 a (S.drop q) = (hexR (S.drop (q + 2))).bind fun b r => if b < 56320 ∨ 57344 ≤ b then .bad 31 else .ok (65536 + (a - 55296) * 1024 + (b - 56320)) r := by
  have hp : ∃ r, S.drop q = 92 :: 117 :: r := by
    unfold Lib.hasPrefix at h
    cases hs : S.drop q with
    | nil => rw [hs] at h; simp at h
    | cons x r =>
      cases r with
      | nil => rw [hs] at h; simp at h
      | cons y r =>
        rw [hs] at h
        simp at h
        exact ⟨r, by rw [← h.1, ← h.2]⟩
  obtain ⟨r, hr⟩ := hp
  have hl := congrArg List.length hr
  simp only [List.length_drop, List.length_cons] at hl
  have h2 : S.drop (q + 2) = r := by rw [← List.drop_drop, hr]; rfl
  refine ⟨by omega, ?_⟩
  rw [hr, h2]
  rfl
set_option maxRecDepth 100000 in
set_option maxHeartbeats 8000000 in
theorem junit_any (g : Nat) (S : List UInt8) (p d o : Nat) (F : Int) (w : World) (h : Rdr w g S p d o) (hl : S.length ≤ 1000000) :
    Calls Try.prog 93 #[.pointer (some ⟨g, 0, none⟩), .int .i64 F] w fun e w' => IntRes g S d o (unitR (S.drop p)) w e w' := by
  have HX := Lib.hid (jhex_any g S p d o w h hl)
  have HU := Lib.hid (unitR_eq (S.drop p))
  clear h
  go_enter Try.func93, Try.ntmps93
  go_wp2_with fail
  refine HX.out.mono ?_
  rintro e w1 ⟨hb1, hres⟩
  have HB1 := Lib.hid hb1
  rcases hres with ⟨a, q, ha, rfl, hr1⟩ | ⟨n, x, ha, rfl⟩
  · have HR1 := Lib.hid hr1
    have ha16 := hexR_lt ha
    have hu := HU.out
    rw [ha, PR.bind_ok] at hu
    have HU1 := Lib.hid hu
    clear hu ha hr1 hb1 HU HX
    by_cases c1 : a < 55296
    · have d1 : decide (((a : Nat) : Int) < 55296) = true := decide_eq_true (by omega)
      have HE := Lib.hid (show unitR (S.drop p) = .ok a (S.drop q) by rw [HU1.out, if_pos (.inl c1)])
      go_wp2_with fail
      go_ret
      exact ⟨HB1.out, .inl ⟨a, q, HE.out, rfl, HR1.out⟩⟩
    have d1 : decide (((a : Nat) : Int) < 55296) = false := decide_eq_false (by omega)
    by_cases c2 : 57344 ≤ a
    · have d2 : decide ((57344 : Int) ≤ ((a : Nat) : Int)) = true := decide_eq_true (by omega)
      have HE := Lib.hid (show unitR (S.drop p) = .ok a (S.drop q) by rw [HU1.out, if_pos (.inr c2)])
      go_wp2_with fail
      go_ret
      exact ⟨HB1.out, .inl ⟨a, q, HE.out, rfl, HR1.out⟩⟩
    have d2 : decide ((57344 : Int) ≤ ((a : Nat) : Int)) = false := decide_eq_false (by omega)
    by_cases c3 : 56320 ≤ a
    · have d3 : decide ((56320 : Int) ≤ ((a : Nat) : Int)) = true := decide_eq_true (by omega)
      have HE := Lib.hid (show unitR (S.drop p) = .bad 31 by rw [HU1.out, if_neg (by omega), if_pos c3])
      go_wp2_with fail
      refine (jfail_any g 31 F w1).mono ?_
      rintro e w2 ⟨rfl, rfl⟩
      go_wp2_with fail
      exact ⟨rfl, HB1.out, .inr ⟨31, F, HE.out, rfl⟩⟩
    have d3 : decide ((56320 : Int) ≤ ((a : Nat) : Int)) = false := decide_eq_false (by omega)
    have HV := Lib.hid (show unitR (S.drop p) = unit2 a (S.drop q) by rw [HU1.out, if_neg (by omega), if_neg c3])
    have hq0 := HR1.out.c0
    have hq1 := HR1.out.c1
    have hqle := HR1.out.le
    have hst : ∀ w, (Instr.slice 9 (.string ⟨S.toArray⟩) (some (.int .i64 (q : Int))) none none).run Try.prog w = .ok (.string ⟨(S.drop q).toArray⟩) w := str_tail S q hqle q rfl
    have hhp : ∀ w, Calls Try.prog 97 #[.string ⟨(S.drop q).toArray⟩, .string ⟨#[92, 117]⟩] w fun e w' => e = .returned (.bool (Lib.hasPrefix (S.drop q) [92, 117])) ∧ w' = w := fun w => Try.strings_HasPrefix ⟨(S.drop q).toArray⟩ ⟨#[92, 117]⟩ w
    obtain ⟨bp, hpf⟩ : ∃ b, Lib.hasPrefix (S.drop q) [92, 117] = b := ⟨_, rfl⟩
    rw [hpf] at hhp
    have HHP := Lib.hid hhp
    have HPF := Lib.hid hpf
    clear hhp HU1 hpf
    have hqI : ((q : Nat) : Int) ≤ ((S.length : Nat) : Int) := by omega
    go_wp2_with fail
    go_quiet ((go_at_call 97; exact Calls.quiet_of_same (HHP.out _)))
    have HBw := Lib.hid (HB1.out.drewN nq)
    have HRw := Lib.hid (HR1.out.drewN nq)
    generalize w1.drewN nq = w2 at *
    clear hst hq0 hq1 hqI d1 d2 d3
    cases bp with
    | false =>
      have HE := Lib.hid (show unitR (S.drop p) = .bad 31 by rw [HV.out, unit2_no HPF.out])
      clear HPF HHP
      go_wp2_with fail
      refine (jfail_any g 31 F w2).mono ?_
      rintro e w3 ⟨rfl, rfl⟩
      go_wp2_with fail
      exact ⟨rfl, HBw.out, .inr ⟨31, F, HE.out, rfl⟩⟩
    | true =>
      obtain ⟨hq2, hu2⟩ := unit2_yes (a := a) HPF.out
      have HV2 := Lib.hid (HV.out.trans hu2)
      clear HPF HHP hu2 HV
      have hc1 := HRw.out.c1
      have hf1 := HRw.out.fz 1
      have HR3 := Lib.hid (HRw.out.at (q + 2) hq2)
      have HB3 := Lib.hid (HBw.out.trans (But.setCell w2 g 1 (.int .i64 ((q + 2 : Nat) : Int))))
      go_wp2_with fail
      have HX2 := Lib.hid (jhex_any g S (q + 2) d o _ HR3.out hl)
      refine HX2.out.mono ?_
      rintro e w4 ⟨hb4, hres⟩
      have HB4 := Lib.hid (HB3.out.trans hb4)
      clear hc1 hf1
      rcases hres with ⟨b, q', hbb, rfl, hr4⟩ | ⟨n, x, hbb, rfl⟩
      · have HR4 := Lib.hid hr4
        have hb16 := hexR_lt hbb
        have hv := HV2.out
        rw [hbb, PR.bind_ok] at hv
        have HV3 := Lib.hid hv
        clear hv hbb hr4 hb4 HV2 HX2
        by_cases e1 : b < 56320
        · have f1 : decide (((b : Nat) : Int) < 56320) = true := decide_eq_true (by omega)
          have HE := Lib.hid (show unitR (S.drop p) = .bad 31 by rw [HV3.out, if_pos (.inl e1)])
          go_wp2_with fail
          refine (jfail_any g 31 F w4).mono ?_
          rintro e w5 ⟨rfl, rfl⟩
          go_wp2_with fail
          exact ⟨rfl, HB4.out, .inr ⟨31, F, HE.out, rfl⟩⟩
        have f1 : decide (((b : Nat) : Int) < 56320) = false := decide_eq_false (by omega)
        by_cases e2 : 57344 ≤ b
        · have f2 : decide ((57344 : Int) ≤ ((b : Nat) : Int)) = true := decide_eq_true (by omega)
          have HE := Lib.hid (show unitR (S.drop p) = .bad 31 by rw [HV3.out, if_pos (.inr e2)])
          go_wp2_with fail
          refine (jfail_any g 31 F w4).mono ?_
          rintro e w5 ⟨rfl, rfl⟩
          go_wp2_with fail
          exact ⟨rfl, HB4.out, .inr ⟨31, F, HE.out, rfl⟩⟩
        have f2 : decide ((57344 : Int) ≤ ((b : Nat) : Int)) = false := decide_eq_false (by omega)
        have HE := Lib.hid (show unitR (S.drop p) = .ok (65536 + (a - 55296) * 1024 + (b - 56320)) (S.drop q') by rw [HV3.out, if_neg (by omega)])
        have a1 : (55296 : Int) ≤ ((a : Nat) : Int) := by omega
        have a2 : ((a : Nat) : Int) < 56320 := by omega
        have b1 : (56320 : Int) ≤ ((b : Nat) : Int) := by omega
        have b2 : ((b : Nat) : Int) < 57344 := by omega
        go_wp2_with fail
        go_ret
        refine ⟨HB4.out, .inl ⟨_, q', HE.out, ?_, HR4.out⟩⟩
        have e : (65536 : Int) + (((a : Nat) : Int) - 55296) * 1024 + (((b : Nat) : Int) - 56320) = ((65536 + (a - 55296) * 1024 + (b - 56320) : Nat) : Int) := by omega
        rw [← e]
        rfl
      · have HE := Lib.hid (show unitR (S.drop p) = .bad n by rw [HV2.out, hbb]; rfl)
        clear hbb hb4 HV2 HX2
        go_wp2_with fail
        exact ⟨rfl, HB4.out, .inr ⟨n, x, HE.out, rfl⟩⟩
  · have HE := Lib.hid (show unitR (S.drop p) = .bad n by rw [HU.out, ha]; rfl)
    clear ha hb1 HU HX
    go_wp2_with fail
    exact ⟨rfl, HB1.out, .inr ⟨n, x, HE.out, rfl⟩⟩
end Go.Proofs.Ytfcokdkbjajohaa
/- JSON: a value's text is read as the value. Plain. -/
set_option linter.unusedVariables false
namespace Go.Proofs.Ytfcokdkbjajohaa

theorem u8_all (P : UInt8 → Prop) (h : ∀ n : Fin 256, P (UInt8.ofNat n.1)) (c : UInt8) : P c := by
  have := h ⟨c.toNat, UInt8.toNat_lt c⟩
  simpa only [UInt8.ofNat_toNat] using this
/-- What may follow a number. -/
def numEnd (r : List UInt8) : Prop := ∀ c, r.head? = some c → digB c = false ∧ c ≠ 46 ∧ c ≠ 101 ∧ c ≠ 69
theorem numEnd_nil : numEnd [] := by intro c h; simp at h
theorem numEnd_cons {c : UInt8} {r : List UInt8} (h : digB c = false ∧ c ≠ 46 ∧ c ≠ 101 ∧ c ≠ 69) : numEnd (c :: r) := by
  intro d hd
  simp only [List.head?_cons, Option.some.injEq] at hd
  subst hd
  exact h
theorem dropWhile_app {p : UInt8 → Bool} : ∀ (t r : List UInt8), (∀ c, r.head? = some c → p c = false) → (t ++ r).dropWhile p = t.dropWhile p ++ r
  | [], r, h => by
    cases r with
    | nil => rfl
    | cons c r => simp [h c rfl]
  | b :: t, r, h => by
    simp only [List.cons_append, List.dropWhile_cons]
    split
    · exact dropWhile_app t r h
    · rfl
theorem digits_ext {t t' r : List UInt8} (h : digitsL t = .ok () t') (hr : numEnd r) : digitsL (t ++ r) = .ok () (t' ++ r) := by
  unfold digitsL at h ⊢
  cases t with
  | nil => rw [if_neg (show ¬ digB (peekL []) = true by decide)] at h; cases h
  | cons b t =>
    have e : peekL (b :: t ++ r) = peekL (b :: t) := rfl
    rw [e]
    split at h
    · rename_i hd
      rw [if_pos hd, dropWhile_app _ _ (fun c hc => (hr c hc).1)]
      simp only [PR.ok.injEq, true_and] at h
      rw [h]
    · cases h
theorem head_app {t r : List UInt8} (h : t ≠ []) : (t ++ r).head? = t.head? ∧ (t ++ r).tail = t.tail ++ r := by
  cases t with
  | nil => exact absurd rfl h
  | cons b t => exact ⟨rfl, rfl⟩
theorem digits_ne {t t' : List UInt8} (h : digitsL t = .ok () t') : t ≠ [] := by
  rintro rfl
  unfold digitsL at h
  rw [if_neg (show ¬ digB (peekL []) = true by decide)] at h
  cases h
theorem skip_ext {c : UInt8} {t r : List UInt8} (h : t ≠ []) : skipL c (t ++ r) = skipL c t ++ r := by
  unfold skipL
  rw [(head_app h).1, (head_app h).2]
  split <;> rfl
theorem tail_ext {t t' r : List UInt8} (h : numTail t = .ok () t') (hr : numEnd r) : numTail (t ++ r) = .ok () (t' ++ r) := by
  by_cases ht : t = []
  · subst ht
    simp [numTail] at h
    subst h
    have hr' := hr
    unfold numTail
    rw [if_neg (show ¬ ((([] : List UInt8) ++ r).head? = some 101 ∨ (([] : List UInt8) ++ r).head? = some 69) from ?_)]
    rintro (e | e)
    · exact (hr _ e).2.2.1 rfl
    · exact (hr _ e).2.2.2 rfl
  · unfold numTail at h ⊢
    rw [(head_app ht).1, (head_app ht).2]
    split at h
    · rename_i he
      rw [if_pos he]
      have hne : t.tail ≠ [] := by
        intro e
        rw [e] at h
        simp [skipL] at h
        exact digits_ne h rfl
      rw [(head_app hne).1, (head_app hne).2, skip_ext hne]
      split at h
      · rename_i h2; rw [if_pos h2]; exact digits_ext h hr
      · rename_i h2; rw [if_neg h2]; exact digits_ext h hr
    · rename_i he
      rw [if_neg he]
      simp only [PR.ok.injEq, true_and] at h
      rw [h]
theorem bind_ok_iff {α β : Type} {p : PR α} {f : α → List UInt8 → PR β} {y : β} {q : List UInt8} (h : p.bind f = .ok y q) : ∃ x r, p = .ok x r ∧ f x r = .ok y q := by
  cases p with
  | ok x r => exact ⟨x, r, rfl, h⟩
  | bad e => cases h
theorem frac_ext {t t' r : List UInt8} (h : numFrac t = .ok () t') (hr : numEnd r) : numFrac (t ++ r) = .ok () (t' ++ r) := by
  by_cases ht : t = []
  · subst ht
    simp [numFrac] at h
    have h0 : ¬ (([] : List UInt8) ++ r).head? = some 46 := by
      intro e
      exact (hr _ e).2.1 rfl
    unfold numFrac
    rw [if_neg h0]
    exact tail_ext h hr
  · unfold numFrac at h ⊢
    rw [(head_app ht).1, (head_app ht).2]
    split at h
    · rename_i he
      rw [if_pos he]
      obtain ⟨x, q, h1, h2⟩ := bind_ok_iff h
      rw [digits_ext h1 hr]
      exact tail_ext h2 hr
    · rename_i he
      rw [if_neg he]
      exact tail_ext h hr
theorem num_ext {t t' r : List UInt8} (h : numR t = .ok () t') (hr : numEnd r) : numR (t ++ r) = .ok () (t' ++ r) := by
  have ht : t ≠ [] := by
    rintro rfl
    simp [numR, skipL] at h
    obtain ⟨x, q, h1, _⟩ := bind_ok_iff h
    exact digits_ne h1 rfl
  have hs : skipL 45 t ≠ [] := by
    intro e
    unfold numR at h
    rw [e] at h
    simp at h
    obtain ⟨x, q, h1, _⟩ := bind_ok_iff h
    exact digits_ne h1 rfl
  unfold numR at h ⊢
  rw [skip_ext ht, (head_app hs).1, (head_app hs).2]
  split at h
  · rename_i he
    rw [if_pos he]
    exact frac_ext h hr
  · rename_i he
    rw [if_neg he]
    obtain ⟨x, q, h1, h2⟩ := bind_ok_iff h
    rw [digits_ext h1 hr]
    exact frac_ext h2 hr
theorem numeric_spec {t : List UInt8} (h : numericB t = true) : numR t = .ok () [] := by
  unfold numericB numberL at h
  cases hn : numR t with
  | bad e => rw [hn] at h; simp [PR.bind] at h
  | ok x q =>
    rw [hn] at h
    simp only [PR.bind, beq_iff_eq] at h
    have hl := congrArg List.length h
    simp only [List.length_take] at hl
    cases x
    cases q with
    | nil => rfl
    | cons b q =>
      exfalso
      simp only [List.length_cons] at hl
      have ht : t ≠ [] := by
        rintro rfl
        simp [numR, skipL] at hn
        obtain ⟨x, q, h1, _⟩ := bind_ok_iff hn
        exact digits_ne h1 rfl
      have := List.length_pos_iff.2 ht
      omega
theorem number_ext {t r : List UInt8} (h : numericB t = true) (hr : numEnd r) : numberL (t ++ r) = .ok t r := by
  unfold numberL
  rw [num_ext (numeric_spec h) hr]
  simp [PR.bind]
theorem num_head {t : List UInt8} (h : numericB t = true) : ∃ c q, t = c :: q ∧ (c = 45 ∨ digB c = true) := by
  have hn := numeric_spec h
  cases t with
  | nil =>
    simp [numR, skipL] at hn
    obtain ⟨x, q, h1, _⟩ := bind_ok_iff hn
    exact absurd rfl (digits_ne h1)
  | cons c q =>
    refine ⟨c, q, rfl, ?_⟩
    by_cases h45 : c = 45
    · exact .inl h45
    · right
      have e : skipL 45 (c :: q) = c :: q := by simp [skipL, h45]
      unfold numR at hn
      rw [e] at hn
      by_cases h48 : c = 48
      · rw [h48]; decide
      · rw [if_neg (by simpa using h48)] at hn
        obtain ⟨x, q', h1, _⟩ := bind_ok_iff hn
        unfold digitsL at h1
        split at h1
        · rename_i hd; exact hd
        · cases h1

/-- Each byte in a string's plain text, read. -/
def quoteOK (c : UInt8) : Bool := match quoteC c with
  | [x] => x == c && x != 34 && x != 92 && decide (32 ≤ x.toNat)
  | [a, x] => a == 92 && shortV x == some c
  | [a, b, x, y, h, l] => a == 92 && b == 117 && x == 48 && y == 48 && (match hexV h, hexV l with
    | some h, some l => UInt8.ofNat (h * 16 + l) == c && decide (h * 16 + l < 32)
    | _, _ => false)
  | _ => false
theorem quote_ok : ∀ c, quoteOK c = true := u8_all _ (by decide +kernel)
theorem text_step (k : Nat) (b : List UInt8) (c : UInt8) (r : List UInt8) : textN (k + 1) b (quoteC c ++ r) = textN k (b ++ [c]) r := by
  have h := quote_ok c
  unfold quoteOK at h
  split at h
  · rename_i x e
    rw [e]
    simp only [Bool.and_eq_true, beq_iff_eq, bne_iff_ne, ne_eq, decide_eq_true_eq] at h
    obtain ⟨⟨⟨rfl, h1⟩, h2⟩, h3⟩ := h
    simp only [List.cons_append, List.nil_append, textN]
    rw [if_neg h1, if_neg h2, if_neg (by omega)]
  · rename_i a x e
    rw [e]
    simp only [Bool.and_eq_true, beq_iff_eq] at h
    obtain ⟨rfl, h1⟩ := h
    simp only [List.cons_append, List.nil_append, textN]
    rw [if_neg (by decide), if_pos trivial]
    simp only [escR, h1, PR.bind]
  · rename_i a a2 x y hh ll e
    rw [e]
    simp only [Bool.and_eq_true, beq_iff_eq] at h
    obtain ⟨⟨⟨⟨rfl, rfl⟩, rfl⟩, rfl⟩, h1⟩ := h
    cases hx : hexV hh with
    | none => rw [hx] at h1; simp at h1
    | some p =>
      cases hy : hexV ll with
      | none => rw [hx, hy] at h1; simp at h1
      | some q =>
        rw [hx, hy] at h1
        simp only [Bool.and_eq_true, beq_iff_eq, decide_eq_true_eq] at h1
        obtain ⟨h1, h2⟩ := h1
        simp only [List.cons_append, List.nil_append, textN]
        rw [if_neg (by decide), if_pos trivial]
        have e0 : hexV 48 = some 0 := by decide
        have es : shortV 117 = none := by decide
        have e1 : unitR (48 :: 48 :: hh :: ll :: r) = .ok (p * 16 + q) r := by
          unfold unitR hexR
          simp only [hexN, e0, hx, hy, PR.bind]
          rw [if_pos (by omega)]
          simp
        simp only [escR, es, if_true, e1, PR.bind]
        have e2 : utfL (p * 16 + q) = [c] := by
          unfold utfL
          rw [if_pos (by omega), h1]
        rw [e2]
  · cases h
theorem text_steps : ∀ (s : List UInt8) (k : Nat) (b r : List UInt8), s.length < k → textN k b (s.flatMap quoteC ++ (34 :: r)) = .ok (b ++ s) r
  | [], k, b, r, h => by
    obtain ⟨k, rfl⟩ : ∃ q, k = q + 1 := ⟨k - 1, by simp at h; omega⟩
    simp [textN]
  | c :: s, k, b, r, h => by
    simp only [List.length_cons] at h
    obtain ⟨k, rfl⟩ : ∃ q, k = q + 1 := ⟨k - 1, by omega⟩
    rw [List.flatMap_cons, List.append_assoc, text_step, text_steps s k (b ++ [c]) r (by omega)]
    simp
theorem quoteC_pos (c : UInt8) : 1 ≤ (quoteC c).length := by
  have h := quote_ok c
  unfold quoteOK at h
  split at h <;> rename_i e <;> first | (rw [e]; simp; done) | cases h
theorem quote_len (s : List UInt8) : s.length ≤ (s.flatMap quoteC).length := by
  induction s with
  | nil => simp
  | cons c s ih =>
    have := quoteC_pos c
    simp only [List.flatMap_cons, List.length_append, List.length_cons]
    omega
theorem text_quote (s r : List UInt8) : textR (quoteL s ++ r) = .ok s r := by
  unfold textR quoteL mustL
  simp only [List.cons_append, List.append_assoc, List.head?_cons, if_true, List.tail_cons, PR.bind, List.nil_append]
  have := text_steps s ((s.flatMap quoteC ++ 34 :: r).length + 1) [] r (by have := quote_len s; simp only [List.length_append, List.length_cons]; omega)
  simpa using this
end Go.Proofs.Ytfcokdkbjajohaa
/- JSON: a value's text, plain or over lines, is read as the value, where enough may be opened. Plain. -/
set_option linter.unusedVariables false
namespace Go.Proofs.Ytfcokdkbjajohaa

/-- What stands between the signs of a text, so deep. -/
structure Sty where
  opn : Nat → List UInt8
  cls : Nat → List UInt8
  com : Nat → List UInt8
  col : List UInt8
structure Sty.blank (S : Sty) : Prop where
  opn : ∀ n, ∀ c ∈ S.opn n, blankB c = true
  cls : ∀ n, ∀ c ∈ S.cls n, blankB c = true
  com : ∀ n, ∀ c ∈ S.com n, blankB c = true
  col : ∀ c ∈ S.col, blankB c = true
mutual
/-- A value's text. -/
def styJ (S : Sty) (n : Nat) : JV → List UInt8
  | .mk k y t l m => if k = 1 then [110, 117, 108, 108] else if k = 2 then (if y then [116, 114, 117, 101] else [102, 97, 108, 115, 101]) else if k = 3 then t else if k = 4 then quoteL t
    else if k = 5 then 91 :: (styL S n (S.opn n) (S.cls n) l ++ [93]) else if k = 6 then 123 :: (styM S n (S.opn n) (S.cls n) m ++ [125]) else []
/-- .. elements, behind what stands ahead of the first. -/
def styL (S : Sty) (n : Nat) (b e : List UInt8) : List JV → List UInt8
  | [] => []
  | v :: l => b ++ (styJ S (n + 1) v ++ (if l.isEmpty then e else styL S n (44 :: S.com n) e l))
def styM (S : Sty) (n : Nat) (b e : List UInt8) : List (List UInt8 × JV) → List UInt8
  | [] => []
  | p :: m => b ++ (quoteL p.1 ++ (58 :: (S.col ++ (styJ S (n + 1) p.2 ++ (if m.isEmpty then e else styM S n (44 :: S.com n) e m)))))
end
mutual
/-- How many arrays and objects stand open at most. -/
def openJ : JV → Nat
  | .mk k y t l m => if k = 5 then openL l + 1 else if k = 6 then openM m + 1 else 0
def openL : List JV → Nat
  | [] => 0
  | v :: l => max (openJ v) (openL l)
def openM : List (List UInt8 × JV) → Nat
  | [] => 0
  | p :: m => max (openJ p.2) (openM m)
end
theorem blank_eat : ∀ (b r : List UInt8), (∀ c ∈ b, blankB c = true) → blankL (b ++ r) = blankL r
  | [], r, _ => rfl
  | c :: b, r, h => by
    have := blank_eat b r (fun d hd => h d (by simp [hd]))
    unfold blankL at this ⊢
    rw [List.cons_append, List.dropWhile_cons, if_pos (h c (by simp))]
    exact this
theorem blank_stop {c : UInt8} (r : List UInt8) (h : blankB c = false) : blankL (c :: r) = c :: r := by
  unfold blankL
  rw [List.dropWhile_cons, if_neg (by simp [h])]
theorem blank_noNum : ∀ c, blankB c = true → digB c = false ∧ c ≠ 46 ∧ c ≠ 101 ∧ c ≠ 69 := u8_all _ (by decide +kernel)
theorem numEnd_app {b r : List UInt8} (h : ∀ c ∈ b, blankB c = true) (hr : numEnd r) : numEnd (b ++ r) := by
  cases b with
  | nil => exact hr
  | cons c b => exact numEnd_cons (blank_noNum c (h c (by simp)))
/-- A right value's text begins with a byte that is no blank. -/
theorem sty_head (S : Sty) (n : Nat) (v : JV) (h : rightJ v = true) : ∃ c q, styJ S n v = c :: q ∧ blankB c = false ∧ c ≠ 93 ∧ c ≠ 125 := by
  cases v with
  | mk k y t l m =>
    simp only [rightJ, Bool.and_eq_true, Bool.or_eq_true, beq_iff_eq] at h
    obtain ⟨_, h⟩ := h
    unfold styJ
    by_cases h1 : k = 1
    · rw [if_pos h1]; exact ⟨_, _, rfl, by decide, by decide, by decide⟩
    rw [if_neg h1]
    by_cases h2 : k = 2
    · rw [if_pos h2]; cases y <;> exact ⟨_, _, rfl, by decide, by decide, by decide⟩
    rw [if_neg h2]
    by_cases h3 : k = 3
    · rw [if_pos h3]
      have hn : numericB t = true := by
        subst h3
        simpa using h
      obtain ⟨c, q, rfl, hc⟩ := num_head hn
      refine ⟨c, q, rfl, ?_⟩
      have := u8_all (fun c => (c = 45 ∨ digB c = true) → blankB c = false ∧ c ≠ 93 ∧ c ≠ 125) (by decide +kernel) c hc
      exact this
    rw [if_neg h3]
    by_cases h4 : k = 4
    · rw [if_pos h4]; exact ⟨_, _, rfl, by decide, by decide, by decide⟩
    rw [if_neg h4]
    by_cases h5 : k = 5
    · rw [if_pos h5]; exact ⟨_, _, rfl, by decide, by decide, by decide⟩
    rw [if_neg h5]
    by_cases h6 : k = 6
    · rw [if_pos h6]; exact ⟨_, _, rfl, by decide, by decide, by decide⟩
    · exfalso
      simp [h1, h2, h3, h4, h5, h6] at h
theorem rowN_succ {α : Type} (one : α → List UInt8 → PR α) (e : UInt8) (k : Nat) (x : α) (r : List UInt8) : rowN one e (k + 1) x r = (one x r).bind fun x r =>
    if (blankL r).head? = some e then .ok x (blankL r).tail
    else (mustL 44 (blankL r)).bind fun _ r => rowN one e k x (blankL r) := rfl
theorem must_hit (c : UInt8) (r : List UInt8) : mustL c (c :: r) = .ok () r := by simp [mustL]
theorem arrR_eq (val : List UInt8 → PR JV) (l : List JV) (r : List UInt8) : arrR val l r = (val r).bind fun v r => .ok (l ++ [v]) r := rfl
/-- A round's end: the last thing. -/
theorem row_last {α : Type} (one : α → List UInt8 → PR α) (e : UInt8) (k : Nat) (x : α) (b r : List UInt8) (hb : ∀ c ∈ b, blankB c = true) (he : blankB e = false) :
    (if (blankL (b ++ (e :: r))).head? = some e then PR.ok x (blankL (b ++ (e :: r))).tail else (mustL 44 (blankL (b ++ (e :: r)))).bind fun _ r => rowN one e k x (blankL r)) = .ok x r := by
  rw [blank_eat _ _ hb, blank_stop _ he, if_pos (show (e :: r).head? = some e from rfl)]
  rfl
/-- .. a comma. -/
theorem row_more {α : Type} (one : α → List UInt8 → PR α) (e : UInt8) (k : Nat) (x : α) (b r : List UInt8) (hb : ∀ c ∈ b, blankB c = true) (he : e ≠ 44) (hr : blankL r = r) :
    (if (blankL (44 :: (b ++ r))).head? = some e then PR.ok x (blankL (44 :: (b ++ r))).tail else (mustL 44 (blankL (44 :: (b ++ r)))).bind fun _ r => rowN one e k x (blankL r)) = rowN one e k x r := by
  rw [blank_stop _ (by decide), if_neg (by simpa using fun h => he h.symm), must_hit, PR.bind_ok, blank_eat _ _ hb, hr]
theorem sty_noblank (S : Sty) (n : Nat) (v : JV) (h : rightJ v = true) (z : List UInt8) : blankL (styJ S n v ++ z) = styJ S n v ++ z := by
  obtain ⟨c, q, hc, hb, _, _⟩ := sty_head S n v h
  rw [hc, List.cons_append, blank_stop _ hb]
theorem quote_noblank (s z : List UInt8) : blankL (quoteL s ++ z) = quoteL s ++ z := by
  unfold quoteL
  rw [List.cons_append, blank_stop _ (by decide)]
theorem rowN_arr (S : Sty) (hS : S.blank) (n d : Nat) (r : List UInt8) :
    ∀ (l : List JV) (v : JV) (acc : List JV) (k : Nat), (∀ x ∈ v :: l, rightJ x = true) → l.length < k →
      (∀ x ∈ v :: l, ∀ q, numEnd q → valR d (styJ S (n + 1) x ++ q) = if openJ x ≤ d then .ok x q else .bad 32) →
      rowN (arrR (valR d)) 93 k acc (styJ S (n + 1) v ++ ((if l.isEmpty then S.cls n else styL S n (44 :: S.com n) (S.cls n) l) ++ (93 :: r))) = if openL (v :: l) ≤ d then .ok (acc ++ v :: l) r else .bad 32
  | [], v, acc, k, hr, hk, ih => by
    obtain ⟨k, rfl⟩ : ∃ q, k = q + 1 := ⟨k - 1, by omega⟩
    simp only [List.isEmpty_nil, if_true]
    rw [rowN_succ, arrR_eq, ih v (by simp) _ (numEnd_app (hS.cls n) (numEnd_cons (by decide)))]
    have e : openL [v] = openJ v := by simp [openL]
    rw [e]
    by_cases hd : openJ v ≤ d
    · rw [if_pos hd, if_pos hd, PR.bind_ok, PR.bind_ok, row_last _ _ _ _ _ _ (hS.cls n) (by decide)]
    · rw [if_neg hd, if_neg hd]
      rfl
  | x :: l, v, acc, k, hr, hk, ih => by
    obtain ⟨k, rfl⟩ : ∃ q, k = q + 1 := ⟨k - 1, by omega⟩
    simp only [List.isEmpty_cons, Bool.false_eq_true, if_false]
    simp only [List.length_cons] at hk
    have e1 : styL S n (44 :: S.com n) (S.cls n) (x :: l) ++ 93 :: r = 44 :: (S.com n ++ (styJ S (n + 1) x ++ ((if l.isEmpty then S.cls n else styL S n (44 :: S.com n) (S.cls n) l) ++ (93 :: r)))) := by
      simp only [styL, List.cons_append, List.append_assoc]
    rw [e1, rowN_succ, arrR_eq, ih v (by simp) _ (numEnd_cons (by decide))]
    have e : openL (v :: x :: l) = max (openJ v) (openL (x :: l)) := by simp [openL]
    rw [e]
    by_cases hd : openJ v ≤ d
    · rw [if_pos hd, PR.bind_ok, PR.bind_ok, row_more _ _ _ _ _ _ (hS.com n) (by decide) (sty_noblank S (n + 1) x (hr x (by simp)) _)]
      rw [rowN_arr S hS n d r l x (acc ++ [v]) k (fun y hy => hr y (by simp only [List.mem_cons] at hy ⊢; exact .inr hy)) (by omega) (fun y hy => ih y (by simp only [List.mem_cons] at hy ⊢; exact .inr hy))]
      by_cases h2 : openL (x :: l) ≤ d
      · rw [if_pos h2, if_pos (by omega)]
        simp
      · rw [if_neg h2, if_neg (by omega)]
    · rw [if_neg hd, if_neg (by omega)]
      rfl
theorem getM_app (n : List UInt8) : ∀ (a b : List (List UInt8 × JV)), (getM n (a ++ b)).isSome = ((getM n a).isSome || (getM n b).isSome)
  | [], b => by simp [getM]
  | p :: a, b => by
    simp only [List.cons_append, getM]
    split
    · simp
    · exact getM_app n a b
/-- No name twice. -/
def unlikeM : List (List UInt8 × JV) → Bool
  | [] => true
  | p :: m => (getM p.1 m).isNone && unlikeM m
theorem getM_isSome (n : List UInt8) : ∀ (m : List (List UInt8 × JV)), (getM n m).isSome = true ↔ ∃ p ∈ m, p.1 = n
  | [] => by simp [getM]
  | p :: m => by
    simp only [getM]
    split
    · rename_i h; simp [h]
    · rename_i h
      rw [getM_isSome n m]
      simp [h]
theorem memR_hit (val : List UInt8 → PR JV) (n : List UInt8) (acc : List (List UInt8 × JV)) (b z : List UInt8) (ha : (getM n acc).isSome = false) (hb : ∀ c ∈ b, blankB c = true) (hz : blankL z = z) :
    memR val acc (quoteL n ++ (58 :: (b ++ z))) = (val z).bind fun v r => .ok (acc ++ [(n, v)]) r := by
  unfold memR
  rw [text_quote, PR.bind_ok, if_neg (by rw [ha]; decide), blank_stop _ (by decide), must_hit, PR.bind_ok, blank_eat _ _ hb, hz]
theorem rowN_obj (S : Sty) (hS : S.blank) (n d : Nat) (r : List UInt8) :
    ∀ (m : List (List UInt8 × JV)) (p : List UInt8 × JV) (acc : List (List UInt8 × JV)) (k : Nat), (∀ x ∈ p :: m, rightJ x.2 = true) → m.length < k → unlikeM (p :: m) = true → (∀ x ∈ p :: m, (getM x.1 acc).isSome = false) →
      (∀ x ∈ p :: m, ∀ q, numEnd q → valR d (styJ S (n + 1) x.2 ++ q) = if openJ x.2 ≤ d then .ok x.2 q else .bad 32) →
      rowN (memR (valR d)) 125 k acc (quoteL p.1 ++ (58 :: (S.col ++ (styJ S (n + 1) p.2 ++ ((if m.isEmpty then S.cls n else styM S n (44 :: S.com n) (S.cls n) m) ++ (125 :: r)))))) = if openM (p :: m) ≤ d then .ok (acc ++ p :: m) r else .bad 32
  | [], p, acc, k, hr, hk, hu, ha, ih => by
    obtain ⟨k, rfl⟩ : ∃ q, k = q + 1 := ⟨k - 1, by omega⟩
    simp only [List.isEmpty_nil, if_true]
    rw [rowN_succ, memR_hit _ _ _ _ _ (ha p (by simp)) hS.col (sty_noblank S (n + 1) p.2 (hr p (by simp)) _), ih p (by simp) _ (numEnd_app (hS.cls n) (numEnd_cons (by decide)))]
    have e : openM [p] = openJ p.2 := by simp [openM]
    rw [e]
    by_cases hd : openJ p.2 ≤ d
    · rw [if_pos hd, if_pos hd, PR.bind_ok, PR.bind_ok, row_last _ _ _ _ _ _ (hS.cls n) (by decide)]
    · rw [if_neg hd, if_neg hd]
      rfl
  | x :: m, p, acc, k, hr, hk, hu, ha, ih => by
    obtain ⟨k, rfl⟩ : ∃ q, k = q + 1 := ⟨k - 1, by omega⟩
    simp only [List.isEmpty_cons, Bool.false_eq_true, if_false]
    simp only [List.length_cons] at hk
    rw [unlikeM, Bool.and_eq_true] at hu
    obtain ⟨hu1, hu2⟩ := hu
    have e1 : styM S n (44 :: S.com n) (S.cls n) (x :: m) ++ 125 :: r = 44 :: (S.com n ++ (quoteL x.1 ++ (58 :: (S.col ++ (styJ S (n + 1) x.2 ++ ((if m.isEmpty then S.cls n else styM S n (44 :: S.com n) (S.cls n) m) ++ (125 :: r))))))) := by
      simp only [styM, List.cons_append, List.append_assoc]
    rw [e1, rowN_succ, memR_hit _ _ _ _ _ (ha p (by simp)) hS.col (sty_noblank S (n + 1) p.2 (hr p (by simp)) _), ih p (by simp) _ (numEnd_cons (by decide))]
    have e : openM (p :: x :: m) = max (openJ p.2) (openM (x :: m)) := by simp [openM]
    rw [e]
    by_cases hd : openJ p.2 ≤ d
    · rw [if_pos hd, PR.bind_ok, PR.bind_ok, row_more _ _ _ _ _ _ (hS.com n) (by decide) (quote_noblank _ _)]
      have ha2 : ∀ y ∈ x :: m, (getM y.1 (acc ++ [(p.1, p.2)])).isSome = false := by
        intro y hy
        rw [getM_app, ha y (by simp only [List.mem_cons] at hy ⊢; exact .inr hy)]
        cases hg : (getM y.1 [(p.1, p.2)]).isSome with
        | false => rfl
        | true =>
          exfalso
          obtain ⟨z, hz, hz2⟩ := (getM_isSome _ _).1 hg
          simp only [List.mem_singleton] at hz
          subst hz
          have : (getM p.1 (x :: m)).isSome = true := (getM_isSome _ _).2 ⟨y, hy, hz2.symm⟩
          rw [Option.isNone_iff_eq_none] at hu1
          rw [hu1] at this
          cases this
      rw [rowN_obj S hS n d r m x (acc ++ [(p.1, p.2)]) k (fun y hy => hr y (by simp only [List.mem_cons] at hy ⊢; exact .inr hy)) (by omega) hu2 ha2 (fun y hy => ih y (by simp only [List.mem_cons] at hy ⊢; exact .inr hy))]
      by_cases h2 : openM (x :: m) ≤ d
      · rw [if_pos h2, if_pos (by omega)]
        simp
      · rw [if_neg h2, if_neg (by omega)]
    · rw [if_neg hd, if_neg (by omega)]
      rfl
theorem rightL_all : ∀ l : List JV, rightL l = true ↔ ∀ x ∈ l, rightJ x = true
  | [] => by simp [rightL]
  | v :: l => by simp [rightL, rightL_all l]
theorem rightM_all : ∀ m : List (List UInt8 × JV), rightM m = true ↔ (∀ x ∈ m, toldB x.1 = true ∧ rightJ x.2 = true) ∧ unlikeM m = true
  | [] => by simp [rightM, unlikeM]
  | (n, v) :: m => by
    rw [rightM, unlikeM]
    simp only [Bool.and_eq_true, rightM_all m, List.mem_cons, forall_eq_or_imp]
    constructor
    · rintro ⟨⟨⟨h1, h2⟩, h3⟩, h4, h5⟩; exact ⟨⟨⟨h1, h2⟩, h4⟩, h3, h5⟩
    · rintro ⟨⟨⟨h1, h2⟩, h4⟩, h3, h5⟩; exact ⟨⟨⟨h1, h2⟩, h3⟩, h4, h5⟩
theorem styL_len (S : Sty) (n : Nat) (e : List UInt8) : ∀ (l : List JV) (b : List UInt8), (∀ x ∈ l, rightJ x = true) → l.length ≤ (styL S n b e l).length
  | [], b, h => by simp
  | v :: l, b, h => by
    have ih := styL_len S n e l (44 :: S.com n) (fun x hx => h x (by simp [hx]))
    obtain ⟨c, q, hc, _⟩ := sty_head S (n + 1) v (h v (by simp))
    rw [styL, hc]
    cases l with
    | nil => simp; omega
    | cons x l =>
      simp only [List.isEmpty_cons, Bool.false_eq_true, if_false, List.length_append, List.length_cons] at ih ⊢
      omega
theorem styM_len (S : Sty) (n : Nat) (e : List UInt8) : ∀ (m : List (List UInt8 × JV)) (b : List UInt8), m.length ≤ (styM S n b e m).length
  | [], b => by simp
  | v :: l, b => by
    have ih := styM_len S n e l (44 :: S.com n)
    rw [styM]
    cases l with
    | nil => simp [quoteL]; omega
    | cons x l =>
      simp only [List.isEmpty_cons, Bool.false_eq_true, if_false, List.length_append, List.length_cons] at ih ⊢
      omega
/-- What right values there are. -/
theorem right_cases {v : JV} (h : rightJ v = true) : v = jnull ∨ (∃ y, v = jbool y) ∨ (∃ t, v = jnum t ∧ numericB t = true) ∨ (∃ t, v = jstr t ∧ toldB t = true) ∨ (∃ l, v = jarr l ∧ rightL l = true) ∨ ∃ m, v = jobj m ∧ rightM m = true := by
  cases v with
  | mk k y t l m =>
    simp only [rightJ, Bool.and_eq_true, Bool.or_eq_true, beq_iff_eq, Bool.not_eq_true', List.isEmpty_iff] at h
    obtain ⟨⟨⟨⟨hy, ht⟩, hl⟩, hm⟩, h⟩ := h
    rcases h with ((((rfl | rfl) | ⟨rfl, h⟩) | ⟨rfl, h⟩) | ⟨rfl, h⟩) | ⟨rfl, h⟩
    · left; simp at hy ht hl hm; rw [hy, ht, hl, hm]; rfl
    · right; left; simp at ht hl hm; exact ⟨y, by rw [ht, hl, hm]; rfl⟩
    · right; right; left; simp at hy hl hm; exact ⟨t, by rw [hy, hl, hm]; rfl, h⟩
    · right; right; right; left; simp at hy hl hm; exact ⟨t, by rw [hy, hl, hm]; rfl, h⟩
    · right; right; right; right; left; simp at hy ht hm; exact ⟨l, by rw [hy, ht, hm]; rfl, h⟩
    · right; right; right; right; right; simp at hy ht hl; exact ⟨m, by rw [hy, ht, hl]; rfl, h⟩
theorem val_str (d : Nat) (r : List UInt8) : valR d (34 :: r) = (textR (34 :: r)).bind fun t r => .ok (jstr t) r := by unfold valR; rfl
theorem val_arr0 (r : List UInt8) : valR 0 (91 :: r) = .bad 32 := by unfold valR; rfl
theorem val_arr (d : Nat) (r : List UInt8) : valR (d + 1) (91 :: r) = (rowR (arrR (valR d)) 93 [] (blankL r)).bind fun l r => .ok (jarr l) r := by rw [valR]; rfl
theorem val_obj0 (r : List UInt8) : valR 0 (123 :: r) = .bad 32 := by unfold valR; rfl
theorem val_obj (d : Nat) (r : List UInt8) : valR (d + 1) (123 :: r) = (rowR (memR (valR d)) 125 [] (blankL r)).bind fun l r => .ok (jobj l) r := by rw [valR]; rfl
theorem val_num (d : Nat) (c : UInt8) (r : List UInt8) (h : c = 45 ∨ digB c = true) : valR d (c :: r) = (numberL (c :: r)).bind fun t r => .ok (jnum t) r := by
  have hc := u8_all (fun c => (c = 45 ∨ digB c = true) → c ≠ 110 ∧ c ≠ 116 ∧ c ≠ 102 ∧ c ≠ 34 ∧ c ≠ 91 ∧ c ≠ 123) (by decide +kernel) c h
  unfold valR
  have e : peekL (c :: r) = c := rfl
  rw [e, if_neg hc.1, if_neg hc.2.1, if_neg hc.2.2.1, if_neg hc.2.2.2.1, if_neg hc.2.2.2.2.1, if_neg hc.2.2.2.2.2, if_pos h]
theorem row_empty {α : Type} (one : α → List UInt8 → PR α) (e : UInt8) (x : α) (r : List UInt8) : rowR one e x (e :: r) = .ok x r := by simp [rowR]
theorem row_some {α : Type} (one : α → List UInt8 → PR α) (e : UInt8) (x : α) (r : List UInt8) (h : r.head? ≠ some e) : rowR one e x r = rowN one e (r.length + 1) x r := by
  unfold rowR
  rw [if_neg h]
theorem sizeOf_list {l : List JV} {x : JV} (h : x ∈ l) : SizeOf.sizeOf x < SizeOf.sizeOf l := List.sizeOf_lt_of_mem h
theorem sizeOf_mem {m : List (List UInt8 × JV)} {x : List UInt8 × JV} (h : x ∈ m) : SizeOf.sizeOf x.2 < SizeOf.sizeOf m := by
  have h1 := List.sizeOf_lt_of_mem h
  have h2 : SizeOf.sizeOf x.2 < SizeOf.sizeOf x := by cases x; simp; omega
  omega
theorem openJ_arr (l : List JV) : openJ (jarr l) = openL l + 1 := by simp [jarr, openJ]
theorem openJ_obj (m : List (List UInt8 × JV)) : openJ (jobj m) = openM m + 1 := by simp [jobj, openJ]
/-- A right value's text is read as the value, just if enough may be opened. -/
theorem val_sty (S : Sty) (hS : S.blank) : ∀ (N : Nat) (v : JV), SizeOf.sizeOf v ≤ N → rightJ v = true → ∀ (n d : Nat) (r : List UInt8), numEnd r → valR d (styJ S n v ++ r) = if openJ v ≤ d then .ok v r else .bad 32 := by
  intro N
  induction N with
  | zero =>
    intro v hv
    cases v
    simp at hv
  | succ N ih =>
    intro v hv h n d r hr
    rcases right_cases h with rfl | ⟨y, rfl⟩ | ⟨t, rfl, ht⟩ | ⟨t, rfl, ht⟩ | ⟨l, rfl, hl⟩ | ⟨m, rfl, hm⟩
    · have e : openJ jnull = 0 := by simp [jnull, openJ]
      rw [e, if_pos (Nat.zero_le _)]
      unfold valR
      rfl
    · have e : openJ (jbool y) = 0 := by simp [jbool, openJ]
      rw [e, if_pos (Nat.zero_le _)]
      cases y <;> (unfold valR; rfl)
    · have e : openJ (jnum t) = 0 := by simp [jnum, openJ]
      have e2 : styJ S n (jnum t) = t := by simp [jnum, styJ]
      rw [e, if_pos (Nat.zero_le _), e2]
      obtain ⟨c, q, rfl, hc⟩ := num_head ht
      rw [List.cons_append, val_num _ _ _ hc, ← List.cons_append, number_ext ht hr]
      rfl
    · have e : openJ (jstr t) = 0 := by simp [jstr, openJ]
      have e2 : styJ S n (jstr t) = quoteL t := by simp [jstr, styJ]
      rw [e, if_pos (Nat.zero_le _), e2]
      have h1 := text_quote t r
      have e3 : quoteL t ++ r = 34 :: ((t.flatMap quoteC ++ [34]) ++ r) := rfl
      rw [e3] at h1 ⊢
      rw [val_str, h1]
      rfl
    · have e2 : styJ S n (jarr l) = 91 :: (styL S n (S.opn n) (S.cls n) l ++ [93]) := by simp [jarr, styJ]
      rw [openJ_arr, e2]
      have hall := (rightL_all l).1 hl
      cases d with
      | zero => rw [List.cons_append, val_arr0, if_neg (by omega)]
      | succ d =>
        rw [List.cons_append, val_arr, List.append_assoc]
        cases l with
        | nil =>
          simp only [styL, List.nil_append, List.cons_append]
          rw [blank_stop _ (by decide), row_empty, PR.bind_ok, if_pos (by simp [openL])]
        | cons v l =>
          have hsz : ∀ x ∈ v :: l, SizeOf.sizeOf x ≤ N := by
            intro x hx
            have h1 := sizeOf_list hx
            have h2 : SizeOf.sizeOf (jarr (v :: l)) = 1 + SizeOf.sizeOf (5 : Int) + SizeOf.sizeOf false + SizeOf.sizeOf ([] : List UInt8) + SizeOf.sizeOf (v :: l) + SizeOf.sizeOf ([] : List (List UInt8 × JV)) := by rw [jarr, JV.mk.sizeOf_spec]
            omega
          have e3 : styL S n (S.opn n) (S.cls n) (v :: l) ++ ([93] ++ r) = S.opn n ++ (styJ S (n + 1) v ++ ((if l.isEmpty then S.cls n else styL S n (44 :: S.com n) (S.cls n) l) ++ (93 :: r))) := by
            simp only [styL, List.append_assoc, List.singleton_append]
          rw [e3, blank_eat _ _ (hS.opn n), sty_noblank S (n + 1) v (hall v (by simp)), row_some]
          · rw [rowN_arr S hS n d r l v [] _ hall ?_ (fun x hx q hq => ih x (hsz x hx) (hall x hx) (n + 1) d q hq)]
            · by_cases h2 : openL (v :: l) ≤ d
              · rw [if_pos h2, if_pos (by omega)]
                rfl
              · rw [if_neg h2, if_neg (by omega)]
                rfl
            · have h1 := styL_len S n (S.cls n) l (44 :: S.com n) (fun x hx => hall x (by simp [hx]))
              split
              · rename_i hnil
                simp only [List.isEmpty_iff] at hnil
                subst hnil
                simp
              · simp only [List.length_append, List.length_cons] at h1 ⊢
                omega
          · obtain ⟨c, q, hc, _, h93, _⟩ := sty_head S (n + 1) v (hall v (by simp))
            rw [hc]
            simpa using h93
    · have e2 : styJ S n (jobj m) = 123 :: (styM S n (S.opn n) (S.cls n) m ++ [125]) := by simp [jobj, styJ]
      rw [openJ_obj, e2]
      obtain ⟨hall, hun⟩ := (rightM_all m).1 hm
      cases d with
      | zero => rw [List.cons_append, val_obj0, if_neg (by omega)]
      | succ d =>
        rw [List.cons_append, val_obj, List.append_assoc]
        cases m with
        | nil =>
          simp only [styM, List.nil_append, List.cons_append]
          rw [blank_stop _ (by decide), row_empty, PR.bind_ok, if_pos (by simp [openM])]
        | cons p m =>
          have hsz : ∀ x ∈ p :: m, SizeOf.sizeOf x.2 ≤ N := by
            intro x hx
            have h1 := sizeOf_mem hx
            have h2 : SizeOf.sizeOf (jobj (p :: m)) = 1 + SizeOf.sizeOf (6 : Int) + SizeOf.sizeOf false + SizeOf.sizeOf ([] : List UInt8) + SizeOf.sizeOf ([] : List JV) + SizeOf.sizeOf (p :: m) := by rw [jobj, JV.mk.sizeOf_spec]
            omega
          have e3 : styM S n (S.opn n) (S.cls n) (p :: m) ++ ([125] ++ r) = S.opn n ++ (quoteL p.1 ++ (58 :: (S.col ++ (styJ S (n + 1) p.2 ++ ((if m.isEmpty then S.cls n else styM S n (44 :: S.com n) (S.cls n) m) ++ (125 :: r)))))) := by
            simp only [styM, List.append_assoc, List.cons_append, List.nil_append]
          rw [e3, blank_eat _ _ (hS.opn n), quote_noblank, row_some]
          · rw [rowN_obj S hS n d r m p [] _ (fun x hx => (hall x hx).2) ?_ hun (fun x hx => rfl) (fun x hx q hq => ih x.2 (hsz x hx) (hall x hx).2 (n + 1) d q hq)]
            · by_cases h2 : openM (p :: m) ≤ d
              · rw [if_pos h2, if_pos (by omega)]
                rfl
              · rw [if_neg h2, if_neg (by omega)]
                rfl
            · have h1 := styM_len S n (S.cls n) m (44 :: S.com n)
              split
              · rename_i hnil
                simp only [List.isEmpty_iff] at hnil
                subst hnil
                simp
              · simp only [List.length_append, List.length_cons] at h1 ⊢
                omega
          · unfold quoteL
            simp
/-- .. the whole text. -/
theorem whole_sty (S : Sty) (hS : S.blank) (v : JV) (h : rightJ v = true) (n d : Nat) (e : List UInt8) (he : ∀ c ∈ e, blankB c = true) : wholeR d (styJ S n v ++ e) = if openJ v ≤ d then .ok v [] else .bad 32 := by
  unfold wholeR
  rw [sty_noblank S n v h, val_sty S hS _ v (Nat.le_refl _) h n d e ?_]
  · by_cases h2 : openJ v ≤ d
    · rw [if_pos h2, if_pos h2, PR.bind_ok]
      have := blank_eat e [] he
      rw [List.append_nil] at this
      rw [this]
      rfl
    · rw [if_neg h2, if_neg h2]
      rfl
  · have := numEnd_app he numEnd_nil
    rwa [List.append_nil] at this
end Go.Proofs.Ytfcokdkbjajohaa
/- JSON: a plain text over lines. Plain. -/
set_option linter.unusedVariables false
namespace Go.Proofs.Ytfcokdkbjajohaa

def plainS : Sty := ⟨fun _ => [], fun _ => [], fun _ => [], []⟩
def nlL (n : Nat) : List UInt8 := 10 :: List.replicate (2 * n) 32
def linesS : Sty := ⟨fun n => nlL (n + 1), fun n => nlL n, fun n => nlL (n + 1), [32]⟩
theorem nl_blank (n : Nat) : ∀ c ∈ nlL n, blankB c = true := by
  intro c hc
  rcases List.mem_cons.1 hc with rfl | hc
  · decide
  · rw [(List.mem_replicate.1 hc).2]; decide
theorem plainS_blank : plainS.blank := ⟨fun _ c hc => by simp [plainS] at hc, fun _ c hc => by simp [plainS] at hc, fun _ c hc => by simp [plainS] at hc, fun c hc => by simp [plainS] at hc⟩
theorem linesS_blank : linesS.blank := ⟨fun n => nl_blank _, fun n => nl_blank _, fun n => nl_blank _, fun c hc => by simp only [linesS, List.mem_singleton] at hc; subst hc; decide⟩
/-- How many signs stand at a text's end. -/
def signs (p : List UInt8) : Nat := (p.reverse.takeWhile (· == 92)).length
theorem signs_snoc (p : List UInt8) : signs (p ++ [92]) = signs p + 1 := by simp [signs]
theorem signs_other (p : List UInt8) (c : UInt8) (h : c ≠ 92) : signs (p ++ [c]) = 0 := by simp [signs, h]
def oddB (p : List UInt8) : Bool := signs p % 2 == 1
/-- One sign of a plain text, over lines: what is written, how deep, and whether inside a string. -/
def lineStep (p : List UInt8) (c : UInt8) (r : List UInt8) (d : Int) (ins : Bool) : List UInt8 × Int × Bool :=
  if ins then ([c], d, c != 34 || oddB p)
  else if c = 34 then ([c], d, true)
  else if (c = 91 ∨ c = 123) ∧ r ≠ [] ∧ r.head? ≠ some 93 ∧ r.head? ≠ some 125 then (c :: nlL (d + 1).toNat, d + 1, false)
  else if (c = 93 ∨ c = 125) ∧ p ≠ [] ∧ p.getLast? ≠ some 91 ∧ p.getLast? ≠ some 123 then (nlL (d - 1).toNat ++ [c], d - 1, false)
  else if c = 44 then (c :: nlL d.toNat, d, false)
  else if c = 58 then ([58, 32], d, false)
  else ([c], d, false)
def lineGo : List UInt8 → List UInt8 → Int → Bool → List UInt8
  | _, [], _, _ => []
  | p, c :: r, d, ins => (lineStep p c r d ins).1 ++ lineGo (p ++ [c]) r (lineStep p c r d ins).2.1 (lineStep p c r d ins).2.2
def linesL (s : List UInt8) : List UInt8 := lineGo [] s 0 false ++ [10]
theorem lineGo_cons (p : List UInt8) (c : UInt8) (r : List UInt8) (d : Int) (ins : Bool) : lineGo p (c :: r) d ins = (lineStep p c r d ins).1 ++ lineGo (p ++ [c]) r (lineStep p c r d ins).2.1 (lineStep p c r d ins).2.2 := rfl
/-- A byte that is written as it is, outside strings. -/
def mild (c : UInt8) : Prop := c ≠ 34 ∧ c ≠ 91 ∧ c ≠ 123 ∧ c ≠ 93 ∧ c ≠ 125 ∧ c ≠ 44 ∧ c ≠ 58
theorem go_mild : ∀ (t p r : List UInt8) (d : Int), (∀ c ∈ t, mild c) → lineGo p (t ++ r) d false = t ++ lineGo (p ++ t) r d false
  | [], p, r, d, _ => by simp
  | c :: t, p, r, d, h => by
    obtain ⟨h1, h2, h3, h4, h5, h6, h7⟩ := h c (by simp)
    have e : lineStep p c (t ++ r) d false = ([c], d, false) := by
      unfold lineStep
      rw [if_neg (by simp), if_neg h1, if_neg (by simp [h2, h3]), if_neg (by simp [h4, h5]), if_neg h6, if_neg h7]
    rw [List.cons_append, lineGo_cons, e, go_mild t (p ++ [c]) r d (fun x hx => h x (by simp [hx]))]
    simp
/-- Inside a string, where an even number of signs stands ahead: a byte's text. -/
theorem go_quoteC (c : UInt8) (p r : List UInt8) (d : Int) (hp : signs p % 2 = 0) : lineGo p (quoteC c ++ r) d true = quoteC c ++ lineGo (p ++ quoteC c) r d true ∧ signs (p ++ quoteC c) % 2 = 0 := by
  have hin : ∀ (q : List UInt8) (x : UInt8) (s : List UInt8), x ≠ 34 ∨ oddB q = true → lineGo q (x :: s) d true = x :: lineGo (q ++ [x]) s d true := by
    intro q x s h
    have e : lineStep q x s d true = ([x], d, true) := by
      unfold lineStep
      rw [if_pos rfl]
      rcases h with h | h
      · have : (x != 34) = true := by simpa using h
        rw [this]; rfl
      · rw [h]; simp
    rw [lineGo_cons, e]
    rfl
  have h := quote_ok c
  unfold quoteOK at h
  split at h
  · rename_i x e
    rw [e]
    simp only [Bool.and_eq_true, beq_iff_eq, bne_iff_ne, ne_eq, decide_eq_true_eq] at h
    obtain ⟨⟨⟨rfl, h1⟩, h2⟩, h3⟩ := h
    exact ⟨hin p x r (.inl h1), by rw [signs_other p x h2]⟩
  · rename_i a x e
    rw [e]
    simp only [Bool.and_eq_true, beq_iff_eq] at h
    obtain ⟨rfl, h1⟩ := h
    have ho : oddB (p ++ [92]) = true := by
      unfold oddB
      rw [signs_snoc]
      simp only [beq_iff_eq]
      omega
    refine ⟨?_, ?_⟩
    · rw [List.cons_append, List.cons_append, List.nil_append, hin p 92 _ (.inl (by decide)), hin (p ++ [92]) x r (.inr ho)]
      simp
    · have e2 : p ++ [92, x] = (p ++ [92]) ++ [x] := by simp
      rw [e2]
      by_cases hx : x = 92
      · rw [hx, signs_snoc, signs_snoc]; omega
      · rw [signs_other _ _ hx]
  · rename_i a a2 x y hh ll e
    rw [e]
    simp only [Bool.and_eq_true, beq_iff_eq] at h
    obtain ⟨⟨⟨⟨rfl, rfl⟩, rfl⟩, rfl⟩, h1⟩ := h
    have hl : hh ≠ 34 ∧ ll ≠ 34 ∧ ll ≠ 92 := by
      cases hx : hexV hh with
      | none => rw [hx] at h1; simp at h1
      | some pp =>
        cases hy : hexV ll with
        | none => rw [hx, hy] at h1; simp at h1
        | some q =>
          refine ⟨?_, ?_, ?_⟩
          · rintro rfl; simp [hexV] at hx
          · rintro rfl; simp [hexV] at hy
          · rintro rfl; simp [hexV] at hy
    refine ⟨?_, ?_⟩
    · simp only [List.cons_append, List.nil_append]
      rw [hin p 92 _ (.inl (by decide)), hin _ 117 _ (.inl (by decide)), hin _ 48 _ (.inl (by decide)), hin _ 48 _ (.inl (by decide)), hin _ hh _ (.inl hl.1), hin _ ll _ (.inl hl.2.1)]
      simp
    · have e2 : p ++ [92, 117, 48, 48, hh, ll] = (p ++ [92, 117, 48, 48, hh]) ++ [ll] := by simp
      rw [e2, signs_other _ _ hl.2.2]
  · cases h
theorem go_quotes : ∀ (s p r : List UInt8) (d : Int), signs p % 2 = 0 → lineGo p (s.flatMap quoteC ++ r) d true = s.flatMap quoteC ++ lineGo (p ++ s.flatMap quoteC) r d true ∧ signs (p ++ s.flatMap quoteC) % 2 = 0
  | [], p, r, d, hp => by simpa using hp
  | c :: s, p, r, d, hp => by
    rw [List.flatMap_cons, List.append_assoc]
    obtain ⟨h1, h2⟩ := go_quoteC c p (s.flatMap quoteC ++ r) d hp
    obtain ⟨h3, h4⟩ := go_quotes s (p ++ quoteC c) r d h2
    rw [h1, h3]
    refine ⟨by simp, by simpa using h4⟩
theorem go_quote (s p r : List UInt8) (d : Int) : lineGo p (quoteL s ++ r) d false = quoteL s ++ lineGo (p ++ quoteL s) r d false := by
  unfold quoteL
  have e : lineStep p 34 ((s.flatMap quoteC ++ [34]) ++ r) d false = ([34], d, true) := by
    unfold lineStep
    rw [if_neg (by simp), if_pos rfl]
  rw [List.cons_append, lineGo_cons, e, List.append_assoc]
  obtain ⟨h1, h2⟩ := go_quotes s (p ++ [34]) ([34] ++ r) d (by rw [signs_other _ _ (by decide)])
  rw [h1]
  have e2 : lineStep ((p ++ [34]) ++ s.flatMap quoteC) 34 r d true = ([34], d, false) := by
    unfold lineStep
    rw [if_pos rfl]
    have : oddB ((p ++ [34]) ++ s.flatMap quoteC) = false := by
      unfold oddB
      rw [h2]
      rfl
    rw [this]
    rfl
  rw [show ([34] ++ r : List UInt8) = 34 :: r from rfl, lineGo_cons, e2]
  simp
end Go.Proofs.Ytfcokdkbjajohaa
/- JSON: texts of right values are told. Plain. -/
set_option linter.unusedVariables false
namespace Go.Proofs.Ytfcokdkbjajohaa

theorem inB_app (s t : List UInt8) (i lo hi : Nat) (h : inB s i lo hi = true) : inB (s ++ t) i lo hi = true := by
  unfold inB at h ⊢
  simp only [Bool.and_eq_true, decide_eq_true_eq] at h ⊢
  obtain ⟨h1, h2, h3⟩ := h
  have e : (s ++ t).getD i 0 = s.getD i 0 := by
    simp [List.getD_eq_getElem?_getD, List.getElem?_append_left h1]
  rw [e]
  exact ⟨by rw [List.length_append]; omega, h2, h3⟩
theorem chr_app (s t : List UInt8) (hne : s ≠ []) (h : chr s ≠ 0) : chr (s ++ t) = chr s := by
  have e : (s ++ t).getD 0 0 = s.getD 0 0 := by
    cases s with
    | nil => exact absurd rfl hne
    | cons c s => rfl
  unfold chr at h ⊢
  rw [e]
  generalize (s.getD 0 0).toNat = c at *
  unfold chrC at h ⊢
  by_cases c1 : c < 128
  · rw [if_pos c1, if_pos c1]
  rw [if_neg c1] at h ⊢
  rw [if_neg c1]
  by_cases c2 : c < 194
  · rw [if_pos c2] at h; exact absurd rfl h
  rw [if_neg c2] at h ⊢
  rw [if_neg c2]
  by_cases c3 : c < 224
  · rw [if_pos c3] at h ⊢
    rw [if_pos c3]
    cases hx : inB s 1 128 191 with
    | true => rw [inB_app _ _ _ _ _ hx]
    | false => rw [hx] at h; exact absurd rfl h
  rw [if_neg c3] at h ⊢
  rw [if_neg c3]
  by_cases c4 : c < 240
  · rw [if_pos c4] at h ⊢
    rw [if_pos c4]
    cases hx : inB s 1 (lo3 c) (hi3 c) with
    | false => rw [hx] at h; exact absurd rfl h
    | true =>
      cases hy : inB s 2 128 191 with
      | false => rw [hx, hy] at h; exact absurd rfl h
      | true => rw [inB_app _ _ _ _ _ hx, inB_app _ _ _ _ _ hy]
  rw [if_neg c4] at h ⊢
  rw [if_neg c4]
  by_cases c5 : c < 245
  · rw [if_pos c5] at h ⊢
    rw [if_pos c5]
    cases hx : inB s 1 (lo4 c) (hi4 c) with
    | false => rw [hx] at h; exact absurd rfl h
    | true =>
      cases hy : inB s 2 128 191 with
      | false => rw [hx, hy] at h; exact absurd rfl h
      | true =>
        cases hz : inB s 3 128 191 with
        | false => rw [hx, hy, hz] at h; exact absurd rfl h
        | true => rw [inB_app _ _ _ _ _ hx, inB_app _ _ _ _ _ hy, inB_app _ _ _ _ _ hz]
  · rw [if_neg c5] at h; exact absurd rfl h
theorem told_nil : toldB [] = true := rfl
theorem told_ne (s : List UInt8) (h : s ≠ []) : toldB s = (decide (chr s ≠ 0) && toldB (s.drop (chr s))) := by
  unfold toldB
  rw [wrongL_ne s h]
  by_cases hc : chr s = 0
  · rw [if_pos hc]; simp [hc]
  · rw [if_neg hc]; simp [hc]
theorem told_app : ∀ (n : Nat) (a b : List UInt8), a.length ≤ n → toldB a = true → toldB (a ++ b) = toldB b
  | 0, a, b, hn, _ => by
    have : a = [] := List.eq_nil_of_length_eq_zero (by omega)
    subst this
    rfl
  | n + 1, a, b, hn, ha => by
    by_cases hne : a = []
    · subst hne; rfl
    rw [told_ne a hne] at ha
    simp only [Bool.and_eq_true, decide_eq_true_eq] at ha
    obtain ⟨h1, h2⟩ := ha
    have hl := chr_len a hne
    rw [told_ne (a ++ b) (by simp [hne]), chr_app a b hne h1, List.drop_append_of_le_length hl, told_app n (a.drop (chr a)) b (by rw [List.length_drop]; omega) h2]
    simp [h1]
theorem told_cat {a b : List UInt8} (ha : toldB a = true) (hb : toldB b = true) : toldB (a ++ b) = true := by rw [told_app a.length a b (Nat.le_refl _) ha, hb]
theorem told_low {c : UInt8} (h : c.toNat < 128) : toldB [c] = true := by
  have e : chr [c] = 1 := by
    unfold chr chrC
    rw [if_pos (by simpa using h)]
  rw [told_ne _ (by simp), e]
  rfl
theorem told_lows : ∀ (l : List UInt8), (∀ c ∈ l, c.toNat < 128) → toldB l = true
  | [], _ => rfl
  | c :: l, h => by
    have := told_cat (told_low (h c (by simp))) (told_lows l (fun x hx => h x (by simp [hx])))
    simpa using this
theorem quoteC_low : ∀ c : UInt8, c.toNat < 128 → ∀ x ∈ quoteC c, x.toNat < 128 := by
  have := u8_all (fun c => (decide (c.toNat < 128) && !(quoteC c).all (fun x => decide (x.toNat < 128))) = false) (by decide +kernel)
  intro c hc x hx
  have h := this c
  rw [decide_eq_true hc, Bool.true_and, Bool.not_eq_false'] at h
  simpa using List.all_eq_true.1 h x hx
theorem quoteC_high : ∀ c : UInt8, 128 ≤ c.toNat → quoteC c = [c] := by
  have := u8_all (fun c => (decide (128 ≤ c.toNat) && !(quoteC c == [c])) = false) (by decide +kernel)
  intro c hc
  have h := this c
  rw [decide_eq_true hc, Bool.true_and, Bool.not_eq_false'] at h
  simpa using h
theorem flat_high : ∀ (l : List UInt8), (∀ c ∈ l, 128 ≤ c.toNat) → l.flatMap quoteC = l
  | [], _ => rfl
  | c :: l, h => by rw [List.flatMap_cons, quoteC_high c (h c (by simp)), flat_high l (fun x hx => h x (by simp [hx]))]; rfl
theorem inB_ge {s : List UInt8} {i lo hi : Nat} (h : inB s i lo hi = true) : i < s.length ∧ lo ≤ (s.getD i 0).toNat := by
  unfold inB at h
  simp only [Bool.and_eq_true, decide_eq_true_eq] at h
  exact ⟨h.1, h.2.1⟩
theorem lo3_ge (c : Nat) : 128 ≤ lo3 c := by unfold lo3; split <;> omega
theorem lo4_ge (c : Nat) : 128 ≤ lo4 c := by unfold lo4; split <;> omega
/-- All bytes of a character of more than one are high. -/
theorem chr_high (s : List UInt8) (hne : s ≠ []) (h0 : chr s ≠ 0) (h : ¬ (s.getD 0 0).toNat < 128) : ∀ i, i < chr s → i < s.length ∧ 128 ≤ (s.getD i 0).toNat := by
  have hl : 0 < s.length := List.length_pos_iff.2 hne
  unfold chr chrC at h0 ⊢
  rw [if_neg h] at h0 ⊢
  intro i hi
  rcases Nat.eq_zero_or_pos i with rfl | hi0
  · exact ⟨hl, by omega⟩
  split at hi
  · omega
  split at hi
  · split at hi
    · rename_i hx
      have := inB_ge hx
      obtain rfl : i = 1 := by omega
      exact ⟨this.1, this.2⟩
    · omega
  split at hi
  · split at hi
    · rename_i hx
      simp only [Bool.and_eq_true] at hx
      have a1 := inB_ge hx.1
      have a2 := inB_ge hx.2
      have := lo3_ge (s.getD 0 0).toNat
      rcases Nat.lt_or_ge i 2 with h2 | h2
      · obtain rfl : i = 1 := by omega
        exact ⟨a1.1, by omega⟩
      · obtain rfl : i = 2 := by omega
        exact ⟨a2.1, by omega⟩
    · omega
  split at hi
  · split at hi
    · rename_i hx
      simp only [Bool.and_eq_true] at hx
      have a1 := inB_ge hx.1.1
      have a2 := inB_ge hx.1.2
      have a3 := inB_ge hx.2
      have := lo4_ge (s.getD 0 0).toNat
      rcases Nat.lt_or_ge i 2 with h2 | h2
      · obtain rfl : i = 1 := by omega
        exact ⟨a1.1, by omega⟩
      rcases Nat.lt_or_ge i 3 with h3 | h3
      · obtain rfl : i = 2 := by omega
        exact ⟨a2.1, by omega⟩
      · obtain rfl : i = 3 := by omega
        exact ⟨a3.1, by omega⟩
    · omega
  · omega
theorem chr_one {s : List UInt8} (h : (s.getD 0 0).toNat < 128) : chr s = 1 := by
  unfold chr chrC
  rw [if_pos h]
theorem told_quotes : ∀ (n : Nat) (s : List UInt8), s.length ≤ n → toldB s = true → toldB (s.flatMap quoteC) = true
  | 0, s, hn, _ => by
    have : s = [] := List.eq_nil_of_length_eq_zero (by omega)
    subst this
    rfl
  | n + 1, s, hn, hs => by
    by_cases hne : s = []
    · subst hne; rfl
    rw [told_ne s hne] at hs
    simp only [Bool.and_eq_true, decide_eq_true_eq] at hs
    obtain ⟨h1, h2⟩ := hs
    have ih := told_quotes n (s.drop (chr s)) (by rw [List.length_drop]; omega) h2
    have e : s.flatMap quoteC = (s.take (chr s)).flatMap quoteC ++ (s.drop (chr s)).flatMap quoteC := by
      rw [← List.flatMap_append, List.take_append_drop]
    rw [e]
    refine told_cat ?_ ih
    by_cases h : (s.getD 0 0).toNat < 128
    · rw [chr_one h]
      cases s with
      | nil => exact absurd rfl hne
      | cons c s =>
        simp only [List.take_succ_cons, List.take_zero, List.flatMap_cons, List.flatMap_nil, List.append_nil]
        exact told_lows _ (quoteC_low c (by simpa using h))
    · have hh := chr_high s hne h1 h
      have hl := chr_len s hne
      have hall : ∀ c ∈ s.take (chr s), 128 ≤ c.toNat := by
        intro c hc
        obtain ⟨i, hi, rfl⟩ := List.getElem_of_mem hc
        simp only [List.length_take] at hi
        have := (hh i (by omega)).2
        rw [List.getD_eq_getElem?_getD, List.getElem?_eq_getElem (by omega), Option.getD_some] at this
        simpa using this
      rw [flat_high _ hall]
      -- the character alone is told
      have hne2 : s.take (chr s) ≠ [] := by
        intro e2
        have := congrArg List.length e2
        simp only [List.length_take, List.length_nil] at this
        have := List.length_pos_iff.2 hne
        omega
      have hts : toldB s = true := by rw [told_ne s hne]; simp [h1, h2]
      have hk : chr (s.take (chr s)) = chr s := by
        have hg : ∀ i, i < chr s → (s.take (chr s)).getD i 0 = s.getD i 0 := by
          intro i hi
          simp [List.getD_eq_getElem?_getD, hi]
        have hin : ∀ i lo hi, i < chr s → inB (s.take (chr s)) i lo hi = inB s i lo hi := by
          intro i lo hi hlt
          unfold inB
          rw [hg i hlt, List.length_take]
          congr 1
          rw [Bool.eq_iff_iff]
          simp only [decide_eq_true_eq]
          omega
        generalize hK : chr s = K at *
        have hK' := hK
        unfold chr chrC at hK ⊢
        rw [hg 0 (by omega)]
        rw [if_neg h] at hK ⊢
        by_cases c1 : (s.getD 0 0).toNat < 194
        · rw [if_pos c1] at hK; omega
        rw [if_neg c1] at hK ⊢
        by_cases c2 : (s.getD 0 0).toNat < 224
        · rw [if_pos c2] at hK ⊢
          split at hK
          · rename_i hx
            rw [hin 1 _ _ (by omega), if_pos hx]; exact hK
          · omega
        rw [if_neg c2] at hK ⊢
        by_cases c3 : (s.getD 0 0).toNat < 240
        · rw [if_pos c3] at hK ⊢
          split at hK
          · rename_i hx
            rw [hin 1 _ _ (by omega), hin 2 _ _ (by omega), if_pos hx]; exact hK
          · omega
        rw [if_neg c3] at hK ⊢
        by_cases c4 : (s.getD 0 0).toNat < 245
        · rw [if_pos c4] at hK ⊢
          split at hK
          · rename_i hx
            rw [hin 1 _ _ (by omega), hin 2 _ _ (by omega), hin 3 _ _ (by omega), if_pos hx]; exact hK
          · omega
        · rw [if_neg c4] at hK; omega
      rw [told_ne _ hne2, hk]
      simp only [Bool.and_eq_true, decide_eq_true_eq]
      refine ⟨h1, ?_⟩
      have : (s.take (chr s)).drop (chr s) = [] := by simp
      rw [this]
      rfl
theorem told_quote {s : List UInt8} (h : toldB s = true) : toldB (quoteL s) = true := by
  unfold quoteL
  have h1 : toldB ([34] : List UInt8) = true := told_low (by decide)
  have := told_cat h1 (told_cat (told_quotes _ s (Nat.le_refl _) h) h1)
  simpa using this
/-- The bytes that a number's text may have. -/
def numC (c : UInt8) : Bool := digB c || c == 43 || c == 45 || c == 46 || c == 101 || c == 69
theorem digits_pre {t t' : List UInt8} (h : digitsL t = .ok () t') : ∃ p, t = p ++ t' ∧ ∀ c ∈ p, numC c = true := by
  unfold digitsL at h
  split at h
  · simp only [PR.ok.injEq, true_and] at h
    refine ⟨t.takeWhile digB, by rw [← h, List.takeWhile_append_dropWhile], fun c hc => ?_⟩
    have : digB c = true := by
      have hall := List.all_takeWhile (p := digB) (l := t)
      exact List.all_eq_true.1 hall c hc
    unfold numC
    rw [this]
    rfl
  · cases h
theorem skip_pre (c : UInt8) (t : List UInt8) (hc : numC c = true) : ∃ p, t = p ++ skipL c t ∧ ∀ x ∈ p, numC x = true := by
  unfold skipL
  split
  · rename_i h
    cases t with
    | nil => simp at h
    | cons b t =>
      simp only [List.head?_cons, Option.some.injEq] at h
      subst h
      exact ⟨[b], rfl, fun x hx => by rw [List.mem_singleton.1 hx]; exact hc⟩
  · exact ⟨[], rfl, fun x hx => by simp at hx⟩
theorem pre_trans {t u v : List UInt8} (h1 : ∃ p, t = p ++ u ∧ ∀ c ∈ p, numC c = true) (h2 : ∃ p, u = p ++ v ∧ ∀ c ∈ p, numC c = true) : ∃ p, t = p ++ v ∧ ∀ c ∈ p, numC c = true := by
  obtain ⟨p, rfl, hp⟩ := h1
  obtain ⟨q, rfl, hq⟩ := h2
  refine ⟨p ++ q, by simp, fun c hc => ?_⟩
  rcases List.mem_append.1 hc with h | h
  · exact hp c h
  · exact hq c h
theorem head_pre {c : UInt8} {t : List UInt8} (h : t.head? = some c) (hc : numC c = true) : ∃ p, t = p ++ t.tail ∧ ∀ x ∈ p, numC x = true := by
  cases t with
  | nil => simp at h
  | cons b t =>
    simp only [List.head?_cons, Option.some.injEq] at h
    subst h
    exact ⟨[b], rfl, fun x hx => by rw [List.mem_singleton.1 hx]; exact hc⟩
theorem tail_pre {t t' : List UInt8} (h : numTail t = .ok () t') : ∃ p, t = p ++ t' ∧ ∀ c ∈ p, numC c = true := by
  unfold numTail at h
  split at h
  · rename_i he
    have h1 : ∃ p, t = p ++ t.tail ∧ ∀ x ∈ p, numC x = true := by
      rcases he with he | he <;> exact head_pre he (by decide)
    refine pre_trans h1 ?_
    split at h
    · rename_i h2
      exact pre_trans (head_pre h2 (by decide)) (digits_pre h)
    · exact pre_trans (skip_pre 45 _ (by decide)) (digits_pre h)
  · simp only [PR.ok.injEq, true_and] at h
    exact ⟨[], by rw [h]; rfl, fun x hx => by simp at hx⟩
theorem frac_pre {t t' : List UInt8} (h : numFrac t = .ok () t') : ∃ p, t = p ++ t' ∧ ∀ c ∈ p, numC c = true := by
  unfold numFrac at h
  split at h
  · rename_i he
    obtain ⟨x, q, h1, h2⟩ := bind_ok_iff h
    exact pre_trans (head_pre he (by decide)) (pre_trans (digits_pre h1) (tail_pre h2))
  · exact tail_pre h
theorem num_pre {t t' : List UInt8} (h : numR t = .ok () t') : ∃ p, t = p ++ t' ∧ ∀ c ∈ p, numC c = true := by
  unfold numR at h
  split at h
  · rename_i he
    exact pre_trans (skip_pre 45 _ (by decide)) (pre_trans (head_pre he (by decide)) (frac_pre h))
  · obtain ⟨x, q, h1, h2⟩ := bind_ok_iff h
    exact pre_trans (skip_pre 45 _ (by decide)) (pre_trans (digits_pre h1) (frac_pre h2))
theorem num_chars {t : List UInt8} (h : numericB t = true) : ∀ c ∈ t, numC c = true := by
  obtain ⟨p, e, hp⟩ := num_pre (numeric_spec h)
  rw [List.append_nil] at e
  rw [e]
  exact hp
theorem numC_low : ∀ c : UInt8, numC c = true → c.toNat < 128 ∧ mild c := by
  have := u8_all (fun c => (numC c && !(decide (c.toNat < 128) && c != 34 && c != 91 && c != 123 && c != 93 && c != 125 && c != 44 && c != 58)) = false) (by decide +kernel)
  intro c hc
  have h := this c
  rw [hc, Bool.true_and, Bool.not_eq_false'] at h
  simp only [Bool.and_eq_true, decide_eq_true_eq, bne_iff_ne, ne_eq] at h
  obtain ⟨⟨⟨⟨⟨⟨⟨h1, h2⟩, h3⟩, h4⟩, h5⟩, h6⟩, h7⟩, h8⟩ := h
  exact ⟨h1, h2, h3, h4, h5, h6, h7, h8⟩
theorem blank_low : ∀ c : UInt8, blankB c = true → c.toNat < 128 := by
  have := u8_all (fun c => (blankB c && !decide (c.toNat < 128)) = false) (by decide +kernel)
  intro c hc
  have h := this c
  rw [hc, Bool.true_and, Bool.not_eq_false'] at h
  simpa using h
theorem told_blank {b : List UInt8} (h : ∀ c ∈ b, blankB c = true) : toldB b = true := told_lows b fun c hc => blank_low c (h c hc)
theorem told_cons {c : UInt8} {l : List UInt8} (hc : c.toNat < 128) (hl : toldB l = true) : toldB (c :: l) = true := by
  have := told_cat (told_low hc) hl
  simpa using this
mutual
theorem told_sty (S : Sty) (hS : S.blank) : ∀ (v : JV) (n : Nat), rightJ v = true → toldB (styJ S n v) = true
  | .mk k y t l m, n, h => by
    have h' := h
    simp only [rightJ, Bool.and_eq_true, Bool.or_eq_true, beq_iff_eq] at h'
    obtain ⟨_, h'⟩ := h'
    unfold styJ
    by_cases h1 : k = 1
    · rw [if_pos h1]; decide
    rw [if_neg h1]
    by_cases h2 : k = 2
    · rw [if_pos h2]; cases y <;> decide
    rw [if_neg h2]
    by_cases h3 : k = 3
    · rw [if_pos h3]
      have hn : numericB t = true := by
        subst h3
        simpa using h'
      exact told_lows t fun c hc => (numC_low c (num_chars hn c hc)).1
    rw [if_neg h3]
    by_cases h4 : k = 4
    · rw [if_pos h4]
      have hn : toldB t = true := by
        subst h4
        simpa using h'
      exact told_quote hn
    rw [if_neg h4]
    by_cases h5 : k = 5
    · rw [if_pos h5]
      have hn : rightL l = true := by
        subst h5
        simpa using h'
      exact told_cons (by decide) (told_cat (told_styL S hS l n (S.opn n) (S.cls n) hn (told_blank (hS.opn n)) (told_blank (hS.cls n))) (by decide))
    rw [if_neg h5]
    by_cases h6 : k = 6
    · rw [if_pos h6]
      have hn : rightM m = true := by
        subst h6
        simpa using h'
      exact told_cons (by decide) (told_cat (told_styM S hS m n (S.opn n) (S.cls n) hn (told_blank (hS.opn n)) (told_blank (hS.cls n))) (by decide))
    · rw [if_neg h6]; rfl
theorem told_styL (S : Sty) (hS : S.blank) : ∀ (l : List JV) (n : Nat) (b e : List UInt8), rightL l = true → toldB b = true → toldB e = true → toldB (styL S n b e l) = true
  | [], n, b, e, _, _, _ => rfl
  | v :: l, n, b, e, h, hb, he => by
    simp only [rightL, Bool.and_eq_true] at h
    unfold styL
    refine told_cat hb (told_cat (told_sty S hS v (n + 1) h.1) ?_)
    split
    · exact he
    · exact told_styL S hS l n (44 :: S.com n) e h.2 (told_cons (by decide) (told_blank (hS.com n))) he
theorem told_styM (S : Sty) (hS : S.blank) : ∀ (m : List (List UInt8 × JV)) (n : Nat) (b e : List UInt8), rightM m = true → toldB b = true → toldB e = true → toldB (styM S n b e m) = true
  | [], n, b, e, _, _, _ => rfl
  | (x, v) :: m, n, b, e, h, hb, he => by
    simp only [rightM, Bool.and_eq_true] at h
    unfold styM
    refine told_cat hb (told_cat (told_quote h.1.1.1) (told_cons (by decide) (told_cat (told_blank hS.col) (told_cat (told_sty S hS v (n + 1) h.1.1.2) ?_))))
    split
    · exact he
    · exact told_styM S hS m n (44 :: S.com n) e h.2 (told_cons (by decide) (told_blank (hS.com n))) he
end
end Go.Proofs.Ytfcokdkbjajohaa
