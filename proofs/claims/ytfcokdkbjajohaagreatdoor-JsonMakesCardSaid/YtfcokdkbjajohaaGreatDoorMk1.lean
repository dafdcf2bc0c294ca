/- Merged: JsMkp, JsDg, JsMk. -/
import Derived.Deep.DeepCutAuto
import Derived.Test.YtfcokdkbjajohaaGreatDoorMg1
import Derived.Test.YtfcokdkbjajohaaGreatDoorMg2
import Derived.Test.YtfcokdkbjajohaaGreatDoorMg3
import Derived.Test.YtfcokdkbjajohaaGreatDoorMg4
import Derived.Test.YtfcokdkbjajohaaGreatDoorMg5
import Derived.Test.YtfcokdkbjajohaaGreatDoorMg6
import Derived.Test.YtfcokdkbjajohaaGreatDoorMg7
/- JsonMakes: the values that the law makes, and their texts. Plain. -/
set_option linter.unusedVariables false
namespace Go.Proofs.YtfcokdkbjajohaaGreatDoor

/-- What the law makes of a text, a number and a truth. -/
def mk0 (s : List UInt8) (n : Int) (y : Bool) : JV := jarr [jstr s, jnum (Lib.itoa n), jbool y, jobj []]
def mkM (s : List UInt8) (v : JV) : List (List UInt8 × JV) := [(s, v), (s ++ [120], jarr [])]
def mkN (s : List UInt8) (v : JV) : Nat → JV
  | 0 => v
  | d + 1 => jobj (mkM s (mkN s v d))
/-- .. and its text, in the law's own words. -/
def mkT0 (s : List UInt8) (n : Int) (y : Bool) : List UInt8 := 91 :: (quoteL s ++ (44 :: (Lib.itoa n ++ (44 :: ((if y then [116, 114, 117, 101] else [102, 97, 108, 115, 101]) ++ [44, 123, 125, 93])))))
def mkTs (s t : List UInt8) : List UInt8 := 123 :: (quoteL s ++ (58 :: (t ++ (44 :: (quoteL (s ++ [120]) ++ [58, 91, 93, 125])))))
def mkT (s t : List UInt8) : Nat → List UInt8
  | 0 => t
  | d + 1 => mkTs s (mkT s t d)
theorem mk0_plain (s : List UInt8) (n : Int) (y : Bool) : plainJ (mk0 s n y) = mkT0 s n y := by
  cases y <;> simp [mk0, mkT0, jarr, jstr, jnum, jbool, jobj, plainJ, plainL, plainM]
theorem mkM_plain (s : List UInt8) (v : JV) : plainJ (jobj (mkM s v)) = mkTs s (plainJ v) := by
  simp [mkM, mkTs, jarr, jobj, plainJ, plainL, plainM]
theorem mkN_plain (s : List UInt8) (v : JV) : ∀ d, plainJ (mkN s v d) = mkT s (plainJ v) d
  | 0 => rfl
  | d + 1 => by rw [mkN, mkM_plain, mkN_plain s v d]; rfl
theorem mk0_right (s : List UInt8) (n : Int) (y : Bool) (h : toldB s = true) : rightJ (mk0 s n y) = true := by
  have h1 := numeric_itoa n
  cases y <;> simp [mk0, jarr, jstr, jnum, jbool, jobj, rightJ, rightL, rightM, h, h1]
theorem mk_ne (s : List UInt8) : s ++ [120] ≠ s := fun h => by
  have := congrArg List.length h
  simp at this
theorem mkM_right (s : List UInt8) (v : JV) (h : toldB s = true) (hv : rightJ v = true) : rightJ (jobj (mkM s v)) = true := by
  have h2 : toldB (s ++ [120]) = true := told_cat h (told_low (by decide))
  simp [mkM, jarr, jobj, rightJ, rightL, rightM, getM, h, h2, hv]
theorem mkN_right (s : List UInt8) (v : JV) (h : toldB s = true) (hv : rightJ v = true) : ∀ d, rightJ (mkN s v d) = true
  | 0 => hv
  | d + 1 => mkM_right s _ h (mkN_right s v h hv d)
theorem mk0_depth (s : List UInt8) (n : Int) (y : Bool) : depthJ (mk0 s n y) = 2 := by
  simp [mk0, jarr, jstr, jnum, jbool, jobj, depthJ, depthL, depthM]
theorem mkM_depth (s : List UInt8) (v : JV) (h : 1 ≤ depthJ v) : depthJ (jobj (mkM s v)) = depthJ v + 1 := by
  simp only [mkM, jarr, jobj, depthJ, depthL, depthM]
  simp
  omega
theorem mkN_depth (s : List UInt8) (v : JV) (h : depthJ v = 2) : ∀ d, depthJ (mkN s v d) = d + 2
  | 0 => by rw [mkN, h]
  | d + 1 => by rw [mkN, mkM_depth _ _ (by rw [mkN_depth s v h d]; omega), mkN_depth s v h d]
theorem mk0_size (s : List UInt8) (n : Int) (y : Bool) (h : (Lib.itoa n).length ≤ 30) : sizeJ (mk0 s n y) ≤ s.length + 40 := by
  simp only [mk0, jarr, jstr, jnum, jbool, jobj, sizeJ, sizeL, sizeM, List.length_nil]
  omega
theorem mkM_size (s : List UInt8) (v : JV) : sizeJ (jobj (mkM s v)) = sizeJ v + 2 * s.length + 5 := by
  simp only [mkM, jarr, jobj, sizeJ, sizeL, sizeM, List.length_nil, List.length_append, List.length_cons]
  omega
theorem mkN_size (s : List UInt8) (v : JV) : ∀ d, sizeJ (mkN s v d) = sizeJ v + d * (2 * s.length + 5)
  | 0 => by rw [mkN]; omega
  | d + 1 => by
    have h : (d + 1) * (2 * s.length + 5) = d * (2 * s.length + 5) + (2 * s.length + 5) := Nat.succ_mul d (2 * s.length + 5)
    rw [mkN, mkM_size, mkN_size s v d, h]
    omega
/-- Enough: a value's size, its text's length. -/
theorem mkN_small (s : List UInt8) (v : JV) (d : Nat) (hs : s.length ≤ 200) (hv : sizeJ v ≤ 240) (hd : d ≤ 20) : sizeJ (mkN s v d) ≤ 8340 := by
  rw [mkN_size]
  have : d * (2 * s.length + 5) ≤ 20 * 405 := Nat.mul_le_mul hd (by omega)
  omega
theorem mk_read (s : List UInt8) (v : JV) (d : Nat) (h : toldB s = true) (hv : rightJ v = true) (h2 : depthJ v = 2) (hd : d ≤ 20) (hl : (mkT s (plainJ v) d).length ≤ 16384) :
    parseL (mkT s (plainJ v) d) 32 = (mkN s v d, 0) := by
  rw [← mkN_plain] at hl ⊢
  rw [parse_plain _ (mkN_right s v h hv d) hl 32 (by decide) (by decide), if_pos]
  have := open_depth (mkN s v d)
  rw [mkN_depth s v h2 d] at this
  show _ ≤ 32
  omega
end Go.Proofs.YtfcokdkbjajohaaGreatDoor
/- klaxonlaw06: digits. -/
set_option linter.unusedVariables false
namespace Go.Proofs.YtfcokdkbjajohaaGreatDoor
open Go.RowKit

theorem ent_digits6 : ∀ args w, (callFunc 18 args).run Tryz.prog w = .ok (.enter 18 args) w := run_enters Tryz.func18 (by kernel_rfl) rfl
theorem byte_lit6 {w : World} {g : Nat} {T : TypeId} {fr : Nat × Nat} (b : UInt8) (h : w.heap[g]? = some (.cells #[.int .u8 (b.toNat : Int)] T fr)) : Rd w (some ⟨g, 0, none⟩) [b] := by
  refine .inr ⟨g, 0, rfl, fun i hi => ?_⟩
  simp at hi
  subst hi
  rw [Lib.cell_of_heap h]
  rfl
set_option maxRecDepth 100000 in
set_option maxHeartbeats 4000000 in
theorem digits6_nat (n : Nat) : ∀ (w : World), n ≤ 9007199254740992 →
    Calls Tryz.prog 18 #[.int .i64 (n : Int)] w fun e w' => e = .returned (.string ⟨(Lib.decDigits n).toArray⟩) ∧ Below w.heap.size w w' := by
  induction n using Nat.strongRecOn with
  | _ n ih =>
  intro w hn
  have h0I : ¬ (n : Int) < 0 := by omega
  by_cases h10 : n < 10
  · have h10I : (n : Int) < 10 := by omega
    obtain ⟨D, hD⟩ : ∃ D : UInt8, D = UInt8.ofNat (48 + n) := ⟨_, rfl⟩
    have hDv : D.toNat = 48 + n := by rw [hD]; exact digit_nat n h10
    have hcv := IntKind.wrap_u8 (48 + (n : Int))
    have hw1 : IntKind.i64.wrap (48 + (n : Int)) = 48 + (n : Int) := IntWalk.i64_in _ (by omega)
    have hw8 : IntKind.u8.wrap (48 + (n : Int)) = (D.toNat : Int) := by rw [IntKind.wrap_u8]; omega
    have hdd : Lib.decDigits n = [D] := by rw [dec_small n h10, hD]
    have hba : Below w.heap.size w (w.alloc (.cells #[.int .u8 (D.toNat : Int)] 5)) := (Below.refl _ _).alloc (Nat.le_refl _) _
    have hst := str_of_rd (byte_lit6 D (heap_alloc_new w (.cells #[.int .u8 (D.toNat : Int)] 5))) 1 1 rfl
    have HDD := Lib.hid hdd
    clear hD hDv hcv hdd ih
    go_enter Tryz.func18, Tryz.ntmps18
    go_wp2_with fail
    go_ret
    exact ⟨by rw [HDD.out]; rfl, hba⟩
  · have h10I : ¬ (n : Int) < 10 := by omega
    obtain ⟨D, hD⟩ : ∃ D : UInt8, D = UInt8.ofNat (48 + n % 10) := ⟨_, rfl⟩
    have hDv : D.toNat = 48 + n % 10 := by rw [hD]; exact digit_nat (n % 10) (by omega)
    have hdd : Lib.decDigits n = Lib.decDigits (n / 10) ++ [D] := by rw [dec_big n h10, hD]
    have hlen := dec_len (n / 10) 17 (by decide) (by have : (10 : Nat) ^ 17 = 100000000000000000 := by decide
                                                     omega)
    have hcat : (⟨(Lib.decDigits (n / 10)).toArray⟩ : ByteArray) ++ (⟨#[D]⟩ : ByteArray) = ⟨(Lib.decDigits n).toArray⟩ := by
      rw [hdd]
      apply ByteArray.ext
      simp
    have HCAT := Lib.hid hcat
    have HD1 := Lib.hid (show (n : Int) / 10 = ((n / 10 : Nat) : Int) by omega)
    clear hcat hdd hD
    go_enter Tryz.func18, Tryz.ntmps18
    go_upto_region 5 with (fail)
    refine wp_region_grow (by kernel_rfl) (by kernel_rfl) [16, 17, 18, 19, 20, 21, 22, 23, 24, 25, 2] rfl (by decide) (by kernel_rfl) (fun iX => [VIs (.int .i64 (n : Int)), VIs (.int .i64 ((n / 10 : Nat) : Int)), VIs ((.string ⟨(Lib.decDigits (n / 10)).toArray⟩)), VIs (.int .i64 (n : Int)), VIs (.int .i64 ((n % 10 : Nat) : Int)), VIs (.int .i64 ((48 + n % 10 : Nat) : Int)), VIs (.int .u8 (D.toNat : Nat)), VBytes [D], VIs (.string ⟨[D].toArray⟩), VIs (.string ⟨(Lib.decDigits n).toArray⟩), VIs (.string ⟨(Lib.decDigits n).toArray⟩)].getD iX fun _ _ => True) (stab_list _ ?_) ?_ ?_
    · skip
      intro V hV
      simp only [List.mem_cons, List.mem_nil_iff, or_false] at hV
      rcases hV with rfl | rfl | rfl | rfl | rfl | rfl | rfl | rfl | rfl | rfl | rfl <;> first | exact VIs.stab _ | exact VBytes.stab _ | exact VStr.stab _ | exact VParts.stab _ | exact VRow.stab _ | exact VRow8.stab _ _ | exact VRowIs.stab _ _ _
    · intro iX o ho a' w' hf hb hd
      rcases iX with _ | _ | _ | _ | _ | _ | _ | _ | _ | _ | _ | iX
      · cases ho
        refine grow_op rfl rfl rfl (grow_move rfl ?_)
        exact (hf.same 0 (by decide)).trans rfl
      · cases ho
        refine grow_op rfl rfl rfl ?_
        have e0 : a'.tmps.getD 16 undef = .int .i64 (n : Int) := hd 0 (by kernel_rfl)
        refine grow_value (v := .int .i64 ((n / 10 : Nat) : Int)) (w' := w') ?_ rfl (Below.refl _ _)
        simp only [execOp, Act.eval, e0]
        go_simp
        exact IntWalk.i64_in _ (by omega)
      · cases ho
        refine grow_op rfl rfl rfl ?_
        have e1 : a'.tmps.getD 17 undef = .int .i64 ((n / 10 : Nat) : Int) := hd 1 (by kernel_rfl)
        refine grow_call ent_digits6 rfl ?_
        simp only [List.map_toArray, List.map_cons, List.map_nil, Act.eval, e1]
        exact ((ih (n / 10) (by omega) w' (by omega)).mono (fun e w'' ⟨h1, h2⟩ => ⟨_, h1, rfl, h2⟩))
      · cases ho
        refine grow_op rfl rfl rfl (grow_move rfl ?_)
        exact (hf.same 0 (by decide)).trans rfl
      · cases ho
        refine grow_op rfl rfl rfl ?_
        have e3 : a'.tmps.getD 19 undef = .int .i64 (n : Int) := hd 3 (by kernel_rfl)
        refine grow_value (v := .int .i64 ((n % 10 : Nat) : Int)) (w' := w') ?_ rfl (Below.refl _ _)
        simp only [execOp, Act.eval, e3]
        go_simp
        exact Int.tmod_eq_emod_of_nonneg (by omega)
      · cases ho
        refine grow_op rfl rfl rfl ?_
        have e4 : a'.tmps.getD 20 undef = .int .i64 ((n % 10 : Nat) : Int) := hd 4 (by kernel_rfl)
        refine grow_value (v := .int .i64 ((48 + n % 10 : Nat) : Int)) (w' := w') ?_ rfl (Below.refl _ _)
        simp only [execOp, Act.eval, e4]
        go_simp
        exact IntWalk.i64_in _ (by omega)
      · cases ho
        refine grow_op rfl rfl rfl ?_
        have e5 : a'.tmps.getD 21 undef = .int .i64 ((48 + n % 10 : Nat) : Int) := hd 5 (by kernel_rfl)
        refine grow_value (v := .int .u8 (D.toNat : Nat)) (w' := w') ?_ rfl (Below.refl _ _)
        simp only [execOp, Act.eval, e5]
        go_simp
        rw [IntKind.wrap_u8]; omega
      · cases ho
        refine grow_op rfl rfl rfl ?_
        exact grow_byte1 rfl (hd 6 (by kernel_rfl))
      · cases ho
        refine grow_op rfl rfl rfl ?_
        exact grow_str rfl (hd 7 (by kernel_rfl))
      · cases ho
        refine grow_op rfl rfl rfl ?_
        have e2 : a'.tmps.getD 18 undef = (.string ⟨(Lib.decDigits (n / 10)).toArray⟩) := hd 2 (by kernel_rfl)
        have e8 : a'.tmps.getD 24 undef = .string ⟨[D].toArray⟩ := hd 8 (by kernel_rfl)
        refine grow_value (v := .string ⟨(Lib.decDigits n).toArray⟩) (w' := w') ?_ rfl (Below.refl _ _)
        simp only [execOp, Act.eval, e2, e8]
        go_simp
        rw [if_neg (by omega), HCAT.out]
      · cases ho
        refine grow_op rfl rfl rfl (grow_assign rfl ?_)
        exact hd 9 (by kernel_rfl)
      · simp at ho
    · intro a' w' hf hb hd
      obtain ⟨x23, z23, hv23, -⟩ := hd 7 (by decide)
      have hv24 := hd 8 (by decide)
      obtain rfl := hf.eq [Value.int IntKind.i64 (n : Int), Value.int IntKind.i64 ((n / 10 : Nat) : Int), (.string ⟨(Lib.decDigits (n / 10)).toArray⟩), Value.int IntKind.i64 (n : Int), Value.int IntKind.i64 ((n % 10 : Nat) : Int), Value.int IntKind.i64 ((48 + n % 10 : Nat) : Int), Value.int IntKind.u8 (D.toNat : Nat), Value.slice x23 [D].length z23, Value.string ⟨[D].toArray⟩, Value.string ⟨(Lib.decDigits n).toArray⟩, Value.string ⟨(Lib.decDigits n).toArray⟩] (fun j hj => match j, hj with
        | 0, _ => hd 0 (by decide)
        | 1, _ => hd 1 (by decide)
        | 2, _ => hd 2 (by decide)
        | 3, _ => hd 3 (by decide)
        | 4, _ => hd 4 (by decide)
        | 5, _ => hd 5 (by decide)
        | 6, _ => hd 6 (by decide)
        | 7, _ => hv23
        | 8, _ => hv24
        | 9, _ => hd 9 (by decide)
        | 10, _ => hd 10 (by decide)
        | k + 11, h => absurd h (by simp)) (by decide) (by kernel_rfl) rfl
      simp only [List.zip_cons_cons, List.zip_nil_right, List.foldl_cons, List.foldl_nil, Act.put, List.setIfInBounds_toArray, List.set_cons_succ, List.set_cons_zero]
      have HB := Lib.hid hb
      clear hd hf hb hv23 hv24 ih
      go_wp2_with fail
      go_ret
      exact ⟨rfl, HB.out⟩
set_option maxRecDepth 100000 in
set_option maxHeartbeats 4000000 in
theorem digits6_any (n : Int) (w : World) (h0 : -9007199254740992 ≤ n) (h1 : n ≤ 9007199254740992) :
    Calls Tryz.prog 18 #[.int .i64 n] w fun e w' => e = .returned (.string ⟨(Lib.itoa n).toArray⟩) ∧ Below w.heap.size w w' := by
  by_cases hn : n < 0
  case neg =>
    obtain ⟨k, rfl⟩ := Int.eq_ofNat_of_zero_le (by omega : 0 ≤ n)
    have e : Lib.itoa ((k : Nat) : Int) = Lib.decDigits k := by unfold Lib.itoa; rw [if_neg hn]; rfl
    rw [e]
    exact digits6_nat k w (by omega)
  obtain ⟨k, hk⟩ : ∃ k : Nat, -n = (k : Int) := ⟨n.natAbs, by omega⟩
  have e : Lib.itoa n = 45 :: Lib.decDigits k := by
    unfold Lib.itoa
    rw [if_pos hn, show n.natAbs = k by omega]
  have hlen := dec_len k 17 (by decide) (by have : (10 : Nat) ^ 17 = 100000000000000000 := by decide
                                            omega)
  have HC := Lib.hid (digits6_nat k w (by omega))
  have hcat : (⟨#[45]⟩ : ByteArray) ++ (⟨(Lib.decDigits k).toArray⟩ : ByteArray) = ⟨(Lib.itoa n).toArray⟩ := by
    rw [e]
    apply ByteArray.ext
    simp
  have hwr : IntKind.i64.wrap (-n) = (k : Int) := by rw [IntWalk.i64_in _ (by omega)]; exact hk
  generalize Lib.itoa n = T at *
  generalize Lib.decDigits k = K at *
  clear e h0 h1 hk
  go_enter Tryz.func18, Tryz.ntmps18
  go_wp2_with fail
  refine HC.out.mono ?_
  rintro e w1 ⟨rfl, hb1⟩
  have HB1 := Lib.hid hb1
  clear hb1 HC
  go_wp2_with fail
  go_ret
  exact ⟨rfl, HB1.out⟩
end Go.Proofs.YtfcokdkbjajohaaGreatDoor
/- The walk of JsonMakes. -/
set_option linter.unusedVariables false
namespace Go.Proofs.YtfcokdkbjajohaaGreatDoor
open Go.RowKit

theorem ent_jlist : ∀ args w, (callFunc 13 args).run Tryz.prog w = .ok (.enter 13 args) w := run_enters Tryz.func13 (by kernel_rfl) rfl
theorem ent_jobj : ∀ args w, (callFunc 16 args).run Tryz.prog w = .ok (.enter 16 args) w := run_enters Tryz.func16 (by kernel_rfl) rfl
/-- Two members in a block. -/
def VM2 (B : Nat) (cs : Array Value) : Value → World → Prop := fun v w => ∃ g, v = .slice (some ⟨g, 0, none⟩) 2 2 ∧ B ≤ g ∧ w.heap[g]? = some (.cells cs 35 (0, 0))
theorem VM2.stab (B : Nat) (cs : Array Value) : Stab (VM2 B cs) := fun v w1 w2 ⟨g, e, hB, h⟩ hb => ⟨g, e, hB, (hb.block _ (Array.getElem?_eq_some_iff.1 h).1).trans h⟩
/-- A value's cells, apart from a block. -/
def VJv (b : Nat) (v : JV) : Value → World → Prop := fun x w => ∃ cs, x = .agg cs.toArray ∧ Rep (· ≠ b) w cs v
theorem VJv.stab (b : Nat) (v : JV) : Stab (VJv b v) := fun x w1 w2 ⟨cs, e, h⟩ hb => ⟨cs, e, h.under hb⟩
theorem st_cat6 (a b : List UInt8) : (⟨a.toArray⟩ : ByteArray) ++ ⟨b.toArray⟩ = ⟨(a ++ b).toArray⟩ := by
  apply ByteArray.ext
  simp
theorem grow_mem2 {Q : Exit → Act → World → Prop} {o : Oper} {a : Act} {w : World} {B : Nat} {x y : Operand} {s1 s2 : ByteArray} {k1 k2 : Int} {y1 y2 : Bool} {t1 t2 : ByteArray} {a1 a2 a3 a4 : Option Addr} {m1 m2 m3 m4 c1 c2 c3 c4 : Nat} (ho : o.op = .buildSlice 24 2 #[(0, x), (1, y)]) (hB : B ≤ w.heap.size)
    (hx : a.eval x = .agg #[.string s1, .int .i64 k1, .bool y1, .string t1, .slice a1 m1 c1, .slice a2 m2 c2]) (hy : a.eval y = .agg #[.string s2, .int .i64 k2, .bool y2, .string t2, .slice a3 m3 c3, .slice a4 m4 c4]) :
    o.wp Tryz.prog a w (Grew o.dst (VM2 B #[.string s1, .int .i64 k1, .bool y1, .string t1, .slice a1 m1 c1, .slice a2 m2 c2, .string s2, .int .i64 k2, .bool y2, .string t2, .slice a3 m3 c3, .slice a4 m4 c4]) a w) Q := by
  refine grow_value (v := .slice (some ⟨w.heap.size, 0, none⟩) 2 2) (w' := w.alloc (.cells #[.string s1, .int .i64 k1, .bool y1, .string t1, .slice a1 m1 c1, .slice a2 m2 c2, .string s2, .int .i64 k2, .bool y2, .string t2, .slice a3 m3 c3, .slice a4 m4 c4] 35)) ?_ ⟨_, rfl, hB, heap_alloc_new _ _⟩ ((Below.refl _ _).alloc (Nat.le_refl _) _)
  simp only [execOp, ho, List.map_toArray, List.map_cons, List.map_nil, hx, hy]
  go_simp
theorem rdo_2 {b0 g : Nat} {S SX : List UInt8} {U : JV} {w : World} {k1 : Int} {y1 : Bool} {t1 : ByteArray} {a1 a2 : Option Addr} {m1 m2 c1 c2 : Nat} {T : TypeId} {fr : Nat × Nat} (hg : g ≠ b0) (hS : S ++ [120] = SX)
    (h : w.heap[g]? = some (.cells #[.string ⟨S.toArray⟩, .int .i64 k1, .bool y1, .string t1, .slice a1 m1 c1, .slice a2 m2 c2, .string ⟨SX.toArray⟩, .int .i64 5, .bool false, .string ⟨#[]⟩, .slice none 0 0, .slice none 0 0] T fr)) :
    RdO (· ≠ b0) w (some ⟨g, 0, none⟩) (memCells (mkM S U) [[.int .i64 k1, .bool y1, .string t1, .slice a1 m1 c1, .slice a2 m2 c2], [.int .i64 5, .bool false, .string ⟨#[]⟩, .slice none 0 0, .slice none 0 0]]) := by
  subst hS
  refine .inr ⟨g, 0, rfl, hg, fun i u hu => ?_⟩
  rw [Lib.cell_of_heap h]
  simpa [memCells, mkM, strV] using hu
theorem ok_ne {b0 s : Nat} (h : b0 < s) : ∀ b, ((b ≠ b0 ∧ b < s) ∨ s ≤ b) → b ≠ b0 := by
  intro b hb
  rcases hb with hb | hb
  · exact hb.1
  · omega
theorem reps_2 {b0 : Nat} {S : List UInt8} {U : JV} {w : World} {cs : List Value} (h : Rep (· ≠ b0) w cs U) : RepsM (· ≠ b0) w [cs, [.int .i64 5, .bool false, .string ⟨#[]⟩, .slice none 0 0, .slice none 0 0]] (mkM S U) := by
  refine ⟨rfl, fun i hi hj => ?_⟩
  match i, hi with
  | 0, _ => exact h
  | 1, _ => exact Rep.leaf _ w 5 false []
  | k + 2, h => exact absurd h (by simp)
def mk0C (S I : List UInt8) (y : Bool) : List (List Value) := [[.int .i64 4, .bool false, .string ⟨S.toArray⟩, .slice none 0 0, .slice none 0 0], [.int .i64 3, .bool false, .string ⟨I.toArray⟩, .slice none 0 0, .slice none 0 0], [.int .i64 2, .bool y, .string ⟨#[]⟩, .slice none 0 0, .slice none 0 0], [.int .i64 6, .bool false, .string ⟨#[]⟩, .slice none 0 0, .slice none 0 0]]
theorem mk0_row {S I : List UInt8} {y : Bool} {w : World} {g : Nat} {T : TypeId} {fr : Nat × Nat} (h : w.heap[g]? = some (.cells (mk0C S I y).flatten.toArray T fr)) :
    RdO (fun _ => True) w (some ⟨g, 0, none⟩) (mk0C S I y).flatten ∧ Reps (fun _ => True) w (mk0C S I y) [jstr S, jnum I, jbool y, jobj []] := by
  refine ⟨.inr ⟨g, 0, rfl, trivial, fun i u hu => ?_⟩, rfl, fun i hi hj => ?_⟩
  · rw [Lib.cell_of_heap h]
    simpa using hu
  · match i, hi with
    | 0, _ => exact Rep.leaf _ w 4 false S
    | 1, _ => exact Rep.leaf _ w 3 false I
    | 2, _ => exact Rep.leaf _ w 2 y []
    | 3, _ => exact Rep.leaf _ w 6 false []
    | k + 4, h => exact absurd h (by simp [mk0C])
def yesB (y : Bool) : List UInt8 := if y then [116, 114, 117, 101] else [102, 97, 108, 115, 101]
theorem mkT_len (s t : List UInt8) (hs : s.length ≤ 200) (ht : t.length ≤ 1300) : ∀ d, d ≤ 20 → (mkT s t d).length ≤ 1300 + d * 2430
  | 0, _ => by rw [mkT]; omega
  | d + 1, h => by
    have h1 := mkT_len s t hs ht d (by omega)
    have h2 := quoteL_len6 s
    have h3 := quoteL_len6 (s ++ [120])
    rw [List.length_append, List.length_singleton] at h3
    rw [mkT, mkTs]
    simp only [List.length_cons, List.length_append, List.length_nil]
    have : (d + 1) * 2430 = d * 2430 + 2430 := Nat.succ_mul d 2430
    omega
set_option maxRecDepth 100000 in
set_option maxHeartbeats 64000000 in
theorem jsonMakes_walk (s : ByteArray) (n : Int) (y : Bool) (d : Int) (w : World) (hs : s.size ≤ maxLen) (hn : (Lit.int .i64 n).wf = true) (hd : (Lit.int .i64 d).wf = true) (hm : ∃ m, w.cell? ⟨3, 0, none⟩ = some (.int .i64 m)) (hp : Pow w) :
    Calls Tryz.prog 3 #[.string s, .int .i64 n, .bool y, .int .i64 d] w fun e w' => e = .returned (.bool true) ∧ Below w.heap.size w w' := by
  clear hm hd hn
  unfold maxLen at hs
  obtain ⟨S, rfl⟩ : ∃ t : List UInt8, s = ⟨t.toArray⟩ := ⟨s.data.toList, by simp⟩
  simp only [ByteArray.size, List.size_toArray] at hs
  have HP := Lib.hid hp
  clear hp
  go_enter Tryz.func3, Tryz.ntmps3
  go_wp2_with fail
  refine (anchor06_any w).mono ?_
  rintro e w1 ⟨rfl, hb1⟩
  have HB1 := Lib.hid hb1
  have HP1 := Lib.hid (HP.out.below hb1)
  clear hb1
  by_cases l1 : S.length ≤ 200
  case neg =>
    have j1 : (200 : Int) < (S.length : Int) := by omega
    go_wp2_with fail
    refine bodyPost_ret (results_tmp rfl _ _ _) rfl ?_
    exact ⟨rfl, HB1.out⟩
  have j1 : ¬ (200 : Int) < (S.length : Int) := by omega
  by_cases l2 : n < -9007199254740992
  · go_wp2_with fail
    refine bodyPost_ret (results_tmp rfl _ _ _) rfl ?_
    exact ⟨rfl, HB1.out⟩
  by_cases l3 : 9007199254740992 < n
  · go_wp2_with fail
    refine bodyPost_ret (results_tmp rfl _ _ _) rfl ?_
    exact ⟨rfl, HB1.out⟩
  by_cases l4 : d < 0
  · go_wp2_with fail
    refine bodyPost_ret (results_tmp rfl _ _ _) rfl ?_
    exact ⟨rfl, HB1.out⟩
  by_cases l5 : 20 < d
  · go_wp2_with fail
    refine bodyPost_ret (results_tmp rfl _ _ _) rfl ?_
    exact ⟨rfl, HB1.out⟩
  go_wp2_with fail
  refine (jstr_fn S w1).mono ?_
  rintro e w2 ⟨rfl, hb2⟩
  have HB2 := Lib.hid (HB1.out.trans (hb2.mono HB1.out.size))
  have HP2 := Lib.hid (HP1.out.below hb2)
  clear hb2
  have HRI := Lib.hid (jright (jstr S) (by simp only [jstr, sizeJ, sizeL, sizeM]; omega) (fun _ => True) [.int .i64 4, .bool false, .string ⟨S.toArray⟩, .slice none 0 0, .slice none 0 0] w2 (Rep.leaf _ _ 4 false S))
  have hre : rightJ (jstr S) = toldB S := by simp [jstr, rightJ]
  rw [hre] at HRI
  clear hre
  go_wp2_with fail
  refine HRI.out.mono ?_
  rintro e w3 ⟨rfl, hb3⟩
  have HB3 := Lib.hid (HB2.out.trans (hb3.mono HB2.out.size))
  have HP3 := Lib.hid (HP2.out.below hb3)
  clear hb3 HRI
  cases htt : toldB S with
  | false =>
    clear htt
    go_wp2_with fail
    refine bodyPost_ret (results_tmp rfl _ _ _) rfl ?_
    exact ⟨rfl, HB3.out⟩
  | true =>
  have HT := Lib.hid htt
  clear htt
  go_upto_if 44 with (fail)
  go_cut [9] (fun x wc => x = .string ⟨(yesB y).toArray⟩ ∧ w3 = wc)
  case first =>
    cases y with
    | true =>
      go_wp2_with fail
      go_meet
      exact ⟨rfl, rfl⟩
    | false =>
      go_wp2_with fail
      go_meet
      exact ⟨rfl, rfl⟩
  case rest =>
  obtain ⟨rfl, rfl⟩ := hcut
  obtain ⟨K, rfl⟩ := Int.eq_ofNat_of_zero_le (by omega : 0 ≤ d)
  have hK : K ≤ 20 := by omega
  obtain ⟨V, hV⟩ : ∃ V, mk0 S n y = V := ⟨_, rfl⟩
  obtain ⟨T, hT⟩ : ∃ T, mkT0 S n y = T := ⟨_, rfl⟩
  have hyl : (yesB y).length ≤ 5 := by cases y <;> decide
  have hil := itoa_len n (by omega) (by omega)
  have hVs : sizeJ V ≤ 240 := by
    rw [← hV]
    have := mk0_size S n y hil
    omega
  have hTl : T.length ≤ 1300 := by
    rw [← hT]
    have := quoteL_len6 S
    unfold yesB at hyl
    unfold mkT0
    simp only [List.length_cons, List.length_append, List.length_nil]
    omega
  have HVS := Lib.hid hVs
  have HTL := Lib.hid hTl
  have HVT : Hid (plainJ V = T) := Lib.hid (by rw [← hV, ← hT]; exact mk0_plain S n y)
  have HVR : Hid (rightJ V = true) := Lib.hid (by rw [← hV]; exact mk0_right S n y HT.out)
  have HVD : Hid (depthJ V = 2) := Lib.hid (by rw [← hV]; exact mk0_depth S n y)
  have HV := Lib.hid hV
  have HTT := Lib.hid hT
  clear hV hT hVs hTl
  go_wp2_with fail
  refine (jstr_fn S w3).mono ?_
  rintro e w4 ⟨rfl, hb4⟩
  have HB4 := Lib.hid (HB3.out.trans (hb4.mono HB3.out.size))
  have HP4 := Lib.hid (HP3.out.below hb4)
  clear hb4 HB2 HP2 HB1 HP1
  go_wp2_with fail
  refine (jnum_fn n (by omega) (by omega) w4 HP4.out).mono ?_
  rintro e w5 ⟨rfl, hb5⟩
  have HB5 := Lib.hid (HB4.out.trans (hb5.mono HB4.out.size))
  clear hb5
  obtain ⟨I, hI⟩ : ∃ I, Lib.itoa n = I := ⟨_, rfl⟩
  rw [hI] at hil ⊢
  have HI := Lib.hid hI
  clear hI
  go_wp2_with fail
  refine (jbool_fn y w5).mono ?_
  rintro e w6 ⟨rfl, hb6⟩
  have HB6 := Lib.hid (HB5.out.trans (hb6.mono HB5.out.size))
  clear hb6
  go_wp2_with fail
  refine (obj_nil w6).mono ?_
  rintro e w7 ⟨rfl, hb7⟩
  have HB7 := Lib.hid (HB6.out.trans (hb7.mono HB6.out.size))
  clear hb7
  have hbl : ∀ ob, Below w7.heap.size w7 (w7.alloc ob) := fun ob => (Below.refl _ _).alloc (Nat.le_refl _) _
  have HBL := Lib.hid hbl
  have HLI : Hid (Calls Tryz.prog 13 #[.slice (some ⟨w7.heap.size, 0, none⟩) 4 4] (w7.alloc (.cells (mk0C S I y).flatten.toArray 26)) _) := Lib.hid (list_any (fun _ => True) (some ⟨w7.heap.size, 0, none⟩) 4 [jstr S, jnum I, jbool y, jobj []] (mk0C S I y) _ (mk0_row (heap_alloc_new w7 _)).1 (mk0_row (heap_alloc_new w7 _)).2 (show (4 : Nat) ≤ 1000000 by decide) (fun e => by cases e))
  clear hbl
  go_wp2_with fail
  refine HLI.out.mono ?_
  rintro e w8 ⟨hb8, cs, rfl, hrep⟩
  have HB8 := Lib.hid (HB7.out.trans (((HBL.out _).trans (hb8.mono (HBL.out _).size)).mono HB7.out.size))
  have hve : jarr [jstr S, jnum I, jbool y, jobj []] = V := by rw [← HV.out, ← HI.out]; rfl
  rw [hve] at hrep
  obtain ⟨a1, c1, a2, c2, _, _, rfl, -⟩ := hrep.parts
  unfold strV at *
  obtain ⟨k1, y1, t1, n1, n2, hk, hy, ht, hn1, hn2⟩ : ∃ k y t n1 n2, V.kind = k ∧ V.yes = y ∧ (⟨V.text.toArray⟩ : ByteArray) = t ∧ V.list.length = n1 ∧ V.mem.length = n2 := ⟨_, _, _, _, _, rfl, rfl, rfl, rfl, rfl⟩
  rw [hk, hy, ht, hn1, hn2] at hrep
  rw [hk, hy, ht, hn1, hn2]
  clear hk hy ht hn1 hn2 hve HLI HB7
  obtain ⟨b0, hb0⟩ : ∃ b, w8.heap.size = b := ⟨_, rfl⟩
  have hrb : Rep (· ≠ b0) w8 [.int .i64 k1, .bool y1, .string t1, .slice a1 n1 c1, .slice a2 n2 c2] V := hrep.lt.mono fun b h e => by have := h.2; omega
  have HR8 := Lib.hid hrb
  clear hrep hrb hb8 HBL
  go_upto_region 9 with (fail)
  generalize hw9 : w8.alloc _ = w9
  have hb9 : Below w8.heap.size w8 w9 := by rw [← hw9]; exact (Below.refl _ _).alloc (Nat.le_refl _) _
  have hx9 : w9.heap[b0]? = some (.cells #[.int .i64 k1, .bool y1, .string t1, .slice a1 n1 c1, .slice a2 n2 c2] 26 (0, 0)) := by rw [← hw9, ← hb0]; exact heap_alloc_new _ _
  have HB9 := Lib.hid (HB8.out.trans (hb9.mono HB8.out.size))
  have HX9 := Lib.hid hx9
  have HR9 := Lib.hid (HR8.out.under hb9)
  have hs9 : b0 < w9.heap.size := (Array.getElem?_eq_some_iff.1 hx9).1
  have hbw : w.heap.size ≤ b0 := by rw [← hb0]; exact HB8.out.size
  clear hw9 hb9 hx9 HB8 HR8 hb0 HB6 HB5 HB4 HP4
  -- the text
  have HQ := Lib.hid (fun w' => refquote_any S w' (by omega))
  have HQL := Lib.hid (quoteL_len6 S)
  obtain ⟨QS, hQS⟩ : ∃ Q, quoteL S = Q := ⟨_, rfl⟩
  rw [hQS] at HQ HQL
  have hql : QS.length ≤ 1202 := by have := HQL.out; omega
  have HQS := Lib.hid hQS
  have HQSE := Lib.hid hQS
  obtain ⟨YB, hYB⟩ : ∃ YB, yesB y = YB := ⟨_, rfl⟩
  rw [hYB] at hyl ⊢
  have HYB := Lib.hid hYB
  clear hQS hYB HQL
  go_wp2_with fail
  refine (HQ.out w9).mono ?_
  rintro e wA ⟨rfl, hbA⟩
  have HBA := Lib.hid (HB9.out.trans (hbA.mono HB9.out.size))
  have HXA := Lib.hid ((hbA.block _ hs9).trans HX9.out)
  have HRA := Lib.hid (HR9.out.under hbA)
  have hsA : b0 < wA.heap.size := Nat.lt_of_lt_of_le hs9 hbA.size
  clear hbA HB9 HX9 HR9 hs9
  have HDG := Lib.hid (digits6_any n wA (by omega) (by omega))
  rw [HI.out] at HDG
  obtain ⟨X1, hX1⟩ : ∃ X : List UInt8, [91] ++ QS = X := ⟨_, rfl⟩
  have hcX1 : (⟨#[91]⟩ : ByteArray) ++ ⟨QS.toArray⟩ = ⟨X1.toArray⟩ := by rw [← hX1]; exact st_cat6 [91] QS
  have hlX1 : 1 + QS.length ≤ 9223372036854775807 := by omega
  have hnX1 : X1.length ≤ 1203 := by rw [← hX1]; simp only [List.length_append, List.length_cons, List.length_nil]; omega
  obtain ⟨X2, hX2⟩ : ∃ X : List UInt8, X1 ++ [44] = X := ⟨_, rfl⟩
  have hcX2 : (⟨X1.toArray⟩ : ByteArray) ++ ⟨#[44]⟩ = ⟨X2.toArray⟩ := by rw [← hX2]; exact st_cat6 X1 [44]
  have hlX2 : X1.length + 1 ≤ 9223372036854775807 := by omega
  have hnX2 : X2.length ≤ 1204 := by rw [← hX2]; simp only [List.length_append, List.length_cons, List.length_nil]; omega
  obtain ⟨X3, hX3⟩ : ∃ X : List UInt8, X2 ++ I = X := ⟨_, rfl⟩
  have hcX3 : (⟨X2.toArray⟩ : ByteArray) ++ ⟨I.toArray⟩ = ⟨X3.toArray⟩ := by rw [← hX3]; exact st_cat6 X2 I
  have hlX3 : X2.length + I.length ≤ 9223372036854775807 := by omega
  have hnX3 : X3.length ≤ 1234 := by rw [← hX3]; simp only [List.length_append]; omega
  obtain ⟨X4, hX4⟩ : ∃ X : List UInt8, X3 ++ [44] = X := ⟨_, rfl⟩
  have hcX4 : (⟨X3.toArray⟩ : ByteArray) ++ ⟨#[44]⟩ = ⟨X4.toArray⟩ := by rw [← hX4]; exact st_cat6 X3 [44]
  have hlX4 : X3.length + 1 ≤ 9223372036854775807 := by omega
  have hnX4 : X4.length ≤ 1235 := by rw [← hX4]; simp only [List.length_append, List.length_cons, List.length_nil]; omega
  obtain ⟨X5, hX5⟩ : ∃ X : List UInt8, X4 ++ YB = X := ⟨_, rfl⟩
  have hcX5 : (⟨X4.toArray⟩ : ByteArray) ++ ⟨YB.toArray⟩ = ⟨X5.toArray⟩ := by rw [← hX5]; exact st_cat6 X4 YB
  have hlX5 : X4.length + YB.length ≤ 9223372036854775807 := by omega
  have hnX5 : X5.length ≤ 1240 := by rw [← hX5]; simp only [List.length_append]; omega
  obtain ⟨X6, hX6⟩ : ∃ X : List UInt8, X5 ++ [44, 123, 125, 93] = X := ⟨_, rfl⟩
  have hcX6 : (⟨X5.toArray⟩ : ByteArray) ++ ⟨#[44, 123, 125, 93]⟩ = ⟨X6.toArray⟩ := by rw [← hX6]; exact st_cat6 X5 [44, 123, 125, 93]
  have hlX6 : X5.length + 4 ≤ 9223372036854775807 := by omega
  have hnX6 : X6.length ≤ 1244 := by rw [← hX6]; simp only [List.length_append, List.length_cons, List.length_nil]; omega
  have HX6 : Hid (X6 = T) := Lib.hid (by
    rw [← hX6, ← hX5, ← hX4, ← hX3, ← hX2, ← hX1, ← HTT.out, ← HYB.out, ← HI.out, ← HQS.out]
    simp [mkT0, yesB])
  clear hX1 hX2 hX3 hX4 hX5 hX6
  go_wp2_with fail
  refine HDG.out.mono ?_
  rintro e wB ⟨rfl, hbB⟩
  have HBB := Lib.hid (HBA.out.trans (hbB.mono HBA.out.size))
  have HXB := Lib.hid ((hbB.block _ hsA).trans HXA.out)
  have HRB := Lib.hid (HRA.out.under hbB)
  have hsB : b0 < wB.heap.size := Nat.lt_of_lt_of_le hsA hbB.size
  clear hbB HBA HXA HRA hsA HDG
  go_upto_region 10 with (fail)
  clear hcX1 hcX2 hcX3 hcX4 hcX5 hcX6 hlX1 hlX2 hlX3 hlX4 hlX5 hlX6 hnX1 hnX2 hnX3 hnX4 hnX5 hnX6
  obtain rfl := HX6.out
  have HVT' := Lib.hid HVT.out
  clear HVT HV HTT HX6 HQS HYB HI hil hyl
  go_wp2_with fail
  go_loopg [11, 66] K (fun k x11 x66 wr => ∃ (j : Nat) (kk : Int) (yy : Bool) (tt : ByteArray) (a3 a4 : Option Addr) (m3 c3 m4 c4 : Nat), x11 = .string ⟨(mkT S X6 j).toArray⟩ ∧ x66 = .int .i64 (j : Int) ∧ j + k = K ∧ Hid (Below w.heap.size w wr) ∧ Hid (wr.heap[b0]? = some (.cells #[.int .i64 kk, .bool yy, .string tt, .slice a3 m3 c3, .slice a4 m4 c4] 26 (0, 0))) ∧ Hid (Rep (· ≠ b0) wr [.int .i64 kk, .bool yy, .string tt, .slice a3 m3 c3, .slice a4 m4 c4] (mkN S V j)) ∧ b0 < wr.heap.size)
  case atStart => exact ⟨0, k1, y1, t1, a1, a2, n1, c1, n2, c2, rfl, rfl, by omega, HBB, HXB, HRB, hsB⟩
  case round =>
    obtain ⟨j, kk, yy, tt, a3, a4, m3, c3, m4, c4, rfl, rfl, hjk, HBR, HXR, HRR, hsR⟩ := hrel
    obtain ⟨TJ, hTJ⟩ : ∃ t, mkT S X6 j = t := ⟨_, rfl⟩
    have htl : TJ.length ≤ 49900 := by
      rw [← hTJ]
      have := mkT_len S X6 l1 HTL.out j (by omega)
      omega
    by_cases hlt : j < K
    · have hltI : (j : Int) < (K : Int) := by omega
      rw [hTJ]
      have HTJ := Lib.hid hTJ
      clear hTJ HBB HXB HRB hsB
      obtain ⟨SX, hSX⟩ : ∃ X : List UInt8, S ++ [120] = X := ⟨_, rfl⟩
      have hcSX : (⟨S.toArray⟩ : ByteArray) ++ ⟨#[120]⟩ = ⟨SX.toArray⟩ := by rw [← hSX]; exact st_cat6 S [120]
      have hlSX : S.length + 1 ≤ 9223372036854775807 := by omega
      have hnSX : SX.length ≤ 201 := by rw [← hSX]; simp only [List.length_append, List.length_cons, List.length_nil]; omega
      have HSX := Lib.hid hSX
      clear hSX
      obtain ⟨U, hU⟩ : ∃ U, mkN S V j = U := ⟨_, rfl⟩
      rw [hU] at HRR
      have HU := Lib.hid hU
      clear hU
      go_upto_region 12 with (fail)
      refine wp_region_grow_tail 9 (by kernel_rfl) (by kernel_rfl) (by decide) (by kernel_rfl) [68, 69, 70, 71, 72, 73, 74, 75, 76] rfl (by decide) (by kernel_rfl) (fun iX => [VIs (.string ⟨S.toArray⟩), VIs (.agg #[.int .i64 kk, .bool yy, .string tt, .slice a3 m3 c3, .slice a4 m4 c4]), VIs (.agg #[.string ⟨S.toArray⟩, .int .i64 kk, .bool yy, .string tt, .slice a3 m3 c3, .slice a4 m4 c4]), VIs (.string ⟨S.toArray⟩), VIs (.string ⟨SX.toArray⟩), VIs ((.agg #[.int .i64 5, .bool false, .string ⟨#[]⟩, .slice none 0 0, .slice none 0 0])), VIs (.agg #[.string ⟨SX.toArray⟩, .int .i64 5, .bool false, .string ⟨#[]⟩, .slice none 0 0, .slice none 0 0]), VM2 wr.heap.size #[.string ⟨S.toArray⟩, .int .i64 kk, .bool yy, .string tt, .slice a3 m3 c3, .slice a4 m4 c4, .string ⟨SX.toArray⟩, .int .i64 5, .bool false, .string ⟨#[]⟩, .slice none 0 0, .slice none 0 0], VJv b0 (jobj (mkM S U))].getD iX fun _ _ => True) (stab_list _ ?_) ?_ ?_
      · skip
        intro V hV
        simp only [List.mem_cons, List.mem_nil_iff, or_false] at hV
        rcases hV with rfl | rfl | rfl | rfl | rfl | rfl | rfl | rfl | rfl <;> first | exact VIs.stab _ | exact VBytes.stab _ | exact VStr.stab _ | exact VParts.stab _ | exact VRow.stab _ | exact VRow8.stab _ _ | exact VRowIs.stab _ _ _ | exact VM2.stab _ _ | exact VJv.stab _ _
      · intro iX o ho a' w' hf hb hd
        rcases iX with _ | _ | _ | _ | _ | _ | _ | _ | _ | iX
        · cases ho
          refine grow_op rfl rfl rfl (grow_move rfl ?_)
          exact (hf.same 0 (by decide)).trans rfl
        · cases ho
          refine grow_op rfl rfl rfl ?_
          have f10 : a'.tmps.getD 10 undef = .pointer (some ⟨b0, 0, none⟩) := (hf.same 10 (by decide)).trans rfl
          obtain ⟨x0, x1, x2, x3, x4⟩ := five_at HXR.out hb hsR
          refine grow_value (v := .agg #[.int .i64 kk, .bool yy, .string tt, .slice a3 m3 c3, .slice a4 m4 c4]) (w' := w') ?_ rfl (Below.refl _ _)
          simp only [execOp, Act.eval]
          go_simp
        · cases ho
          refine grow_op rfl rfl rfl ?_
          have e0 : a'.tmps.getD 68 undef = .string ⟨S.toArray⟩ := hd 0 (by kernel_rfl)
          have e1 : a'.tmps.getD 69 undef = .agg #[.int .i64 kk, .bool yy, .string tt, .slice a3 m3 c3, .slice a4 m4 c4] := hd 1 (by kernel_rfl)
          refine grow_value (v := .agg #[.string ⟨S.toArray⟩, .int .i64 kk, .bool yy, .string tt, .slice a3 m3 c3, .slice a4 m4 c4]) (w' := w') ?_ rfl (Below.refl _ _)
          simp only [execOp, Act.eval, List.map_toArray, List.map_cons, List.map_nil, e0, e1]
          go_simp
          try rfl
        · cases ho
          refine grow_op rfl rfl rfl (grow_move rfl ?_)
          exact (hf.same 0 (by decide)).trans rfl
        · cases ho
          refine grow_op rfl rfl rfl ?_
          have e3 : a'.tmps.getD 71 undef = .string ⟨S.toArray⟩ := hd 3 (by kernel_rfl)
          refine grow_value (v := .string ⟨SX.toArray⟩) (w' := w') ?_ rfl (Below.refl _ _)
          simp only [execOp, Act.eval, e3]
          go_simp
        · cases ho
          refine grow_op rfl rfl rfl ?_
          refine grow_call ent_jlist rfl ?_
          simp only [List.map_toArray, List.map_cons, List.map_nil, Act.eval]
          exact ((list_nil w').mono (fun e w'' ⟨h1, h2⟩ => ⟨_, h1, rfl, h2⟩))
        · cases ho
          refine grow_op rfl rfl rfl ?_
          have e4 : a'.tmps.getD 72 undef = .string ⟨SX.toArray⟩ := hd 4 (by kernel_rfl)
          have e5 : a'.tmps.getD 73 undef = (.agg #[.int .i64 5, .bool false, .string ⟨#[]⟩, .slice none 0 0, .slice none 0 0]) := hd 5 (by kernel_rfl)
          refine grow_value (v := .agg #[.string ⟨SX.toArray⟩, .int .i64 5, .bool false, .string ⟨#[]⟩, .slice none 0 0, .slice none 0 0]) (w' := w') ?_ rfl (Below.refl _ _)
          simp only [execOp, Act.eval, List.map_toArray, List.map_cons, List.map_nil, e4, e5]
          go_simp
          try rfl
        · cases ho
          refine grow_op rfl rfl rfl ?_
          exact grow_mem2 rfl hb.size (hd 2 (by kernel_rfl)) (hd 6 (by kernel_rfl))
        · cases ho
          refine grow_op rfl rfl rfl ?_
          obtain ⟨g, ea, hgB, hgr⟩ : VM2 _ _ _ _ := hd 7 (by kernel_rfl)
          refine grow_call ent_jobj rfl ?_
          have ea' : a'.tmps.getD 75 undef = _ := ea
          simp only [List.map_toArray, List.map_cons, List.map_nil, Act.eval, ea']
          refine (obj_any (· ≠ b0) (some ⟨g, 0, none⟩) 2 (mkM S U) [[.int .i64 kk, .bool yy, .string tt, .slice a3 m3 c3, .slice a4 m4 c4], [.int .i64 5, .bool false, .string ⟨#[]⟩, .slice none 0 0, .slice none 0 0]] w' (rdo_2 (by omega) (HSX.out) hgr) (reps_2 (HRR.out.under hb)) (show (2 : Nat) ≤ 1000000 by decide) (fun e => by cases e)).mono ?_
          rintro e w'' ⟨h2, cs, h1, h3⟩
          exact ⟨_, h1, ⟨cs, rfl, h3.mono (ok_ne (by have := hb.size; omega))⟩, h2⟩
        · simp at ho
      · intro a' w' hf hb hd
        obtain ⟨g75, hv75, -, -⟩ := hd 7 (by decide)
        obtain ⟨cs76, hv76, hr76⟩ := hd 8 (by decide)
        obtain ⟨p3, q3, p4, q4, _, _, rfl, -⟩ := hr76.parts
        change _ = Value.agg #[.int .i64 6, .bool false, .string ⟨#[]⟩, .slice p3 0 q3, .slice p4 2 q4] at hv76
        change Rep _ _ [.int .i64 6, .bool false, .string ⟨#[]⟩, .slice p3 0 q3, .slice p4 2 q4] _ at hr76
        obtain rfl := hf.eq [Value.string ⟨S.toArray⟩, Value.agg #[.int IntKind.i64 kk, .bool yy, .string tt, .slice a3 m3 c3, .slice a4 m4 c4], Value.agg #[.string ⟨S.toArray⟩, .int IntKind.i64 kk, .bool yy, .string tt, .slice a3 m3 c3, .slice a4 m4 c4], Value.string ⟨S.toArray⟩, Value.string ⟨SX.toArray⟩, (.agg #[.int IntKind.i64 5, .bool false, .string ⟨#[]⟩, .slice none 0 0, .slice none 0 0]), Value.agg #[.string ⟨SX.toArray⟩, .int IntKind.i64 5, .bool false, .string ⟨#[]⟩, .slice none 0 0, .slice none 0 0], Value.slice (some ⟨g75, 0, none⟩) 2 2, Value.agg #[.int IntKind.i64 6, .bool false, .string ⟨#[]⟩, .slice p3 0 q3, .slice p4 2 q4]] (fun j hj => match j, hj with
          | 0, _ => hd 0 (by decide)
          | 1, _ => hd 1 (by decide)
          | 2, _ => hd 2 (by decide)
          | 3, _ => hd 3 (by decide)
          | 4, _ => hd 4 (by decide)
          | 5, _ => hd 5 (by decide)
          | 6, _ => hd 6 (by decide)
          | 7, _ => hv75
          | 8, _ => hv76
          | k + 9, h => absurd h (by simp)) (by decide) (by kernel_rfl) rfl
        simp only [List.zip_cons_cons, List.zip_nil_right, List.foldl_cons, List.foldl_nil, Act.put, List.setIfInBounds_toArray, List.set_cons_succ, List.set_cons_zero]
        obtain ⟨wD, rfl⟩ : ∃ x : World, x = w' := ⟨_, rfl⟩
        have HBD := Lib.hid (HBR.out.trans (hb.mono HBR.out.size))
        have HXD := Lib.hid ((hb.block _ hsR).trans HXR.out)
        have HRD := Lib.hid hr76
        have hsD : b0 < wD.heap.size := Nat.lt_of_lt_of_le hsR hb.size
        clear hd hf hb hv75 hv76 hr76 HXR HRR HBR hsR hcSX hlSX
        obtain ⟨x0, x1, x2, x3, x4⟩ := five_at HXD.out (Below.refl wD.heap.size wD) hsD
        have f0 := Lib.frozen_of_heap HXD.out 0
        have f1 := Lib.frozen_of_heap HXD.out 1
        have f2 := Lib.frozen_of_heap HXD.out 2
        have f3 := Lib.frozen_of_heap HXD.out 3
        have f4 := Lib.frozen_of_heap HXD.out 4
        go_upto_region 13 with (fail)
        have hxE := value_stored HXD.out (.int .i64 6) (.bool false) (.string ⟨#[]⟩) (.slice p3 0 q3) (.slice p4 2 q4)
        have hbE : Below w.heap.size w (((((wD.setCell ⟨b0, 0, none⟩ (.int .i64 6)).setCell ⟨b0, 1, none⟩ (.bool false)).setCell ⟨b0, 2, none⟩ (.string ⟨#[]⟩)).setCell ⟨b0, 3, none⟩ (.slice p3 0 q3)).setCell ⟨b0, 4, none⟩ (.slice p4 2 q4)) := zero_stored HBD.out hbw _ _ _ _ _
        have hrE : Rep (· ≠ b0) (((((wD.setCell ⟨b0, 0, none⟩ (.int .i64 6)).setCell ⟨b0, 1, none⟩ (.bool false)).setCell ⟨b0, 2, none⟩ (.string ⟨#[]⟩)).setCell ⟨b0, 3, none⟩ (.slice p3 0 q3)).setCell ⟨b0, 4, none⟩ (.slice p4 2 q4)) [.int .i64 6, .bool false, .string ⟨#[]⟩, .slice p3 0 q3, .slice p4 2 q4] (jobj (mkM S U)) := HRD.out.keep fun k hk _ => by
          rw [Below.heap_setCell _ _ _ _ hk, Below.heap_setCell _ _ _ _ hk, Below.heap_setCell _ _ _ _ hk, Below.heap_setCell _ _ _ _ hk, Below.heap_setCell _ _ _ _ hk]
        clear x0 x1 x2 x3 x4 f0 f1 f2 f3 f4
        generalize ((((wD.setCell ⟨b0, 0, none⟩ (.int .i64 6)).setCell ⟨b0, 1, none⟩ (.bool false)).setCell ⟨b0, 2, none⟩ (.string ⟨#[]⟩)).setCell ⟨b0, 3, none⟩ (.slice p3 0 q3)).setCell ⟨b0, 4, none⟩ (.slice p4 2 q4) = wE at *
        have HXE := Lib.hid hxE
        have HBE := Lib.hid hbE
        have HRE := Lib.hid hrE
        have hsE : b0 < wE.heap.size := (Array.getElem?_eq_some_iff.1 hxE).1
        clear hxE hbE hrE HXD HBD HRD hsD
        have HQX := Lib.hid (fun w' => refquote_any SX w' (by omega))
        have hqxl := quoteL_len6 SX
        obtain ⟨QX, hQX⟩ : ∃ Q, quoteL SX = Q := ⟨_, rfl⟩
        rw [hQX] at HQX hqxl
        have hqx : QX.length ≤ 1208 := by omega
        have HQXE := Lib.hid hQX
        clear hqxl hQX
        obtain ⟨Y1, hY1⟩ : ∃ X : List UInt8, [123] ++ QS = X := ⟨_, rfl⟩
        have hcY1 : (⟨#[123]⟩ : ByteArray) ++ ⟨QS.toArray⟩ = ⟨Y1.toArray⟩ := by rw [← hY1]; exact st_cat6 [123] QS
        have hlY1 : 1 + QS.length ≤ 9223372036854775807 := by omega
        have hnY1 : Y1.length ≤ 1203 := by rw [← hY1]; simp only [List.length_append, List.length_cons, List.length_nil]; omega
        obtain ⟨Y2, hY2⟩ : ∃ X : List UInt8, Y1 ++ [58] = X := ⟨_, rfl⟩
        have hcY2 : (⟨Y1.toArray⟩ : ByteArray) ++ ⟨#[58]⟩ = ⟨Y2.toArray⟩ := by rw [← hY2]; exact st_cat6 Y1 [58]
        have hlY2 : Y1.length + 1 ≤ 9223372036854775807 := by omega
        have hnY2 : Y2.length ≤ 1204 := by rw [← hY2]; simp only [List.length_append, List.length_cons, List.length_nil]; omega
        obtain ⟨Y3, hY3⟩ : ∃ X : List UInt8, Y2 ++ TJ = X := ⟨_, rfl⟩
        have hcY3 : (⟨Y2.toArray⟩ : ByteArray) ++ ⟨TJ.toArray⟩ = ⟨Y3.toArray⟩ := by rw [← hY3]; exact st_cat6 Y2 TJ
        have hlY3 : Y2.length + TJ.length ≤ 9223372036854775807 := by omega
        have hnY3 : Y3.length ≤ 51104 := by rw [← hY3]; simp only [List.length_append]; omega
        obtain ⟨Y4, hY4⟩ : ∃ X : List UInt8, Y3 ++ [44] = X := ⟨_, rfl⟩
        have hcY4 : (⟨Y3.toArray⟩ : ByteArray) ++ ⟨#[44]⟩ = ⟨Y4.toArray⟩ := by rw [← hY4]; exact st_cat6 Y3 [44]
        have hlY4 : Y3.length + 1 ≤ 9223372036854775807 := by omega
        have hnY4 : Y4.length ≤ 51105 := by rw [← hY4]; simp only [List.length_append, List.length_cons, List.length_nil]; omega
        obtain ⟨Y5, hY5⟩ : ∃ X : List UInt8, Y4 ++ QX = X := ⟨_, rfl⟩
        have hcY5 : (⟨Y4.toArray⟩ : ByteArray) ++ ⟨QX.toArray⟩ = ⟨Y5.toArray⟩ := by rw [← hY5]; exact st_cat6 Y4 QX
        have hlY5 : Y4.length + QX.length ≤ 9223372036854775807 := by omega
        have hnY5 : Y5.length ≤ 52313 := by rw [← hY5]; simp only [List.length_append]; omega
        obtain ⟨Y6, hY6⟩ : ∃ X : List UInt8, Y5 ++ [58, 91, 93, 125] = X := ⟨_, rfl⟩
        have hcY6 : (⟨Y5.toArray⟩ : ByteArray) ++ ⟨#[58, 91, 93, 125]⟩ = ⟨Y6.toArray⟩ := by rw [← hY6]; exact st_cat6 Y5 [58, 91, 93, 125]
        have hlY6 : Y5.length + 4 ≤ 9223372036854775807 := by omega
        have hnY6 : Y6.length ≤ 52317 := by rw [← hY6]; simp only [List.length_append, List.length_cons, List.length_nil]; omega
        have HY6 : Hid (Y6 = mkT S X6 (j + 1)) := Lib.hid (by
          rw [mkT, HTJ.out, ← hY6, ← hY5, ← hY4, ← hY3, ← hY2, ← hY1, ← HQXE.out, ← HSX.out, ← HQSE.out]
          simp [mkTs])
        have hcSX : (⟨S.toArray⟩ : ByteArray) ++ ⟨#[120]⟩ = ⟨SX.toArray⟩ := by rw [← HSX.out]; exact st_cat6 S [120]
        have hlSX : S.length + 1 ≤ 9223372036854775807 := by omega
        clear hY1 hY2 hY3 hY4 hY5 hY6
        go_wp2_with fail
        refine (HQ.out wE).mono ?_
        rintro e wF ⟨rfl, hbF⟩
        have HBF := Lib.hid (HBE.out.trans (hbF.mono HBE.out.size))
        have HXF := Lib.hid ((hbF.block _ hsE).trans HXE.out)
        have HRF := Lib.hid (HRE.out.under hbF)
        have hsF : b0 < wF.heap.size := Nat.lt_of_lt_of_le hsE hbF.size
        clear hbF HBE HXE HRE hsE
        go_wp2_with fail
        refine (HQX.out wF).mono ?_
        rintro e wG ⟨rfl, hbG⟩
        have HBG := Lib.hid (HBF.out.trans (hbG.mono HBF.out.size))
        have HXG := Lib.hid ((hbG.block _ hsF).trans HXF.out)
        have HRG := Lib.hid (HRF.out.under hbG)
        have hsG : b0 < wG.heap.size := Nat.lt_of_lt_of_le hsF hbG.size
        clear hbG HBF HXF HRF hsF HQX
        go_wp2_with fail
        go_roundg (gk - 1)
        case measure => omega
        case rel =>
          refine ⟨j + 1, 6, false, ⟨#[]⟩, p3, p4, 0, q3, 2, q4, by rw [← HY6.out], by first | rfl | (congr 1), by omega, HBG, HXG, Lib.hid ?_, hsG⟩
          rw [mkN, HU.out]
          exact HRG.out
    · have hje : j = K := by omega
      subst hje
      have hltI : ¬ (j : Int) < (j : Int) := by omega
      rw [hTJ]
      have hpl : plainJ (mkN S V j) = TJ := by rw [mkN_plain, HVT'.out, hTJ]
      have hrt := mkN_right S V HT.out HVR.out j
      have hsm := mkN_small S V j l1 HVS.out hK
      have hdp := mkN_depth S V HVD.out j
      have hrd := fun hl => mk_read S V j HT.out HVR.out HVD.out hK hl
      rw [HVT'.out, hTJ] at hrd
      have HRDD := Lib.hid hrd
      clear hrd hTJ HBB HXB HRB hsB HQ HQSE
      obtain ⟨U, hU⟩ : ∃ U, mkN S V j = U := ⟨_, rfl⟩
      rw [hU] at HRR hpl hrt hsm hdp HRDD
      have HPR := Lib.hid (fun ok cs w' h => jprint_any U (jright U (by omega)) ok cs w' h (by rw [hpl]; omega))
      rw [hrt, hpl] at HPR
      simp only [if_true] at HPR
      have HDE := Lib.hid (fun ok cs w' h => jdepth U (by omega) ok cs w' h)
      rw [hdp] at HDE
      have HSA := Lib.hid (fun ok ok' cs cs' w' h h' => jsame_any U U ok ok' cs cs' w' h h' (by omega) (by omega))
      rw [show sameJ U U = true by unfold sameJ; simp [hrt]] at HSA
      clear hU hpl hrt hsm hdp HVT' HVS HVR HVD HTL
      obtain ⟨x0, x1, x2, x3, x4⟩ := five_at HXR.out (Below.refl wr.heap.size wr) hsR
      go_wp2_with fail
      refine (HPR.out _ [.int .i64 kk, .bool yy, .string tt, .slice a3 m3 c3, .slice a4 m4 c4] wr HRR.out).mono ?_
      rintro e wI ⟨rfl, hbI⟩
      have HBI := Lib.hid (HBR.out.trans (hbI.mono HBR.out.size))
      have HXI := Lib.hid ((hbI.block _ hsR).trans HXR.out)
      have HRI := Lib.hid (HRR.out.under hbI)
      have hsI : b0 < wI.heap.size := Nat.lt_of_lt_of_le hsR hbI.size
      obtain ⟨cc, wJ, hcv, hbJ, hrdJ, -⟩ := bytes_of_str TJ wI
      have HBJ := Lib.hid (HBI.out.trans (hbJ.mono HBI.out.size))
      have HXJ := Lib.hid ((hbJ.block _ hsI).trans HXI.out)
      have HRJ := Lib.hid (HRI.out.under hbJ)
      have hsJ : b0 < wJ.heap.size := Nat.lt_of_lt_of_le hsI hbJ.size
      have HPA := Lib.hid (parse_any TJ (some ⟨wI.heap.size, 0, none⟩) cc 32 wJ hrdJ (by omega))
      clear hbI hbJ hrdJ x0 x1 x2 x3 x4 HBI HXI HRI HBR HXR HRR hsR hsI
      go_wp2_with fail
      refine HPA.out.mono ?_
      rintro e wK ⟨hbK, cs, AA, rfl, hrep⟩
      have HBK := Lib.hid (HBJ.out.trans (hbK.mono HBJ.out.size))
      have HXK := Lib.hid ((hbK.block _ hsJ).trans HXJ.out)
      have HRK := Lib.hid (HRJ.out.under hbK)
      have hsK : b0 < wK.heap.size := Nat.lt_of_lt_of_le hsJ hbK.size
      obtain ⟨PP, hPP⟩ : ∃ P, parseL TJ 32 = P := ⟨_, rfl⟩
      rw [hPP] at hrep HRDD
      rw [hPP]
      obtain ⟨PV, PE⟩ := PP
      simp only at hrep ⊢
      obtain ⟨a5, c5, a6, c6, _, _, rfl, -⟩ := hrep.parts
      unfold strV at *
      obtain ⟨k5, y5, t5, n5, n6, hk, hy, ht, hn5, hn6⟩ : ∃ k y t n1 n2, PV.kind = k ∧ PV.yes = y ∧ (⟨PV.text.toArray⟩ : ByteArray) = t ∧ PV.list.length = n1 ∧ PV.mem.length = n2 := ⟨_, _, _, _, _, rfl, rfl, rfl, rfl, rfl⟩
      rw [hk, hy, ht, hn5, hn6] at hrep
      rw [hk, hy, ht, hn5, hn6]
      have HREP := Lib.hid hrep
      clear hk hy ht hn5 hn6 hbK hrep hPP hcv HPA HBJ HXJ HRJ hsJ
      obtain ⟨b1, hb1⟩ : ∃ b, wK.heap.size = b := ⟨_, rfl⟩
      go_upto_region 17 with (fail)
      generalize hwL : wK.alloc _ = wL
      have hbL : Below wK.heap.size wK wL := by rw [← hwL]; exact (Below.refl _ _).alloc (Nat.le_refl _) _
      have hxL : wL.heap[b1]? = some (.cells #[.int .i64 k5, .bool y5, .string t5, .slice a5 n5 c5, .slice a6 n6 c6] 26 (0, 0)) := by rw [← hwL, ← hb1]; exact heap_alloc_new _ _
      have HBL := Lib.hid (HBK.out.trans (hbL.mono HBK.out.size))
      have HXL := Lib.hid ((hbL.block _ hsK).trans HXK.out)
      have HRL := Lib.hid (HRK.out.under hbL)
      have HREL := Lib.hid (HREP.out.under hbL)
      have hsL : b0 < wL.heap.size := Nat.lt_of_lt_of_le hsK hbL.size
      have hsL1 : b1 < wL.heap.size := (Array.getElem?_eq_some_iff.1 hxL).1
      have HYL := Lib.hid hxL
      clear hwL hbL hxL HBK HXK HRK HREP hsK hb1
      obtain ⟨x0, x1, x2, x3, x4⟩ := five_at HXL.out (Below.refl wL.heap.size wL) hsL
      by_cases hlen : TJ.length ≤ 16384
      case neg =>
        have hlI : (16384 : Int) < (TJ.length : Int) := by omega
        clear HRDD HYL HREL HSA
        go_wp2_with fail
        refine (HDE.out _ [.int .i64 kk, .bool yy, .string tt, .slice a3 m3 c3, .slice a4 m4 c4] wL HRL.out).mono ?_
        rintro e wM ⟨rfl, hbM⟩
        have HBM := Lib.hid (HBL.out.trans (hbM.mono HBL.out.size))
        clear hbM
        go_wp2_with fail
        refine bodyPost_ret (results_tmp rfl _ _ _) rfl ?_
        exact ⟨rfl, HBM.out⟩
      have hlI : ¬ (16384 : Int) < (TJ.length : Int) := by omega
      have hre := HRDD.out hlen
      simp only [Prod.mk.injEq] at hre
      obtain ⟨rfl, rfl⟩ := hre
      clear HRDD
      obtain ⟨y0', y1', y2', y3', y4'⟩ := five_at HYL.out (Below.refl wL.heap.size wL) hsL1
      go_wp2_with fail
      refine (HSA.out _ _ [.int .i64 kk, .bool yy, .string tt, .slice a3 m3 c3, .slice a4 m4 c4] [.int .i64 k5, .bool y5, .string t5, .slice a5 n5 c5, .slice a6 n6 c6] wL HRL.out HREL.out).mono ?_
      rintro e wM ⟨rfl, hbM⟩
      have HBM := Lib.hid (HBL.out.trans (hbM.mono HBL.out.size))
      have HXM := Lib.hid ((hbM.block _ hsL).trans HXL.out)
      have HRM := Lib.hid (HRL.out.under hbM)
      have hsM : b0 < wM.heap.size := Nat.lt_of_lt_of_le hsL hbM.size
      clear hbM x0 x1 x2 x3 x4 y0' y1' y2' y3' y4' HBL HXL HYL HRL HREL HSA
      obtain ⟨x0, x1, x2, x3, x4⟩ := five_at HXM.out (Below.refl wM.heap.size wM) hsM
      go_wp2_with fail
      refine (HDE.out _ [.int .i64 kk, .bool yy, .string tt, .slice a3 m3 c3, .slice a4 m4 c4] wM HRM.out).mono ?_
      rintro e wN ⟨rfl, hbN⟩
      have HBN := Lib.hid (HBM.out.trans (hbN.mono HBM.out.size))
      clear hbN
      go_wp2_with fail
      refine bodyPost_ret (results_tmp rfl _ _ _) rfl ?_
      exact ⟨rfl, HBN.out⟩
end Go.Proofs.YtfcokdkbjajohaaGreatDoor
