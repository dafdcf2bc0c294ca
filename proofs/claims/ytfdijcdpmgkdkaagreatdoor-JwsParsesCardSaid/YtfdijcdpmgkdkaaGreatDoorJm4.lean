/- Merged: JwP, App, TxtA, TxtB, TxtC, TxtD, Put, PutK, Shelf, But, JsA, JsB, JsC, JsD, JsE. -/
import Derived.Deep.LoopGhost
import Derived.Deep.DeepCutAuto
import Derived.Laws.Tables
import Derived.Shelf.Strings.Builder1
import Derived.Shelf.Strings.Builder2
import Derived.Shelf.Small.Bits
import Derived.Shelf.Small.Strs
import Derived.Shelf.Small.Wraps
import Derived.Shelf.Strings.BuilderF
import Derived.Shelf.Strings.BuilderK
import Derived.Shelf.Utf8.AppendRune
import Derived.Shelf.Utf8.AppendRunePlain
import Derived.Shelf.Utf8.RuneCount
import Derived.Shelf.Strings.Builder2Cap
import Derived.Shelf.Strconv.Itoa0
import Derived.Shelf.Strconv.Itoa1
import Derived.Shelf.LaysM
import Derived.Shelf.Strconv.Itoa2
import Derived.Shelf.Strconv.Itoa3
import Derived.Shelf.Strconv.ParseIntEmpty
import Derived.Shelf.Strconv.Clone
import Derived.Shelf.Strconv.SyntaxError
import Derived.Shelf.LaysC
import Derived.Shelf.Strconv.ToError
import Derived.Shelf.Strconv.Lower
import Derived.Shelf.Strconv.ParseUint10
import Derived.Shelf.Strconv.ParseUint10Empty
import Derived.Shelf.Strconv.ParseUint10Any
import Derived.Shelf.Strconv.ParseInt10
import Derived.Shelf.Strconv.RangeError
import Derived.Shelf.Strconv.ToErrorRange
import Derived.Shelf.Strconv.ParseUintEmpty
import Derived.Shelf.Strconv.ParseUint10b64
import Derived.Shelf.Strconv.ParseUint10b32
import Derived.Shelf.Strconv.ParseUint10b16
import Derived.Shelf.Strconv.ParseUint10b8
import Derived.Shelf.Strconv.ParseUint10At
import Derived.Shelf.Strconv.ParseInt10At64
import Derived.Shelf.Strconv.ParseInt10At32
import Derived.Shelf.Strconv.ParseInt10At16
import Derived.Shelf.Strconv.ParseInt10At8
import Derived.Shelf.Strconv.ParseInt10All
import Derived.Shelf.Strconv.ParseIntPublic10
import Derived.Shelf.Strconv.ErrVarParseInt
import Derived.Shelf.Strings.Search1
import Derived.Shelf.Strings.Search2
import Derived.Shelf.Strings.Search3
import Derived.Shelf.Strings.Count
import Derived.Shelf.Strings.Shaped
import Derived.Shelf.Sort.Plain
import Derived.Shelf.Strings.Prefix
import Derived.Shelf.Strings.Split
import Derived.Shelf.Strings.Replace
import Derived.Shelf.Strings.SplitShaped
import Derived.Shelf.Strings.RuneCount
import Derived.Shelf.Unicode.DecodeSlow
import Derived.Shelf.Strings.BuilderCap
import Derived.Shelf.Slices.CompactS
import Derived.Shelf.Slices.Cells
import Derived.Shelf.Slices.In.SortNone
import Derived.Test.YtfdijcdpmgkdkaaGreatDoorProg
import Derived.WalkKit
import Derived.WalkSpells
import Derived.WalkLawsBesides
import Derived.KernelRfl
import Derived.Lib.Hide
import Derived.Deep.QuietTactic
import Derived.BigQuiet
import Derived.StillTailTactics
import Derived.RegionTactic
import Derived.ChangeAlike
import Derived.Lib.Builder
import Derived.WalkSmall
import Derived.Outline
import Derived.Test.YtfdijcdpmgkdkaaGreatDoorJm1
import Derived.Test.YtfdijcdpmgkdkaaGreatDoorJm2
import Derived.Test.YtfdijcdpmgkdkaaGreatDoorJm3
set_option linter.unusedVariables false
namespace Go.Proofs.YtfdijcdpmgkdkaaGreatDoor
open Go.RowKit

def algB : List UInt8 := [97, 108, 103]
def hsB : List UInt8 := [72, 83, 50, 53, 54]
def kidB : List UInt8 := [107, 105, 100]
def typB : List UInt8 := [116, 121, 112]
def crtB : List UInt8 := [99, 114, 105, 116]
/-- May a text stand in a header? -/
def wordH (s : List UInt8) : Bool := !s.isEmpty && (decide (s.length ≤ 40) && toldB s)
def headV (kid typ : List UInt8) : JV := jobj [(algB, jstr hsB), (kidB, jstr kid), (typB, jstr typ)]
def headL (kid typ : List UInt8) : List UInt8 := plainJ (headV kid typ)
def signedL (kid typ p : List UInt8) : List UInt8 := enc (headL kid typ) ++ 46 :: enc p
def tokenL (kid typ p key : List UInt8) : List UInt8 := signedL kid typ p ++ 46 :: enc (mac key (signedL kid typ p))
/-- A token, and an error's number. -/
def signL (kid typ p key : List UInt8) : List UInt8 × Int :=
  if wordH kid = false ∨ wordH typ = false then ([], 10) else if 16384 < p.length then ([], 11) else if key.length < 16 then ([], 41) else (tokenL kid typ p key, 0)
/-- A token's parts. -/
structure JP where
  kid : List UInt8
  typ : List UInt8
  pay : List UInt8
  sig : List UInt8
  tag : List UInt8
def JP.no : JP := ⟨[], [], [], [], []⟩
/-- Is a header's value right, but for the method? -/
def headB (v : JV) : Bool := v.kind == 6 && (((strM kidB v).2 && wordH (strM kidB v).1) && ((strM typB v).2 && wordH (strM typB v).1))
def methB (v : JV) : Bool := ((strM algB v).2 && (strM algB v).1 == hsB) && (getJ crtB v).isNone
def partsJ (t : List UInt8) : JP × Int :=
  if 49152 < t.length then (JP.no, 11) else
  match partsL 46 t with
  | [a, b, c] => match dec a, dec b, dec c with
    | some h, some p, some g =>
      if (parseL h 4).2 ≠ 0 ∨ headB (parseL h 4).1 = false ∨ 16384 < p.length ∨ g.length ≠ 32 then (JP.no, 10)
      else if methB (parseL h 4).1 = false then (JP.no, 42)
      else (⟨(strM kidB (parseL h 4).1).1, (strM typB (parseL h 4).1).1, p, a ++ 46 :: b, g⟩, 0)
    | _, _, _ => (JP.no, 10)
  | _ => (JP.no, 10)
def verifyJ (t key : List UInt8) : JP × Int :=
  if (partsJ t).2 ≠ 0 then (JP.no, (partsJ t).2) else if key.length < 16 then (JP.no, 41) else if (partsJ t).1.tag ≠ mac key (partsJ t).1.sig then (JP.no, 40) else ((partsJ t).1, 0)

theorem lt64_dot : ∀ n, n < 64 → lt64 n ≠ 46 := by decide
theorem enc_dot (l : List UInt8) : (46 : UInt8) ∉ enc l := by
  rw [enc_eq, enc3_nums]
  intro h
  obtain ⟨n, hn, e⟩ := List.mem_map.1 h
  exact lt64_dot n (nums3_lt l n hn) e
theorem wordH_told {s : List UInt8} (h : wordH s = true) : toldB s = true ∧ s.length ≤ 40 := by
  unfold wordH at h
  simp only [Bool.and_eq_true, decide_eq_true_eq] at h
  exact ⟨h.2.2, h.2.1⟩
theorem head_right {kid typ : List UInt8} (hk : wordH kid = true) (ht : wordH typ = true) : rightJ (headV kid typ) = true := by
  have e0 : toldB algB = true := by decide +kernel
  have e1 : toldB kidB = true := by decide +kernel
  have e2 : toldB typB = true := by decide +kernel
  have e3 : toldB hsB = true := by decide +kernel
  have h0 := right_strB hsB
  have h1 := right_strB kid
  have h2 := right_strB typ
  rw [e3] at h0
  rw [(wordH_told hk).1] at h1
  rw [(wordH_told ht).1] at h2
  have n1 : kidB ≠ algB := by decide
  have n2 : typB ≠ algB := by decide
  have n3 : typB ≠ kidB := by decide
  have r6 : ∀ m, rightJ (jobj m) = rightM m := by
    intro m
    simp [jobj, rightJ]
  unfold headV
  rw [r6]
  simp [rightM, h0, h1, h2, e0, e1, e2, getM, n1, n2, n3]
theorem headL_eq (kid typ : List UInt8) : headL kid typ = [123, 34, 97, 108, 103, 34, 58, 34, 72, 83, 50, 53, 54, 34, 44, 34, 107, 105, 100, 34, 58] ++ (quoteL kid ++ ([44, 34, 116, 121, 112, 34, 58] ++ (quoteL typ ++ [125]))) := by
  have p6 : ∀ m, plainJ (jobj m) = 123 :: (plainM true m ++ [125]) := by
    intro m
    simp [jobj, plainJ]
  have q1 : quoteL algB = [34, 97, 108, 103, 34] := by decide +kernel
  have q2 : quoteL kidB = [34, 107, 105, 100, 34] := by decide +kernel
  have q3 : quoteL typB = [34, 116, 121, 112, 34] := by decide +kernel
  have q4 : quoteL hsB = [34, 72, 83, 50, 53, 54, 34] := by decide +kernel
  unfold headL headV
  rw [p6]
  simp [plainM, plain_str, q1, q2, q3, q4]
theorem headL_len {kid typ : List UInt8} (hk : wordH kid = true) (ht : wordH typ = true) : (headL kid typ).length ≤ 600 := by
  have h1 := quoteL_len6 kid
  have h2 := quoteL_len6 typ
  have h3 := (wordH_told hk).2
  have h4 := (wordH_told ht).2
  rw [headL_eq]
  simp only [List.length_append, List.length_cons, List.length_nil]
  omega
theorem token_len {kid typ p key : List UInt8} (hk : wordH kid = true) (ht : wordH typ = true) (hp : p.length ≤ 16384) : (signedL kid typ p).length ≤ 24000 ∧ (tokenL kid typ p key).length ≤ 25000 ∧ (tokenL kid typ p key).length = (signedL kid typ p).length + 44 := by
  have h1 := headL_len hk ht
  have h2 := enc_len (headL kid typ)
  have h3 := enc_len p
  have h4 := enc_len (mac key (signedL kid typ p))
  rw [mac_len] at h4
  unfold tokenL
  rw [List.length_append, List.length_cons, h4]
  unfold signedL
  rw [List.length_append, List.length_cons, h2, h3]
  omega
theorem head_head {kid typ : List UInt8} (hk : wordH kid = true) (ht : wordH typ = true) : headB (headV kid typ) = true ∧ methB (headV kid typ) = true ∧ (strM kidB (headV kid typ)).1 = kid ∧ (strM typB (headV kid typ)).1 = typ := by
  have n1 : algB ≠ kidB := by decide
  have n2 : algB ≠ typB := by decide
  have n3 : kidB ≠ typB := by decide
  have n4 : algB ≠ crtB := by decide
  have n5 : kidB ≠ crtB := by decide
  have n6 : typB ≠ crtB := by decide
  have g1 : strM kidB (headV kid typ) = (kid, true) := by
    unfold strM getJ headV
    simp [jobj, JV.kind, JV.mem, getM, n1, jstr, JV.text]
  have g2 : strM typB (headV kid typ) = (typ, true) := by
    unfold strM getJ headV
    simp [jobj, JV.kind, JV.mem, getM, n2, n3, jstr, JV.text]
  have g3 : strM algB (headV kid typ) = (hsB, true) := by
    unfold strM getJ headV
    simp [jobj, JV.kind, JV.mem, getM, jstr, JV.text]
  have g4 : getJ crtB (headV kid typ) = none := by
    unfold getJ headV
    simp [jobj, JV.kind, JV.mem, getM, n4, n5, n6]
  have g5 : (headV kid typ).kind = 6 := rfl
  refine ⟨?_, ?_, by rw [g1], by rw [g2]⟩
  · unfold headB
    rw [g1, g2, g5, hk, ht]
    rfl
  · unfold methB
    rw [g3, g4]
    decide
theorem three_dots {a b c : List UInt8} (ha : (46 : UInt8) ∉ a) (hb : (46 : UInt8) ∉ b) : partsL 46 ((a ++ 46 :: b) ++ 46 :: c) = a :: b :: partsL 46 c := by
  rw [List.append_assoc, List.cons_append, partsL_hit 46 a _ ha, partsL_hit 46 b _ hb]
/-- What a signed text's parts are, its tag replaced. -/
theorem parts_signed {kid typ p : List UInt8} (c : List UInt8) (hk : wordH kid = true) (ht : wordH typ = true) (hp : p.length ≤ 16384) (hc : c.length ≤ 50) (h46 : (46 : UInt8) ∉ c) :
    partsJ (signedL kid typ p ++ 46 :: c) = match dec c with
      | some g => if g.length ≠ 32 then (JP.no, 10) else (⟨kid, typ, p, signedL kid typ p, g⟩, 0)
      | none => (JP.no, 10) := by
  have hl := (token_len (key := []) hk ht hp).1
  have hpl := parse_plain (headV kid typ) (head_right hk ht) (by have := headL_len hk ht; unfold headL at this; omega) 4 (by decide) (by decide)
  obtain ⟨h1, h2, h3, h4⟩ := head_head hk ht
  have hop : openJ (headV kid typ) ≤ 4 := by
    have := open_depth (headV kid typ)
    have hd : depthJ (headV kid typ) = 2 := by simp [headV, jobj, depthJ, depthM, jstr]
    omega
  have hpl' : parseL (headL kid typ) 4 = (headV kid typ, 0) := by
    unfold headL
    rw [hpl, if_pos (by omega)]
  unfold partsJ
  rw [if_neg (by rw [List.length_append, List.length_cons]; omega)]
  unfold signedL
  rw [three_dots (enc_dot _) (enc_dot _), partsL_none 46 c h46]
  simp only [dec_enc]
  cases dec c with
  | none => rfl
  | some g =>
    simp only [hpl', h1, h2, h3, h4]
    by_cases hg : g.length = 32
    · rw [if_neg (by rintro (h | h | h | h) <;> first | exact h rfl | cases h | omega), if_neg (by decide), if_neg (by omega)]
    · rw [if_pos (.inr (.inr (.inr hg))), if_pos hg]
theorem parts_token {kid typ p key : List UInt8} (hk : wordH kid = true) (ht : wordH typ = true) (hp : p.length ≤ 16384) :
    partsJ (tokenL kid typ p key) = (⟨kid, typ, p, signedL kid typ p, mac key (signedL kid typ p)⟩, 0) := by
  unfold tokenL
  rw [parts_signed _ hk ht hp (by rw [enc_len, mac_len]; decide) (enc_dot _)]
  simp only [dec_enc]
  rw [if_neg (by rw [mac_len]; decide)]
/-- A tag's letter changed: it is verified no more. -/
theorem turned {kid typ p key : List UInt8} (hk : wordH kid = true) (ht : wordH typ = true) (hp : p.length ≤ 16384) (j : Nat) (hj : j < 43) (c : UInt8)
    (hc : (tokenL kid typ p key).getD ((signedL kid typ p).length + 1 + j) 0 ≠ c) : (verifyJ ((tokenL kid typ p key).set ((signedL kid typ p).length + 1 + j) c) key).2 ≠ 0 := by
  have hl := enc_len (mac key (signedL kid typ p))
  rw [mac_len] at hl
  have hset : (tokenL kid typ p key).set ((signedL kid typ p).length + 1 + j) c = signedL kid typ p ++ 46 :: (enc (mac key (signedL kid typ p))).set j c := by
    unfold tokenL
    rw [List.set_append_right _ _ (by omega), show (signedL kid typ p).length + 1 + j - (signedL kid typ p).length = j + 1 by omega]
    rfl
  have hget : (tokenL kid typ p key).getD ((signedL kid typ p).length + 1 + j) 0 = (enc (mac key (signedL kid typ p))).getD j 0 := by
    unfold tokenL
    rw [List.getD_eq_getElem?_getD, List.getD_eq_getElem?_getD, List.getElem?_append_right (by omega), show (signedL kid typ p).length + 1 + j - (signedL kid typ p).length = j + 1 by omega]
    rfl
  rw [hget] at hc
  rw [hset]
  generalize hE : enc (mac key (signedL kid typ p)) = E at *
  have hjE : j < E.length := by omega
  have hne : E.set j c ≠ E := by
    intro e
    have h1 : (E.set j c)[j]'(by simpa using hjE) = c := List.getElem_set_self _
    have h2 : (E.set j c)[j]'(by simpa using hjE) = E[j]'hjE := by simp only [e]
    rw [h2] at h1
    apply hc
    rw [List.getD_eq_getElem?_getD, List.getElem?_eq_getElem hjE]
    exact h1
  by_cases h46 : (46 : UInt8) ∈ E.set j c
  · obtain ⟨x, y, e, hx⟩ := first_at 46 _ h46
    have hp3 : partsL 46 (signedL kid typ p ++ 46 :: E.set j c) = enc (headL kid typ) :: enc p :: x :: partsL 46 y := by
      rw [e]
      unfold signedL
      rw [three_dots (enc_dot _) (enc_dot _), partsL_hit 46 x y hx]
    obtain ⟨q, r, hq⟩ : ∃ q r, partsL 46 y = q :: r := by
      cases h : partsL 46 y with
      | nil => exact absurd h (partsL_ne 46 y)
      | cons q r => exact ⟨q, r, rfl⟩
    rw [hq] at hp3
    have : (partsJ (signedL kid typ p ++ 46 :: E.set j c)).2 ≠ 0 := by
      unfold partsJ
      rw [hp3]
      split
      · decide
      · show (10 : Int) ≠ 0
        decide
    unfold verifyJ
    rw [if_pos this]
    exact this
  · have hps := parts_signed (E.set j c) hk ht hp (by rw [List.length_set]; omega) h46
    cases hd : dec (E.set j c) with
    | none =>
      rw [hd] at hps
      simp only at hps
      unfold verifyJ
      rw [hps, if_pos (by decide)]
      decide
    | some g =>
      rw [hd] at hps
      simp only at hps
      by_cases hg : g.length = 32
      · rw [if_neg (by omega)] at hps
        unfold verifyJ
        rw [hps, if_neg (by simp)]
        by_cases hkl : key.length < 16
        · rw [if_pos hkl]
          decide
        · rw [if_neg hkl, if_pos]
          · decide
          · intro e
            have := enc_dec _ _ hd
            simp only at e
            rw [e, hE] at this
            exact hne this.symm
      · rw [if_pos hg] at hps
        unfold verifyJ
        rw [hps, if_pos (by decide)]
        decide
end Go.Proofs.YtfdijcdpmgkdkaaGreatDoor
set_option linter.unusedVariables false
namespace Go.Proofs.YtfdijcdpmgkdkaaGreatDoor
open Go.RowKit

/-- l[i] of a string. -/
theorem str_at (l : List UInt8) (i : Nat) (h : i < l.length) (w : World) : (Instr.index 9 (.string ⟨l.toArray⟩) (.int .i64 (i : Int))).run Tryz.prog w = .ok (.int .u8 (l[i].toNat : Nat)) w := by
  rw [run_index_string w 9 ⟨l.toArray⟩ .i64 _ Tryz.underlying9, dif_pos (by simpa [ByteArray.size] using h)]
  rfl
theorem str_head (l : List UInt8) (j : Nat) (h : j ≤ l.length) (J : Int) (hJ : J = (j : Int)) (w : World) : (Instr.slice 9 (.string ⟨l.toArray⟩) none (some (.int .i64 J)) none).run Tryz.prog w = .ok (.string ⟨(l.take j).toArray⟩) w := by
  subst hJ
  rw [run_slice_string_h w 9 ⟨l.toArray⟩ Tryz.underlying9 .i64 (j : Int) (by omega) (by simp [ByteArray.size]; omega)]
  congr 2
  apply ByteArray.ext
  apply Array.ext'
  simp [ByteArray.data_extract]
theorem str_tail (l : List UInt8) (i : Nat) (h : i ≤ l.length) (I : Int) (hI : I = (i : Int)) (w : World) : (Instr.slice 9 (.string ⟨l.toArray⟩) (some (.int .i64 I)) none none).run Tryz.prog w = .ok (.string ⟨(l.drop i).toArray⟩) w := by
  subst hI
  rw [run_slice_string_l w 9 ⟨l.toArray⟩ Tryz.underlying9 .i64 (i : Int) (by omega) (by simp [ByteArray.size]; omega)]
  congr 2
  apply ByteArray.ext
  apply Array.ext'
  simp [ByteArray.data_extract, ByteArray.size, List.take_of_length_le]
/-- []byte(l). -/
theorem bytes_of_str (l : List UInt8) (w : World) : ∃ c w', (convert 9 41 (.string ⟨l.toArray⟩)).run Tryz.prog w = .ok (.slice (some ⟨w.heap.size, 0, none⟩) l.length c) w' ∧ Below w.heap.size w w' ∧ Rd w' (some ⟨w.heap.size, 0, none⟩) l ∧ w'.heap.size = w.heap.size + 1 := by
  have h := Lib.run_convert_string_bytes (P := Tryz.prog) w 9 41 5 ⟨l.toArray⟩ Tryz.underlying9 Tryz.underlying41 Tryz.underlying5
  refine ⟨_, _, h, ?_, ?_, Lib.bytesWorld_size _ _ _⟩
  · exact ⟨rfl, rfl, rfl, by rw [Lib.bytesWorld_size]; omega, fun k hk => Lib.bytesWorld_at_old _ _ _ _ hk⟩
  · refine .inr ⟨w.heap.size, 0, rfl, fun i hi => ?_⟩
    rw [Nat.zero_add, Lib.bytesWorld_cell w 5 ⟨l.toArray⟩ i (by simpa [ByteArray.size] using hi)]
    simp [List.getD_eq_getElem?_getD, hi]
end Go.Proofs.YtfdijcdpmgkdkaaGreatDoor
set_option linter.unusedVariables false
namespace Go.Proofs.YtfdijcdpmgkdkaaGreatDoor
open Go.RowKit

set_option maxRecDepth 100000 in
set_option maxHeartbeats 4000000 in
theorem in_any (s : List UInt8) (i lo hi : Nat) (I LO HI : Int) (hI : I = i) (hLO : LO = lo) (hHI : HI = hi) (w : World) (hs : s.length ≤ 1000000) :
    Calls Tryz.prog 101 #[.string ⟨s.toArray⟩, .int .i64 I, .int .i64 LO, .int .i64 HI] w fun e w' => e = .returned (.bool (inB s i lo hi)) ∧ w' = w := by
  subst hI hLO hHI
  by_cases h : i < s.length
  · have hix := fun w => str_at s i h w
    have hg : s.getD i 0 = s[i] := by simp [List.getD_eq_getElem?_getD, h]
    have hv : inB s i lo hi = (decide ((lo : Int) ≤ ((s[i].toNat : Nat) : Int)) && decide (((s[i].toNat : Nat) : Int) ≤ (hi : Int))) := by
      unfold inB
      rw [hg, decide_eq_true h, Bool.true_and]
      congr 1 <;> (rw [Bool.eq_iff_iff]; simp)
    have hlt := UInt8.toNat_lt s[i]
    generalize s[i].toNat = b at *
    have hI : (i : Int) < (s.length : Int) := by omega
    have HV := Lib.hid hv
    clear hv hg
    by_cases h1 : (lo : Int) ≤ (b : Int) <;> by_cases h2 : (b : Int) ≤ (hi : Int)
    all_goals
      go_enter Tryz.func101, Tryz.ntmps101
      go_wp2_with fail
      all_goals
        refine bodyPost_ret (results_tmp rfl _ _ _) rfl ?_
        exact ⟨by rw [HV.out]; first | rfl | (simp [h1, h2, Array.getD]; done) | (simp [h1, h2, Array.getD]; omega), rfl⟩
  · have hI : ¬ (i : Int) < (s.length : Int) := by omega
    have hv : inB s i lo hi = false := by unfold inB; rw [decide_eq_false h]; rfl
    have HV := Lib.hid hv
    clear hv
    go_enter Tryz.func101, Tryz.ntmps101
    go_wp2_with fail
    refine bodyPost_ret (results_tmp rfl _ _ _) rfl ?_
    exact ⟨by rw [HV.out]; rfl, rfl⟩

set_option maxRecDepth 100000 in
set_option maxHeartbeats 8000000 in
theorem refchar_any (s : List UInt8) (i : Nat) (h : i < s.length) (w : World) (hs : s.length ≤ 1000000) :
    Calls Tryz.prog 66 #[.string ⟨s.toArray⟩, .int .i64 (i : Int)] w fun e w' => e = .returned (.int .i64 (chr (s.drop i) : Nat)) ∧ w' = w := by
  have hix := fun w => str_at s i h w
  have hi1 : (i : Int) < (s.length : Int) := by omega
  have hv : chr (s.drop i) = chrC s[i].toNat (s.drop i) := by
    unfold chr
    rw [getD_drop]
    simp [List.getD_eq_getElem?_getD, h]
  have hd : ∀ k lo hi, inB (s.drop i) k lo hi = inB s (i + k) lo hi := fun k lo hi => inB_drop s i k lo hi
  unfold chrC at hv
  simp only [hd] at hv
  have hlt := UInt8.toNat_lt s[i]
  generalize s[i].toNat = c at *
  clear hd
  have HV := Lib.hid hv
  clear hv
  by_cases h1 : c < 128
  · have hv := HV.out
    rw [if_pos h1] at hv
    have HV1 := Lib.hid hv
    clear hv HV
    go_enter Tryz.func66, Tryz.ntmps66
    go_wp2_with fail
    refine bodyPost_ret (results_tmp rfl _ _ _) rfl ?_
    exact ⟨by rw [HV1.out]; rfl, rfl⟩
  by_cases h2 : c < 194
  · have hv := HV.out
    rw [if_neg h1, if_pos h2] at hv
    have HV1 := Lib.hid hv
    clear hv HV
    have e1 : ¬ (c : Int) = 224 := by omega
    have e2 : ¬ (c : Int) = 237 := by omega
    have e3 : ¬ (c : Int) = 240 := by omega
    have e4 : ¬ (c : Int) = 244 := by omega
    go_enter Tryz.func66, Tryz.ntmps66
    go_wp2_with fail
    refine bodyPost_ret (results_tmp rfl _ _ _) rfl ?_
    exact ⟨by rw [HV1.out]; rfl, rfl⟩
  by_cases h3 : c < 224
  · have hv := HV.out
    rw [if_neg h1, if_neg h2, if_pos h3] at hv
    have HV1 := Lib.hid hv
    clear hv HV
    have e1 : ¬ (c : Int) = 224 := by omega
    have e2 : ¬ (c : Int) = 237 := by omega
    have e3 : ¬ (c : Int) = 240 := by omega
    have e4 : ¬ (c : Int) = 244 := by omega
    go_enter Tryz.func66, Tryz.ntmps66
    go_wp2_with fail
    refine (in_any s (i + 1) 128 191 _ _ _ (by omega) rfl rfl _ hs).mono ?_
    rintro e w1 ⟨rfl, rfl⟩
    cases hb : inB s (i + 1) 128 191 with
    | true =>
      rw [hb] at HV1
      clear hb
      go_wp2_with fail
      refine bodyPost_ret (results_tmp rfl _ _ _) rfl ?_
      exact ⟨by rw [HV1.out]; rfl, rfl⟩
    | false =>
      rw [hb] at HV1
      clear hb
      go_wp2_with fail
      refine bodyPost_ret (results_tmp rfl _ _ _) rfl ?_
      exact ⟨by rw [HV1.out]; rfl, rfl⟩
  by_cases h4 : c = 224
  · subst h4
    have hv := HV.out
    rw [if_neg h1, if_neg h2, if_neg h3, if_pos (show (224 : Nat) < 240 by decide), show lo3 224 = 160 from rfl, show hi3 224 = 191 from rfl] at hv
    have HV1 := Lib.hid hv
    clear hv HV
    go_enter Tryz.func66, Tryz.ntmps66
    go_wp2_with fail
    refine (in_any s (i + 1) 160 191 _ _ _ (by omega) rfl rfl _ hs).mono ?_
    rintro e w1 ⟨rfl, rfl⟩
    cases hb1 : inB s (i + 1) 160 191 with
    | false =>
      rw [hb1] at HV1
      clear hb1
      go_wp2_with fail
      refine bodyPost_ret (results_tmp rfl _ _ _) rfl ?_
      exact ⟨by rw [HV1.out]; rfl, rfl⟩
    | true =>
      rw [hb1] at HV1
      clear hb1
      go_wp2_with fail
      refine (in_any s (i + 2) 128 191 _ _ _ (by omega) rfl rfl _ hs).mono ?_
      rintro e w2 ⟨rfl, rfl⟩
      cases hb2 : inB s (i + 2) 128 191 with
      | false =>
        rw [hb2] at HV1
        clear hb2
        go_wp2_with fail
        refine bodyPost_ret (results_tmp rfl _ _ _) rfl ?_
        exact ⟨by rw [HV1.out]; rfl, rfl⟩
      | true =>
        rw [hb2] at HV1
        clear hb2
        go_wp2_with fail
        refine bodyPost_ret (results_tmp rfl _ _ _) rfl ?_
        exact ⟨by rw [HV1.out]; rfl, rfl⟩
  by_cases h5 : c = 237
  · subst h5
    have hv := HV.out
    rw [if_neg h1, if_neg h2, if_neg h3, if_pos (show (237 : Nat) < 240 by decide), show lo3 237 = 128 from rfl, show hi3 237 = 159 from rfl] at hv
    have HV1 := Lib.hid hv
    clear hv HV
    go_enter Tryz.func66, Tryz.ntmps66
    go_wp2_with fail
    refine (in_any s (i + 1) 128 159 _ _ _ (by omega) rfl rfl _ hs).mono ?_
    rintro e w1 ⟨rfl, rfl⟩
    cases hb1 : inB s (i + 1) 128 159 with
    | false =>
      rw [hb1] at HV1
      clear hb1
      go_wp2_with fail
      refine bodyPost_ret (results_tmp rfl _ _ _) rfl ?_
      exact ⟨by rw [HV1.out]; rfl, rfl⟩
    | true =>
      rw [hb1] at HV1
      clear hb1
      go_wp2_with fail
      refine (in_any s (i + 2) 128 191 _ _ _ (by omega) rfl rfl _ hs).mono ?_
      rintro e w2 ⟨rfl, rfl⟩
      cases hb2 : inB s (i + 2) 128 191 with
      | false =>
        rw [hb2] at HV1
        clear hb2
        go_wp2_with fail
        refine bodyPost_ret (results_tmp rfl _ _ _) rfl ?_
        exact ⟨by rw [HV1.out]; rfl, rfl⟩
      | true =>
        rw [hb2] at HV1
        clear hb2
        go_wp2_with fail
        refine bodyPost_ret (results_tmp rfl _ _ _) rfl ?_
        exact ⟨by rw [HV1.out]; rfl, rfl⟩
  by_cases h6 : c < 240
  · have el : lo3 c = 128 := by unfold lo3; rw [if_neg h4]
    have eh : hi3 c = 191 := by unfold hi3; rw [if_neg h5]
    have hv := HV.out
    rw [if_neg h1, if_neg h2, if_neg h3, if_pos h6, el, eh] at hv
    have HV1 := Lib.hid hv
    clear hv HV
    clear el eh
    have e224 : ¬ (c : Int) = 224 := by omega
    have e237 : ¬ (c : Int) = 237 := by omega
    have e240 : ¬ (c : Int) = 240 := by omega
    have e244 : ¬ (c : Int) = 244 := by omega
    go_enter Tryz.func66, Tryz.ntmps66
    go_wp2_with fail
    refine (in_any s (i + 1) 128 191 _ _ _ (by omega) rfl rfl _ hs).mono ?_
    rintro e w1 ⟨rfl, rfl⟩
    cases hb1 : inB s (i + 1) 128 191 with
    | false =>
      rw [hb1] at HV1
      clear hb1
      go_wp2_with fail
      refine bodyPost_ret (results_tmp rfl _ _ _) rfl ?_
      exact ⟨by rw [HV1.out]; rfl, rfl⟩
    | true =>
      rw [hb1] at HV1
      clear hb1
      go_wp2_with fail
      refine (in_any s (i + 2) 128 191 _ _ _ (by omega) rfl rfl _ hs).mono ?_
      rintro e w2 ⟨rfl, rfl⟩
      cases hb2 : inB s (i + 2) 128 191 with
      | false =>
        rw [hb2] at HV1
        clear hb2
        go_wp2_with fail
        refine bodyPost_ret (results_tmp rfl _ _ _) rfl ?_
        exact ⟨by rw [HV1.out]; rfl, rfl⟩
      | true =>
        rw [hb2] at HV1
        clear hb2
        go_wp2_with fail
        refine bodyPost_ret (results_tmp rfl _ _ _) rfl ?_
        exact ⟨by rw [HV1.out]; rfl, rfl⟩
  by_cases h7 : c = 240
  · subst h7
    have hv := HV.out
    rw [if_neg h1, if_neg h2, if_neg h3, if_neg h6, if_pos (show (240 : Nat) < 245 by decide), show lo4 240 = 144 from rfl, show hi4 240 = 191 from rfl] at hv
    have HV1 := Lib.hid hv
    clear hv HV
    go_enter Tryz.func66, Tryz.ntmps66
    go_wp2_with fail
    refine (in_any s (i + 1) 144 191 _ _ _ (by omega) rfl rfl _ hs).mono ?_
    rintro e w1 ⟨rfl, rfl⟩
    cases hb1 : inB s (i + 1) 144 191 with
    | false =>
      rw [hb1] at HV1
      clear hb1
      go_wp2_with fail
      refine bodyPost_ret (results_tmp rfl _ _ _) rfl ?_
      exact ⟨by rw [HV1.out]; rfl, rfl⟩
    | true =>
      rw [hb1] at HV1
      clear hb1
      go_wp2_with fail
      refine (in_any s (i + 2) 128 191 _ _ _ (by omega) rfl rfl _ hs).mono ?_
      rintro e w2 ⟨rfl, rfl⟩
      cases hb2 : inB s (i + 2) 128 191 with
      | false =>
        rw [hb2] at HV1
        clear hb2
        go_wp2_with fail
        refine bodyPost_ret (results_tmp rfl _ _ _) rfl ?_
        exact ⟨by rw [HV1.out]; rfl, rfl⟩
      | true =>
        rw [hb2] at HV1
        clear hb2
        go_wp2_with fail
        refine (in_any s (i + 3) 128 191 _ _ _ (by omega) rfl rfl _ hs).mono ?_
        rintro e w3 ⟨rfl, rfl⟩
        cases hb3 : inB s (i + 3) 128 191 with
        | false =>
          rw [hb3] at HV1
          clear hb3
          go_wp2_with fail
          refine bodyPost_ret (results_tmp rfl _ _ _) rfl ?_
          exact ⟨by rw [HV1.out]; rfl, rfl⟩
        | true =>
          rw [hb3] at HV1
          clear hb3
          go_wp2_with fail
          refine bodyPost_ret (results_tmp rfl _ _ _) rfl ?_
          exact ⟨by rw [HV1.out]; rfl, rfl⟩
  by_cases h8 : c = 244
  · subst h8
    have hv := HV.out
    rw [if_neg h1, if_neg h2, if_neg h3, if_neg h6, if_pos (show (244 : Nat) < 245 by decide), show lo4 244 = 128 from rfl, show hi4 244 = 143 from rfl] at hv
    have HV1 := Lib.hid hv
    clear hv HV
    go_enter Tryz.func66, Tryz.ntmps66
    go_wp2_with fail
    refine (in_any s (i + 1) 128 143 _ _ _ (by omega) rfl rfl _ hs).mono ?_
    rintro e w1 ⟨rfl, rfl⟩
    cases hb1 : inB s (i + 1) 128 143 with
    | false =>
      rw [hb1] at HV1
      clear hb1
      go_wp2_with fail
      refine bodyPost_ret (results_tmp rfl _ _ _) rfl ?_
      exact ⟨by rw [HV1.out]; rfl, rfl⟩
    | true =>
      rw [hb1] at HV1
      clear hb1
      go_wp2_with fail
      refine (in_any s (i + 2) 128 191 _ _ _ (by omega) rfl rfl _ hs).mono ?_
      rintro e w2 ⟨rfl, rfl⟩
      cases hb2 : inB s (i + 2) 128 191 with
      | false =>
        rw [hb2] at HV1
        clear hb2
        go_wp2_with fail
        refine bodyPost_ret (results_tmp rfl _ _ _) rfl ?_
        exact ⟨by rw [HV1.out]; rfl, rfl⟩
      | true =>
        rw [hb2] at HV1
        clear hb2
        go_wp2_with fail
        refine (in_any s (i + 3) 128 191 _ _ _ (by omega) rfl rfl _ hs).mono ?_
        rintro e w3 ⟨rfl, rfl⟩
        cases hb3 : inB s (i + 3) 128 191 with
        | false =>
          rw [hb3] at HV1
          clear hb3
          go_wp2_with fail
          refine bodyPost_ret (results_tmp rfl _ _ _) rfl ?_
          exact ⟨by rw [HV1.out]; rfl, rfl⟩
        | true =>
          rw [hb3] at HV1
          clear hb3
          go_wp2_with fail
          refine bodyPost_ret (results_tmp rfl _ _ _) rfl ?_
          exact ⟨by rw [HV1.out]; rfl, rfl⟩
  by_cases h9 : c < 245
  · have el : lo4 c = 128 := by unfold lo4; rw [if_neg h7]
    have eh : hi4 c = 191 := by unfold hi4; rw [if_neg h8]
    have hv := HV.out
    rw [if_neg h1, if_neg h2, if_neg h3, if_neg h6, if_pos h9, el, eh] at hv
    have HV1 := Lib.hid hv
    clear hv HV
    clear el eh
    have e224 : ¬ (c : Int) = 224 := by omega
    have e237 : ¬ (c : Int) = 237 := by omega
    have e240 : ¬ (c : Int) = 240 := by omega
    have e244 : ¬ (c : Int) = 244 := by omega
    go_enter Tryz.func66, Tryz.ntmps66
    go_wp2_with fail
    refine (in_any s (i + 1) 128 191 _ _ _ (by omega) rfl rfl _ hs).mono ?_
    rintro e w1 ⟨rfl, rfl⟩
    cases hb1 : inB s (i + 1) 128 191 with
    | false =>
      rw [hb1] at HV1
      clear hb1
      go_wp2_with fail
      refine bodyPost_ret (results_tmp rfl _ _ _) rfl ?_
      exact ⟨by rw [HV1.out]; rfl, rfl⟩
    | true =>
      rw [hb1] at HV1
      clear hb1
      go_wp2_with fail
      refine (in_any s (i + 2) 128 191 _ _ _ (by omega) rfl rfl _ hs).mono ?_
      rintro e w2 ⟨rfl, rfl⟩
      cases hb2 : inB s (i + 2) 128 191 with
      | false =>
        rw [hb2] at HV1
        clear hb2
        go_wp2_with fail
        refine bodyPost_ret (results_tmp rfl _ _ _) rfl ?_
        exact ⟨by rw [HV1.out]; rfl, rfl⟩
      | true =>
        rw [hb2] at HV1
        clear hb2
        go_wp2_with fail
        refine (in_any s (i + 3) 128 191 _ _ _ (by omega) rfl rfl _ hs).mono ?_
        rintro e w3 ⟨rfl, rfl⟩
        cases hb3 : inB s (i + 3) 128 191 with
        | false =>
          rw [hb3] at HV1
          clear hb3
          go_wp2_with fail
          refine bodyPost_ret (results_tmp rfl _ _ _) rfl ?_
          exact ⟨by rw [HV1.out]; rfl, rfl⟩
        | true =>
          rw [hb3] at HV1
          clear hb3
          go_wp2_with fail
          refine bodyPost_ret (results_tmp rfl _ _ _) rfl ?_
          exact ⟨by rw [HV1.out]; rfl, rfl⟩
  have hv := HV.out
  rw [if_neg h1, if_neg h2, if_neg h3, if_neg h6, if_neg h9] at hv
  have HV1 := Lib.hid hv
  clear hv HV
  have e224 : ¬ (c : Int) = 224 := by omega
  have e237 : ¬ (c : Int) = 237 := by omega
  have e240 : ¬ (c : Int) = 240 := by omega
  have e244 : ¬ (c : Int) = 244 := by omega
  go_enter Tryz.func66, Tryz.ntmps66
  go_wp2_with fail
  refine bodyPost_ret (results_tmp rfl _ _ _) rfl ?_
  exact ⟨by rw [HV1.out]; rfl, rfl⟩

set_option maxRecDepth 100000 in
set_option maxHeartbeats 4000000 in
theorem refwrong_any (s : List UInt8) (w : World) (hs : s.length ≤ 1000000) :
    Calls Tryz.prog 29 #[.string ⟨s.toArray⟩] w fun e w' => e = .returned (.int .i64 (wrongI s)) ∧ w' = w := by
  go_enter Tryz.func29, Tryz.ntmps29
  go_wp2_with fail
  go_loopg [3] s.length (fun k y wr => ∃ i : Nat, y = .int .i64 (i : Int) ∧ i + k = s.length ∧ wr = w ∧ Hid (wrongL s = (wrongL (s.drop i)).map (· + i)))
  case atStart => exact ⟨0, rfl, by omega, rfl, Lib.hid (by rw [List.drop_zero]; cases wrongL s <;> simp)⟩
  case round =>
    obtain ⟨i, rfl, hi, rfl, HW⟩ := hrel
    by_cases hlt : i < s.length
    · have hltI : (i : Int) < (s.length : Int) := by omega
      go_wp2_with fail
      refine (refchar_any s i hlt _ hs).mono ?_
      rintro e w1 ⟨rfl, rfl⟩
      have hne : s.drop i ≠ [] := by intro h; have := congrArg List.length h; rw [List.length_drop, List.length_nil] at this; omega
      have hw := HW.out
      have hcl := chr_len _ hne
      have hc4 := chr_le (s.drop i)
      rw [wrongL_ne _ hne] at hw
      rw [List.length_drop] at hcl
      rw [List.drop_drop] at hw
      generalize chr (s.drop i) = n at *
      by_cases hz : n = 0
      · subst hz
        rw [if_pos rfl] at hw
        have HW1 := Lib.hid hw
        clear hw HW
        go_wp2_with fail
        refine bodyPost_ret (results_tmp rfl _ _ _) rfl ?_
        exact ⟨by unfold wrongI; rw [HW1.out]; simp [Array.getD], rfl⟩
      · rw [if_neg hz] at hw
        have HW1 := Lib.hid hw
        clear hw HW
        have hzI : ¬ (n : Int) = 0 := by omega
        go_wp2_with fail
        go_roundg (gk - n)
        case measure => omega
        case rel => exact ⟨i + n, by first | rfl | (congr 1), by omega, rfl, Lib.hid (by rw [HW1.out]; cases wrongL (s.drop (i + n)) <;> simp; omega)⟩
    · have hltI : ¬ (i : Int) < (s.length : Int) := by omega
      have hw := HW.out
      rw [List.drop_of_length_le (by omega), wrongL_nil] at hw
      have HW1 := Lib.hid hw
      clear hw HW
      go_wp2_with fail
      refine bodyPost_ret (results_tmp rfl _ _ _) rfl ?_
      exact ⟨by unfold wrongI; rw [HW1.out]; rfl, rfl⟩
end Go.Proofs.YtfdijcdpmgkdkaaGreatDoor
set_option linter.unusedVariables false
namespace Go.Proofs.YtfdijcdpmgkdkaaGreatDoor
open Go.RowKit

def spcell (p : Nat × Nat) : List Value := [.int .u8 (p.1 : Int), .int .u8 (p.2 : Int)]
theorem spcell_len (p : Nat × Nat) : (spcell p).length = 2 := rfl

set_option maxRecDepth 100000 in
set_option maxHeartbeats 4000000 in
theorem has_any (lo hi c : Nat) (w : World) :
    Calls Tryz.prog 129 #[.agg #[.int .u8 (lo : Int), .int .u8 (hi : Int)], .int .u8 (c : Int)] w fun e w' => e = .returned (.bool (hasB (lo, hi) c)) ∧ Below w.heap.size w w' := by
  have hv : hasB (lo, hi) c = (decide ((lo : Int) ≤ (c : Int)) && decide ((c : Int) ≤ (hi : Int))) := by
    unfold hasB
    congr 1 <;> (rw [Bool.eq_iff_iff]; simp)
  have hb : Below w.heap.size w (w.alloc (.cells #[.int .u8 (lo : Int), .int .u8 (hi : Int)] 168)) := (Below.refl _ _).alloc (Nat.le_refl _) _
  have HV := Lib.hid hv
  have HB := Lib.hid hb
  clear hv hb
  by_cases h1 : (lo : Int) ≤ (c : Int) <;> by_cases h2 : (c : Int) ≤ (hi : Int)
  all_goals
    go_enter Tryz.func129, Tryz.ntmps129
    go_wp2_with fail
    refine bodyPost_ret (results_tmp rfl _ _ _) rfl ?_
    exact ⟨by rw [HV.out]; first | rfl | (simp [h1, h2, Array.getD]; done) | (simp [h1, h2, Array.getD]; omega), HB.out⟩

set_option maxHeartbeats 1000000 in
theorem further_any (w : World) :
    Calls Tryz.prog 169 #[] w fun e w' => e = .returned (.agg #[.int .u8 128, .int .u8 191]) ∧ Below w.heap.size w w' := by
  go_enter Tryz.func169, Tryz.ntmps169
  go_wp2
  refine bodyPost_ret (v := .agg #[.int .u8 128, .int .u8 191]) (by simp [results, Tryz.results169, go_sem]) rfl ⟨rfl, ?_⟩
  exact (Below.refl _ _).alloc (Nat.le_refl _) _
def BehindIs (c : Nat) (e : Ending) (w' : World) : Prop :=
  (∃ l a cp, behindL c = some l ∧ e = .returned (.tuple #[.slice a l.length cp, .bool true]) ∧ RdC w' a (l.flatMap spcell)) ∨ (behindL c = none ∧ e = .returned (.tuple #[.slice none 0 0, .bool false]))
theorem heap_new2 (w : World) (o o' : Obj) : ((w.alloc o).alloc o').heap[w.heap.size + 1]? = some o' := by
  have h := heap_alloc_new (w.alloc o) o'
  have e : (w.alloc o).heap.size = w.heap.size + 1 := by simp
  rwa [e] at h

set_option maxRecDepth 100000 in
set_option maxHeartbeats 8000000 in
theorem behind_any (c : Nat) (hc : c < 256) (w : World) :
    Calls Tryz.prog 128 #[.int .u8 (c : Int)] w fun e w' => BehindIs c e w' ∧ Below w.heap.size w w' := by
  by_cases h0 : c < 128
  · have hv : behindL c = some [] := by unfold behindL; rw [if_pos h0]
    have HV := Lib.hid hv
    clear hv
    have e224 : ¬ (c : Int) = 224 := by omega
    have e237 : ¬ (c : Int) = 237 := by omega
    have e240 : ¬ (c : Int) = 240 := by omega
    have e244 : ¬ (c : Int) = 244 := by omega
    go_enter Tryz.func128, Tryz.ntmps128
    go_wp2_with fail
    refine (further_any _).mono ?_
    rintro e w1 ⟨rfl, hb1⟩
    have HB1 := Lib.hid (hb1.alloc hb1.size (.cells #[.int .u8 128, .int .u8 191] 168))
    have hsz := hb1.size
    clear hb1
    go_wp2_with fail
    go_ret2
    exact ⟨.inl ⟨[], none, 0, HV.out, rfl, .inl rfl⟩, HB1.out⟩
  by_cases h1 : c < 194
  · have hv : behindL c = none := by unfold behindL; rw [if_neg h0, if_pos h1]
    have HV := Lib.hid hv
    clear hv
    have e224 : ¬ (c : Int) = 224 := by omega
    have e237 : ¬ (c : Int) = 237 := by omega
    have e240 : ¬ (c : Int) = 240 := by omega
    have e244 : ¬ (c : Int) = 244 := by omega
    go_enter Tryz.func128, Tryz.ntmps128
    go_wp2_with fail
    refine (further_any _).mono ?_
    rintro e w1 ⟨rfl, hb1⟩
    have HB1 := Lib.hid (hb1.alloc hb1.size (.cells #[.int .u8 128, .int .u8 191] 168))
    have hsz := hb1.size
    clear hb1
    go_wp2_with fail
    go_ret2
    exact ⟨.inr ⟨HV.out, rfl⟩, HB1.out⟩
  by_cases h2 : c < 224
  · have hv : behindL c = some [(128, 191)] := by unfold behindL; rw [if_neg h0, if_neg h1, if_pos h2]
    have HV := Lib.hid hv
    clear hv
    have e224 : ¬ (c : Int) = 224 := by omega
    have e237 : ¬ (c : Int) = 237 := by omega
    have e240 : ¬ (c : Int) = 240 := by omega
    have e244 : ¬ (c : Int) = 244 := by omega
    go_enter Tryz.func128, Tryz.ntmps128
    go_wp2_with fail
    refine (further_any _).mono ?_
    rintro e w1 ⟨rfl, hb1⟩
    have HB1 := Lib.hid (hb1.alloc hb1.size (.cells #[.int .u8 128, .int .u8 191] 168))
    have hsz := hb1.size
    clear hb1
    go_wp2_with fail
    go_ret2
    exact ⟨.inl ⟨_, _, _, HV.out, rfl, RdC.of_lit (heap_new2 _ _ _) rfl⟩, HB1.out.alloc (by simp; omega) _⟩
  by_cases h3 : c = 224
  · have hv : behindL c = some [(160, 191), (128, 191)] := by unfold behindL; rw [if_neg h0, if_neg h1, if_neg h2, if_pos h3]
    have HV := Lib.hid hv
    clear hv
    subst h3
    go_enter Tryz.func128, Tryz.ntmps128
    go_wp2_with fail
    refine (further_any _).mono ?_
    rintro e w1 ⟨rfl, hb1⟩
    have HB1 := Lib.hid (hb1.alloc hb1.size (.cells #[.int .u8 128, .int .u8 191] 168))
    have hsz := hb1.size
    clear hb1
    go_wp2_with fail
    go_ret2
    exact ⟨.inl ⟨_, _, _, HV.out, rfl, RdC.of_lit (heap_new2 _ _ _) rfl⟩, HB1.out.alloc (by simp; omega) _⟩
  by_cases h4 : c = 237
  · have hv : behindL c = some [(128, 159), (128, 191)] := by unfold behindL; rw [if_neg h0, if_neg h1, if_neg h2, if_neg h3, if_pos h4]
    have HV := Lib.hid hv
    clear hv
    subst h4
    go_enter Tryz.func128, Tryz.ntmps128
    go_wp2_with fail
    refine (further_any _).mono ?_
    rintro e w1 ⟨rfl, hb1⟩
    have HB1 := Lib.hid (hb1.alloc hb1.size (.cells #[.int .u8 128, .int .u8 191] 168))
    have hsz := hb1.size
    clear hb1
    go_wp2_with fail
    go_ret2
    exact ⟨.inl ⟨_, _, _, HV.out, rfl, RdC.of_lit (heap_new2 _ _ _) rfl⟩, HB1.out.alloc (by simp; omega) _⟩
  by_cases h5 : c < 240
  · have hv : behindL c = some [(128, 191), (128, 191)] := by unfold behindL; rw [if_neg h0, if_neg h1, if_neg h2, if_neg h3, if_neg h4, if_pos h5]
    have HV := Lib.hid hv
    clear hv
    have e224 : ¬ (c : Int) = 224 := by omega
    have e237 : ¬ (c : Int) = 237 := by omega
    have e240 : ¬ (c : Int) = 240 := by omega
    have e244 : ¬ (c : Int) = 244 := by omega
    go_enter Tryz.func128, Tryz.ntmps128
    go_wp2_with fail
    refine (further_any _).mono ?_
    rintro e w1 ⟨rfl, hb1⟩
    have HB1 := Lib.hid (hb1.alloc hb1.size (.cells #[.int .u8 128, .int .u8 191] 168))
    have hsz := hb1.size
    clear hb1
    go_wp2_with fail
    go_ret2
    exact ⟨.inl ⟨_, _, _, HV.out, rfl, RdC.of_lit (heap_new2 _ _ _) rfl⟩, HB1.out.alloc (by simp; omega) _⟩
  by_cases h6 : c = 240
  · have hv : behindL c = some [(144, 191), (128, 191), (128, 191)] := by unfold behindL; rw [if_neg h0, if_neg h1, if_neg h2, if_neg h3, if_neg h4, if_neg h5, if_pos h6]
    have HV := Lib.hid hv
    clear hv
    subst h6
    go_enter Tryz.func128, Tryz.ntmps128
    go_wp2_with fail
    refine (further_any _).mono ?_
    rintro e w1 ⟨rfl, hb1⟩
    have HB1 := Lib.hid (hb1.alloc hb1.size (.cells #[.int .u8 128, .int .u8 191] 168))
    have hsz := hb1.size
    clear hb1
    go_wp2_with fail
    go_ret2
    exact ⟨.inl ⟨_, _, _, HV.out, rfl, RdC.of_lit (heap_new2 _ _ _) rfl⟩, HB1.out.alloc (by simp; omega) _⟩
  by_cases h7 : c < 244
  · have hv : behindL c = some [(128, 191), (128, 191), (128, 191)] := by unfold behindL; rw [if_neg h0, if_neg h1, if_neg h2, if_neg h3, if_neg h4, if_neg h5, if_neg h6, if_pos h7]
    have HV := Lib.hid hv
    clear hv
    have e224 : ¬ (c : Int) = 224 := by omega
    have e237 : ¬ (c : Int) = 237 := by omega
    have e240 : ¬ (c : Int) = 240 := by omega
    have e244 : ¬ (c : Int) = 244 := by omega
    go_enter Tryz.func128, Tryz.ntmps128
    go_wp2_with fail
    refine (further_any _).mono ?_
    rintro e w1 ⟨rfl, hb1⟩
    have HB1 := Lib.hid (hb1.alloc hb1.size (.cells #[.int .u8 128, .int .u8 191] 168))
    have hsz := hb1.size
    clear hb1
    go_wp2_with fail
    go_ret2
    exact ⟨.inl ⟨_, _, _, HV.out, rfl, RdC.of_lit (heap_new2 _ _ _) rfl⟩, HB1.out.alloc (by simp; omega) _⟩
  by_cases h8 : c = 244
  · have hv : behindL c = some [(128, 143), (128, 191), (128, 191)] := by unfold behindL; rw [if_neg h0, if_neg h1, if_neg h2, if_neg h3, if_neg h4, if_neg h5, if_neg h6, if_neg h7, if_pos h8]
    have HV := Lib.hid hv
    clear hv
    subst h8
    go_enter Tryz.func128, Tryz.ntmps128
    go_wp2_with fail
    refine (further_any _).mono ?_
    rintro e w1 ⟨rfl, hb1⟩
    have HB1 := Lib.hid (hb1.alloc hb1.size (.cells #[.int .u8 128, .int .u8 191] 168))
    have hsz := hb1.size
    clear hb1
    go_wp2_with fail
    go_ret2
    exact ⟨.inl ⟨_, _, _, HV.out, rfl, RdC.of_lit (heap_new2 _ _ _) rfl⟩, HB1.out.alloc (by simp; omega) _⟩
  have hv : behindL c = none := by unfold behindL; rw [if_neg h0, if_neg h1, if_neg h2, if_neg h3, if_neg h4, if_neg h5, if_neg h6, if_neg h7, if_neg h8]
  have HV := Lib.hid hv
  clear hv
  have e224 : ¬ (c : Int) = 224 := by omega
  have e237 : ¬ (c : Int) = 237 := by omega
  have e240 : ¬ (c : Int) = 240 := by omega
  have e244 : ¬ (c : Int) = 244 := by omega
  go_enter Tryz.func128, Tryz.ntmps128
  go_wp2_with fail
  refine (further_any _).mono ?_
  rintro e w1 ⟨rfl, hb1⟩
  have HB1 := Lib.hid (hb1.alloc hb1.size (.cells #[.int .u8 128, .int .u8 191] 168))
  have hsz := hb1.size
  clear hb1
  go_wp2_with fail
  go_ret2
  exact ⟨.inr ⟨HV.out, rfl⟩, HB1.out⟩
end Go.Proofs.YtfdijcdpmgkdkaaGreatDoor
set_option linter.unusedVariables false
namespace Go.Proofs.YtfdijcdpmgkdkaaGreatDoor
open Go.RowKit

theorem ent_has : ∀ args w, (callFunc 129 args).run Tryz.prog w = .ok (.enter 129 args) w := run_enters Tryz.func129 (by kernel_rfl) rfl
theorem spansOK_drop (l : List (Nat × Nat)) (r : List UInt8) (j : Nat) (h1 : j < l.length) (h2 : j < r.length) : spansOK (l.drop j) (r.drop j) = (hasB l[j] r[j].toNat && spansOK (l.drop (j + 1)) (r.drop (j + 1))) := by
  rw [List.drop_eq_getElem_cons h1, List.drop_eq_getElem_cons h2]
  rfl

set_option maxRecDepth 100000 in
set_option maxHeartbeats 8000000 in
theorem char_any (s : List UInt8) (hne : s ≠ []) (w : World) (hs : s.length ≤ 1000000) :
    Calls Tryz.prog 93 #[.string ⟨s.toArray⟩] w fun e w' => e = .returned (.int .i64 (chr s : Nat)) ∧ Below w.heap.size w w' := by
  have hl : 0 < s.length := List.length_pos_iff.2 hne
  have hix0 : ∀ w, (Instr.index 9 (.string ⟨s.toArray⟩) (.int .i64 0)).run Tryz.prog w = .ok (.int .u8 (s[0].toNat : Nat)) w := fun w => str_at s 0 hl w
  have hsp := chr_spans s
  have hg : s.getD 0 0 = s[0] := by simp [List.getD_eq_getElem?_getD, hl]
  rw [hg] at hsp
  have hlt := UInt8.toNat_lt s[0]
  generalize s[0].toNat = c at *
  have HSP := Lib.hid hsp
  clear hsp hg
  go_enter Tryz.func93, Tryz.ntmps93
  go_wp2_with fail
  refine (behind_any c hlt w).mono ?_
  rintro e w1 ⟨hbi, hb1⟩
  have HB1 := Lib.hid hb1
  clear hb1
  rcases hbi with ⟨l, a, cp, hbl, rfl, hrc⟩ | ⟨hbl, rfl⟩
  · have hsp := HSP.out
    rw [hbl] at hsp
    simp only at hsp
    have HS1 := Lib.hid hsp
    have HRC := Lib.hid hrc
    have hl3 : l.length ≤ 3 := by
      unfold behindL at hbl
      repeat' split at hbl
      all_goals first | cases hbl | skip
      all_goals simp_all
      all_goals subst hbl; simp
    clear hsp HSP hrc hbl
    by_cases hsh : s.length ≤ l.length
    · have hshI : (s.length : Int) ≤ (l.length : Int) := by omega
      have hz : chr s = 0 := by
        rw [HS1.out, spansOK_short l (s.drop 1) (by rw [List.length_drop]; omega)]
        rfl
      have HZ := Lib.hid hz
      clear hz HS1
      go_wp2_with fail
      refine bodyPost_ret (results_tmp rfl _ _ _) rfl ?_
      exact ⟨by rw [HZ.out]; rfl, HB1.out⟩
    have hshI : ¬ (s.length : Int) ≤ (l.length : Int) := by omega
    go_wp2_with fail
    go_loopg [24] l.length (fun k y wr => ∃ j : Nat, y = .int .i64 (j : Int) ∧ j + k = l.length ∧ Hid (spansOK l (s.drop 1) = spansOK (l.drop j) ((s.drop 1).drop j)) ∧ Hid (RdC wr a (l.flatMap spcell)) ∧ Hid (Below w.heap.size w wr))
    case atStart => exact ⟨0, rfl, by omega, Lib.hid (by rw [List.drop_zero, List.drop_zero]), HRC, HB1⟩
    case round =>
    obtain ⟨j, rfl, hj, HSO, HR, HB⟩ := hrel
    by_cases hlt2 : j < l.length
    · have hltI : (j : Int) < (l.length : Int) := by omega
      obtain ⟨bk, off, rfl, hcl⟩ := HR.out.at (by intro h; have h2 := flat_len spcell 2 spcell_len l; rw [h] at h2; simp at h2; omega)
      have g0 := flat_get spcell 2 spcell_len l j 0 hlt2 (by omega)
      have g1 := flat_get spcell 2 spcell_len l j 1 hlt2 (by omega)
      have c1 := hcl _ _ (g0.trans rfl)
      have c2 := hcl _ _ (g1.trans rfl)
      rw [Nat.add_zero] at c1
      rw [← Nat.add_assoc] at c2
      have hso := HSO.out
      rw [spansOK_drop l (s.drop 1) j hlt2 (by rw [List.length_drop]; omega)] at hso
      have hix := fun w => str_at s (j + 1) (by omega) w
      rw [show ((j + 1 : Nat) : Int) = (j : Int) + 1 by omega] at hix
      have hget : (s.drop 1)[j]'(by rw [List.length_drop]; omega) = s[j + 1]'(by omega) := by
        rw [List.getElem_drop]; congr 1; omega
      rw [hget] at hso
      generalize s[j + 1].toNat = b at *
      generalize hpq : l[j] = pq at *
      obtain ⟨p, q⟩ := pq
      simp only at c1 c2
      have HSO1 := Lib.hid hso
      have HIX := Lib.hid hix
      clear g0 g1 hcl hso hget hix hpq HSO
      go_upto_region 7 with (fail)
      have hal : Below wr.heap.size wr (wr.alloc (.cells #[.int .u8 (p : Int), .int .u8 (q : Int)] 168)) := (Below.refl _ _).alloc (Nat.le_refl _) _
      have hk := heap_alloc_new wr (.cells #[.int .u8 (p : Int), .int .u8 (q : Int)] 168)
      have C1 := Lib.hid (show World.cell? _ ⟨wr.heap.size, 0, none⟩ = some (.int .u8 (p : Int)) by rw [Lib.cell_of_heap hk]; rfl)
      have C2 := Lib.hid (show World.cell? _ ⟨wr.heap.size, 1, none⟩ = some (.int .u8 (q : Int)) by rw [Lib.cell_of_heap hk]; rfl)
      have HBa := Lib.hid (HB.out.trans (hal.mono HB.out.size))
      have HRa := Lib.hid (HR.out.below hal)
      clear hal hk c1 c2 HR HB
      refine wp_region_grow (by kernel_rfl) (by kernel_rfl) [29, 30, 31, 32, 33, 34, 35] rfl (by decide) (by kernel_rfl) (fun iX => [VIs (.agg #[Value.int .u8 (p : Int), Value.int .u8 (q : Int)]), VIs (.string ⟨s.toArray⟩), VIs (.int .i64 (j : Int)), VIs (.int .i64 ((j : Int) + 1)), VIs (.int .u8 (b : Int)), VIs (.bool (hasB (p, q) b)), VIs (.bool (!hasB (p, q) b))].getD iX fun _ _ => True) (stab_list _ ?_) ?_ ?_
      · skip
        intro V hV
        simp only [List.mem_cons, List.mem_nil_iff, or_false] at hV
        rcases hV with rfl | rfl | rfl | rfl | rfl | rfl | rfl <;> first | exact VIs.stab _ | exact VBytes.stab _ | exact VStr.stab _ | exact VParts.stab _ | exact VRow.stab _ | exact VRow8.stab _ _ | exact VRowIs.stab _ _ _
      · intro iX o ho a' w' hf hb hd
        rcases iX with _ | _ | _ | _ | _ | _ | _ | iX
        · cases ho
          refine grow_op rfl rfl rfl ?_
          have c1 := cell_now hb C1.out
          have c2 := cell_now hb C2.out
          have e6 : a'.tmps.getD 6 undef = .pointer (some ⟨wr.heap.size, 0, none⟩) := (hf.same 6 (by decide)).trans rfl
          refine grow_value (v := .agg #[Value.int .u8 (p : Int), Value.int .u8 (q : Int)]) (w' := w') ?_ rfl (Below.refl _ _)
          simp only [execOp, Act.eval]
          go_simp
        · cases ho
          refine grow_op rfl rfl rfl (grow_move rfl ?_)
          exact (hf.same 0 (by decide)).trans rfl
        · cases ho
          refine grow_op rfl rfl rfl (grow_move rfl ?_)
          exact (hf.same 5 (by decide)).trans rfl
        · cases ho
          refine grow_op rfl rfl rfl ?_
          have e2 : a'.tmps.getD 31 undef = .int .i64 (j : Int) := hd 2 (by kernel_rfl)
          refine grow_value (v := .int .i64 ((j : Int) + 1)) (w' := w') ?_ rfl (Below.refl _ _)
          simp only [execOp, Act.eval, e2]
          go_simp
          exact IntWalk.i64_in _ (by omega)
        · cases ho
          refine grow_op rfl rfl rfl ?_
          have e1 : a'.tmps.getD 30 undef = .string ⟨s.toArray⟩ := hd 1 (by kernel_rfl)
          have e3 : a'.tmps.getD 32 undef = .int .i64 ((j : Int) + 1) := hd 3 (by kernel_rfl)
          have hx := HIX.out w'
          refine grow_value (v := .int .u8 (b : Int)) (w' := w') ?_ rfl (Below.refl _ _)
          simp only [execOp, Act.eval, e1, e3]
          go_simp
        · cases ho
          refine grow_op rfl rfl rfl ?_
          have e0 : a'.tmps.getD 29 undef = .agg #[Value.int .u8 (p : Int), Value.int .u8 (q : Int)] := hd 0 (by kernel_rfl)
          have e4 : a'.tmps.getD 33 undef = .int .u8 (b : Int) := hd 4 (by kernel_rfl)
          refine grow_call ent_has rfl ?_
          simp only [List.map_toArray, List.map_cons, List.map_nil, Act.eval, e0, e4]
          exact (has_any p q b w').mono (fun e w'' ⟨h1, h2⟩ => ⟨_, h1, rfl, h2⟩)
        · cases ho
          refine grow_op rfl rfl rfl ?_
          have e5 : a'.tmps.getD 34 undef = .bool (hasB (p, q) b) := hd 5 (by kernel_rfl)
          refine grow_value (v := .bool (!hasB (p, q) b)) (w' := w') ?_ rfl (Below.refl _ _)
          simp only [execOp, Act.eval, e5]
          go_simp
        · simp at ho
      · intro a' w' hf hb hd
        obtain rfl := hf.eq [Value.agg #[Value.int IntKind.u8 (p : Int), Value.int IntKind.u8 (q : Int)], Value.string ⟨s.toArray⟩, Value.int IntKind.i64 (j : Int), Value.int IntKind.i64 ((j : Int) + 1), Value.int IntKind.u8 (b : Int), Value.bool (hasB (p, q) b), Value.bool (!hasB (p, q) b)] (fun j hj => match j, hj with
          | 0, _ => hd 0 (by decide)
          | 1, _ => hd 1 (by decide)
          | 2, _ => hd 2 (by decide)
          | 3, _ => hd 3 (by decide)
          | 4, _ => hd 4 (by decide)
          | 5, _ => hd 5 (by decide)
          | 6, _ => hd 6 (by decide)
          | k + 7, h => absurd h (by simp)) (by decide) (by kernel_rfl) rfl
        simp only [List.zip_cons_cons, List.zip_nil_right, List.foldl_cons, List.foldl_nil, Act.put, List.setIfInBounds_toArray, List.set_cons_succ, List.set_cons_zero]
        have HRx := Lib.hid (HRa.out.below hb)
        have HBx := Lib.hid (HBa.out.trans (hb.mono HBa.out.size))
        clear hf hd hb
        cases hh : hasB (p, q) b with
        | true =>
          have hso := HSO1.out
          rw [hh, Bool.true_and] at hso
          have HSO2 := Lib.hid hso
          clear hso HSO1 hh
          go_wp2_with fail
          go_roundg (gk - 1)
          case measure => omega
          case rel => exact ⟨j + 1, by first | rfl | (congr 1), by omega, HSO2, HRx, HBx⟩
        | false =>
          have hz : chr s = 0 := by rw [HS1.out, HSO1.out, hh]; rfl
          have HZ := Lib.hid hz
          clear hz HS1 HSO1 hh
          go_wp2_with fail
          refine bodyPost_ret (results_tmp rfl _ _ _) rfl ?_
          exact ⟨by rw [HZ.out]; rfl, HBx.out⟩
    · have hltI : ¬ (j : Int) < (l.length : Int) := by omega
      have hso := HSO.out
      rw [List.drop_of_length_le (show l.length ≤ j by omega)] at hso
      have hz : chr s = 1 + l.length := by rw [HS1.out, hso]; rfl
      have HZ := Lib.hid hz
      clear hz HS1 hso HSO
      go_wp2_with fail
      refine bodyPost_ret (results_tmp rfl _ _ _) rfl ?_
      exact ⟨by rw [HZ.out]; simp [Array.getD], HB.out⟩
  · have hz : chr s = 0 := by rw [HSP.out, hbl]
    have HZ := Lib.hid hz
    clear hz HSP hbl
    go_wp2_with fail
    refine bodyPost_ret (results_tmp rfl _ _ _) rfl ?_
    exact ⟨by rw [HZ.out]; rfl, HB1.out⟩
end Go.Proofs.YtfdijcdpmgkdkaaGreatDoor
set_option linter.unusedVariables false
namespace Go.Proofs.YtfdijcdpmgkdkaaGreatDoor
open Go.RowKit

set_option maxRecDepth 100000 in
set_option maxHeartbeats 4000000 in
theorem wrong_any (s : List UInt8) (w : World) (hs : s.length ≤ 1000000) :
    Calls Tryz.prog 54 #[.string ⟨s.toArray⟩] w fun e w' => e = .returned (.int .i64 (wrongI s)) ∧ Below w.heap.size w w' := by
  go_enter Tryz.func54, Tryz.ntmps54
  go_wp2_with fail
  go_loopg [3] s.length (fun k y wr => ∃ i : Nat, y = .int .i64 (i : Int) ∧ i + k = s.length ∧ Hid (Below w.heap.size w wr) ∧ Hid (wrongL s = (wrongL (s.drop i)).map (· + i)))
  case atStart => exact ⟨0, rfl, by omega, Lib.hid (Below.refl _ _), Lib.hid (by rw [List.drop_zero]; cases wrongL s <;> simp)⟩
  case round =>
    obtain ⟨i, rfl, hi, HB, HW⟩ := hrel
    by_cases hlt : i < s.length
    · have hltI : (i : Int) < (s.length : Int) := by omega
      have hsl := fun w => str_tail s i (by omega) (i : Int) rfl w
      have hne : s.drop i ≠ [] := by intro h; have := congrArg List.length h; rw [List.length_drop, List.length_nil] at this; omega
      have hw := HW.out
      have hcl := chr_len _ hne
      have hc4 := chr_le (s.drop i)
      have hdl : (s.drop i).length = s.length - i := List.length_drop
      rw [wrongL_ne _ hne] at hw
      rw [hdl] at hcl
      rw [List.drop_drop] at hw
      generalize s.drop i = t at *
      have HNE := Lib.hid hne
      have HW0 := Lib.hid hw
      clear hw hne HW
      go_wp2_with fail
      refine (char_any t HNE.out wr (by omega)).mono ?_
      rintro e w1 ⟨rfl, hb1⟩
      have HB1 := Lib.hid (HB.out.trans (hb1.mono HB.out.size))
      have hw := HW0.out
      clear hb1 HB HW0 hsl
      generalize chr t = n at *
      by_cases hz : n = 0
      · subst hz
        rw [if_pos rfl] at hw
        have HW1 := Lib.hid hw
        clear hw
        go_wp2_with fail
        refine bodyPost_ret (results_tmp rfl _ _ _) rfl ?_
        exact ⟨by unfold wrongI; rw [HW1.out]; simp [Array.getD], HB1.out⟩
      · rw [if_neg hz] at hw
        have HW1 := Lib.hid hw
        clear hw
        have hzI : ¬ (n : Int) = 0 := by omega
        go_wp2_with fail
        go_roundg (gk - n)
        case measure => omega
        case rel => exact ⟨i + n, by first | rfl | (congr 1), by omega, HB1, Lib.hid (by rw [HW1.out]; cases wrongL (s.drop (i + n)) <;> simp; omega)⟩
    · have hltI : ¬ (i : Int) < (s.length : Int) := by omega
      have hw := HW.out
      rw [List.drop_of_length_le (by omega), wrongL_nil] at hw
      have HW1 := Lib.hid hw
      clear hw HW
      go_wp2_with fail
      refine bodyPost_ret (results_tmp rfl _ _ _) rfl ?_
      exact ⟨by unfold wrongI; rw [HW1.out]; rfl, HB.out⟩
set_option maxHeartbeats 1000000 in
theorem told_any (s : List UInt8) (w : World) (hs : s.length ≤ 1000000) :
    Calls Tryz.prog 45 #[.string ⟨s.toArray⟩] w fun e w' => e = .returned (.bool (toldB s)) ∧ Below w.heap.size w w' := by
  have hn := wrongI_neg s
  have HN := Lib.hid hn
  clear hn
  go_enter Tryz.func45, Tryz.ntmps45
  go_wp2_with fail
  refine (wrong_any s w hs).mono ?_
  rintro e w1 ⟨rfl, hb1⟩
  have HB1 := Lib.hid hb1
  clear hb1
  go_wp2_with fail
  refine bodyPost_ret (results_tmp rfl _ _ _) rfl ?_
  exact ⟨by rw [← HN.out]; rfl, HB1.out⟩
end Go.Proofs.YtfdijcdpmgkdkaaGreatDoor
set_option linter.unusedVariables false
namespace Go.Proofs.YtfdijcdpmgkdkaaGreatDoor
open Go.RowKit

theorem setRow_at {w : World} {g : Nat} {old C : Array Value} {T : TypeId} {fr : Nat × Nat} (h : w.heap[g]? = some (.cells old T fr)) : (w.setRow g C).heap[g]? = some (.cells C T fr) := by
  unfold World.setRow
  simp [Array.getElem?_modify, h]
theorem setRow_block {w : World} {g k : Nat} (C : Array Value) (h : k ≠ g) : (w.setRow g C).heap[k]? = w.heap[k]? := by
  unfold World.setRow
  rw [Array.getElem?_modify, if_neg (Ne.symm h)]
theorem below_setRow {B g : Nat} {a w : World} (h : Below B a w) (hg : B ≤ g) (C : Array Value) : Below B a (w.setRow g C) :=
  ⟨h.os, h.tape, h.output, by rw [setRow_size]; exact h.size, fun k hk => (setRow_block C (by omega)).trans (h.block k hk)⟩

/-- The row holds C. -/
def VRowIs (g : Nat) (T : TypeId) (C : Array Value) : Value → World → Prop := fun _ w => w.heap[g]? = some (.cells C T (0, 0))
theorem VRowIs.stab (g : Nat) (T : TypeId) (C : Array Value) : Stab (VRowIs g T C) := fun v w1 w2 h hb => (hb.block g (Array.getElem?_eq_some_iff.1 h).1).trans h
end Go.Proofs.YtfdijcdpmgkdkaaGreatDoor
set_option linter.unusedVariables false
namespace Go.Proofs.YtfdijcdpmgkdkaaGreatDoor
open Go.RowKit

theorem setCell_row {w : World} {g k : Nat} {x : Value} {old C : Array Value} {T : TypeId} {fr : Nat × Nat} (h : w.heap[g]? = some (.cells old T fr)) (hC : old.setIfInBounds k x = C) : w.setCell ⟨g, k, none⟩ x = w.setRow g C := by
  unfold World.setCell World.setRow
  congr 1
  apply Array.ext_getElem?
  intro i
  rw [Array.getElem?_modify, Array.getElem?_modify]
  by_cases e : g = i
  · subst e
    rw [if_pos rfl, if_pos rfl, h]
    simp [hC]
  · rw [if_neg e, if_neg e]
/-- A block of five cells, or of three, below. -/
theorem five_at {B x : Nat} {w w' : World} {a b c d e : Value} {T : TypeId} {fr : Nat × Nat} (h : w.heap[x]? = some (.cells #[a, b, c, d, e] T fr)) (hb : Below B w w') (hx : x < B) :
    w'.cell? ⟨x, 0, none⟩ = some a ∧ w'.cell? ⟨x, 1, none⟩ = some b ∧ w'.cell? ⟨x, 2, none⟩ = some c ∧ w'.cell? ⟨x, 3, none⟩ = some d ∧ w'.cell? ⟨x, 4, none⟩ = some e := by
  have hx := (hb.block x hx).trans h
  refine ⟨?_, ?_, ?_, ?_, ?_⟩ <;> (rw [Lib.cell_of_heap hx]; rfl)
theorem three_at {B x : Nat} {w w' : World} {a b c : Value} {T : TypeId} {fr : Nat × Nat} (h : w.heap[x]? = some (.cells #[a, b, c] T fr)) (hb : Below B w w') (hx : x < B) :
    w'.cell? ⟨x, 0, none⟩ = some a ∧ w'.cell? ⟨x, 1, none⟩ = some b ∧ w'.cell? ⟨x, 2, none⟩ = some c := by
  have hx := (hb.block x hx).trans h
  refine ⟨?_, ?_, ?_⟩ <;> (rw [Lib.cell_of_heap hx]; rfl)
end Go.Proofs.YtfdijcdpmgkdkaaGreatDoor
namespace Go.Proofs
open Go.Shelf
def Tryz.lays169_ren : Go.Shelf.Ren := ⟨fun | 169 => 53 | n => n, fun | 70 => 85 | 9 => 9 | 0 => 0 | 72 => 87 | 37 => 41 | 127 => 134 | 3 => 3 | 5 => 5 | n => n, fun | n => n⟩
theorem Tryz.lays169 : Go.Proofs.Lays.n169 Tryz.prog Tryz.lays169_ren := {
  mixed := by kernel_rfl
  f169 := Tryz.func53.trans (congrArg some (by kernel_rfl))
  t0 := Tryz.underlying0
  a0 := Tryz.isAgg0
  z0 := Tryz.sizeOf0
  v0 := Tryz.zeroValue0
  t3 := Tryz.underlying3
  a3 := Tryz.isAgg3
  z3 := Tryz.sizeOf3
  v3 := Tryz.zeroValue3
  t9 := Tryz.underlying9
  a9 := Tryz.isAgg9
  z9 := Tryz.sizeOf9
  v9 := Tryz.zeroValue9
  t37 := Tryz.underlying41
  a37 := Tryz.isAgg41
  z37 := Tryz.sizeOf41
  v37 := Tryz.zeroValue41
  t70 := Tryz.underlying85
  a70 := Tryz.isAgg85
  z70 := Tryz.sizeOf85
  v70 := Tryz.zeroValue85
  t72 := Tryz.underlying87
  a72 := Tryz.isAgg87
  z72 := Tryz.sizeOf87
  v72 := Tryz.zeroValue87
  t127 := Tryz.underlying134
  a127 := Tryz.isAgg134
  z127 := Tryz.sizeOf134
  v127 := Tryz.zeroValue134 }
theorem Tryz.Builder_Extra_169 : Builder.Extra Tryz.prog Tryz.lays169_ren := {
  sizeBuilder := by kernel_rfl
  liesBuilder := by kernel_rfl
  t5 := Tryz.underlying5
  a5 := Tryz.isAgg5
  z5 := Tryz.sizeOf5
  v5 := Tryz.zeroValue5
  infoByte := by kernel_rfl
  cellsByte := by kernel_rfl
  sizeByte := by kernel_rfl
  neB5 := by decide }
open Go.RowKit in

open Go.RowKit in

open Go.RowKit in

open Go.RowKit in

open Go.RowKit in

def Tryz.lays137_ren : Go.Shelf.Ren := ⟨fun | 137 => 127 | 217 => 168 | 266 => 200 | n => n, fun | 9 => 9 | 5 => 5 | 3 => 3 | n => n, fun | n => n⟩
theorem Tryz.lays137 : Go.Proofs.Lays.n137 Tryz.prog Tryz.lays137_ren := {
  mixed := by kernel_rfl
  f137 := Tryz.func127.trans (congrArg some (by kernel_rfl))
  f217 := Tryz.func168.trans (congrArg some (by kernel_rfl))
  f266 := Tryz.func200.trans (congrArg some (by kernel_rfl))
  t3 := Tryz.underlying3
  a3 := Tryz.isAgg3
  z3 := Tryz.sizeOf3
  v3 := Tryz.zeroValue3
  t5 := Tryz.underlying5
  a5 := Tryz.isAgg5
  z5 := Tryz.sizeOf5
  v5 := Tryz.zeroValue5
  t9 := Tryz.underlying9
  a9 := Tryz.isAgg9
  z9 := Tryz.sizeOf9
  v9 := Tryz.zeroValue9 }
open Go.RowKit in

theorem Tryz.strings_IndexByte (s : ByteArray) (c : Int) (w : World) :
    Calls Tryz.prog 127 #[.string s, .int .u8 c] w fun e w' => e = .returned (.int .i64 (Lib.indexByte s.data.toList c.toNat.toUInt8)) ∧ w' = w := Any.strings_IndexByte Tryz.lays137 s c w
open Go.RowKit in

def Tryz.lays121_ren : Go.Shelf.Ren := ⟨fun | 121 => 90 | 214 => 126 | n => n, fun | 4 => 4 | 9 => 9 | n => n, fun | n => n⟩
theorem Tryz.lays121 : Go.Proofs.Lays.n121 Tryz.prog Tryz.lays121_ren := {
  mixed := by kernel_rfl
  f121 := Tryz.func90.trans (congrArg some (by kernel_rfl))
  f214 := Tryz.func126.trans (congrArg some (by kernel_rfl))
  t4 := Tryz.underlying4
  a4 := Tryz.isAgg4
  z4 := Tryz.sizeOf4
  v4 := Tryz.zeroValue4
  t9 := Tryz.underlying9
  a9 := Tryz.isAgg9
  z9 := Tryz.sizeOf9
  v9 := Tryz.zeroValue9 }
open Go.RowKit in

theorem Tryz.strconv_FormatBool (b : Bool) (w : World) :
    Calls Tryz.prog 90 #[.bool b] w fun e w' => e = .returned (.string ⟨(Lib.formatBool b).toArray⟩) ∧ w' = w := Any.strconv_FormatBool Tryz.lays121 b w
open Go.RowKit in

open Go.RowKit in

open Go.RowKit in

open Go.RowKit in

open Go.RowKit in

open Go.RowKit in

theorem Tryz.Builder_String_any_k (B b : Nat) (l : List UInt8) (w : World) (h : Lib.IsBuilderF 87 5 B b (Lib.byteCells l) w) (hBw : B ≤ w.heap.size) :
    Calls Tryz.prog 53 #[.pointer (some ⟨b, 0, none⟩)] w fun e w' => e = .returned (.string ⟨l.toArray⟩) ∧ (Lib.IsBuilderF 87 5 B b (Lib.byteCells l) w' ∧ Below B w w' ∧ Lib.OthersKept 5 (some b) w w') := Any.Builder_String_any_k Tryz.lays169 Tryz.Builder_Extra_169 B b l w h hBw
open Go.RowKit in

def Tryz.lays242_ren : Go.Shelf.Ren := ⟨fun | 242 => 201 | 278 => 210 | n => n, fun | 37 => 41 | 21 => 21 | 51 => 181 | 4 => 4 | 5 => 5 | 46 => 161 | n => n, fun | n => n⟩
theorem Tryz.lays242 : Go.Proofs.Lays.n242 Tryz.prog Tryz.lays242_ren := {
  mixed := by kernel_rfl
  f242 := Tryz.func201.trans (congrArg some (by kernel_rfl))
  f278 := Tryz.func210.trans (congrArg some (by kernel_rfl))
  t4 := Tryz.underlying4
  a4 := Tryz.isAgg4
  z4 := Tryz.sizeOf4
  v4 := Tryz.zeroValue4
  t5 := Tryz.underlying5
  a5 := Tryz.isAgg5
  z5 := Tryz.sizeOf5
  v5 := Tryz.zeroValue5
  t21 := Tryz.underlying21
  a21 := Tryz.isAgg21
  z21 := Tryz.sizeOf21
  v21 := Tryz.zeroValue21
  t37 := Tryz.underlying41
  a37 := Tryz.isAgg41
  z37 := Tryz.sizeOf41
  v37 := Tryz.zeroValue41
  t46 := Tryz.underlying161
  a46 := Tryz.isAgg161
  z46 := Tryz.sizeOf161
  v46 := Tryz.zeroValue161
  t51 := Tryz.underlying181
  a51 := Tryz.isAgg181
  z51 := Tryz.sizeOf181
  v51 := Tryz.zeroValue181 }
open Go.RowKit in

open Go.RowKit in

open Go.RowKit in

theorem Tryz.utf8_AppendRune_plain (B : Nat) (v : Value) (n : Nat) (xs : List Value) (r : Int) (hr0 : -2147483648 ≤ r) (hr1 : r ≤ 2147483647) (w : World) (hown : w.ownsRow B 5 1 v n xs) (hlen : n + 4 ≤ 140737488355328) (hBw : B ≤ w.heap.size) :
    Calls Tryz.prog 201 #[v, .int .i32 r] w fun e w' => ∃ v', e = .returned v' ∧ w'.ownsRow B 5 1 v' (n + (Lib.runeCells r).length) (xs ++ Lib.runeCells r) ∧ ∃ o, (w.alloc o).grownBy w' v.ownBlock := Any.utf8_AppendRune_plain Tryz.lays242 (by kernel_rfl) B v n xs r hr0 hr1 w hown hlen hBw
open Go.RowKit in

open Go.RowKit in

open Go.RowKit in

open Go.Lib in

open Go.Lib in

open Go.Lib in

open Go.Lib in

open Go.RowKit Go.Sort Go.Lib in

open Go.RowKit Go.Sort Go.Lib in

open Go.RowKit Go.Sort Go.Lib in

open Go.RowKit Go.Sort Go.Lib in

open Go.RowKit Go.Sort Go.Lib in

open Go.RowKit Go.Sort Go.Lib in

open Go.RowKit Go.Sort Go.Lib in

open Go.RowKit in

open Go.RowKit in

open Go.RowKit in

open Go.RowKit in

open Go.RowKit in

open Go.RowKit in

open Go.RowKit in

open Go.RowKit in

open Go.RowKit in

open Go.RowKit in

open Go.RowKit in

open Go.RowKit in

open Go.RowKit in

open Go.RowKit in

open Go.RowKit in

open Go.RowKit in

open Go.RowKit in

open Go.RowKit in

open Go.RowKit in

open Go.RowKit in

open Go.RowKit in

open Go.RowKit in

open Go.RowKit in

open Go.RowKit in

open Go.RowKit in

open Go.RowKit in

open Go.RowKit in

open Go.RowKit in

open Go.RowKit in

open Go.RowKit in

open Go.RowKit in

open Go.RowKit in

open Go.RowKit in

open Go.RowKit in

open Go.RowKit in

open Go.RowKit in

open Go.RowKit in

open Go.RowKit in

open Go.RowKit in

open Go.RowKit in

open Go.RowKit in

open Go.RowKit in
open Go.RowKit in
open Go.RowKit in
open Go.RowKit in
open Go.RowKit in
open Go.RowKit in
open Go.RowKit in
open Go.RowKit Go.Lib in

open Go.RowKit Go.Lib in

open Go.RowKit Go.Lib in

open Go.RowKit Go.Lib in
open Go.RowKit Go.Lib in

open Go.RowKit Go.Lib in

open Go.RowKit Go.Lib in

open Go.RowKit Go.Lib in

open Go.RowKit Go.Lib in

open Go.RowKit Go.Lib in

open Go.RowKit Go.Lib in
open Go.RowKit Go.Lib in
open Go.RowKit Go.Lib in
def Tryz.lays190_ren : Go.Shelf.Ren := ⟨fun | 190 => 86 | 125 => 124 | 258 => 123 | 128 => 162 | 129 => 163 | 302 => 153 | 303 => 154 | 304 => 155 | 305 => 156 | 306 => 157 | 307 => 158 | 308 => 159 | 309 => 160 | 310 => 161 | 333 => 190 | 329 => 191 | 330 => 192 | 334 => 193 | 335 => 194 | 336 => 195 | 344 => 207 | n => n, fun | 31 => 53 | 9 => 9 | 3 => 3 | 46 => 161 | 0 => 0 | 51 => 181 | 53 => 174 | 4 => 4 | 183 => 198 | 182 => 197 | 131 => 57 | 5 => 5 | 218 => 227 | 222 => 231 | 228 => 245 | 229 => 246 | n => n, fun | n => n⟩
theorem Tryz.lays190 : Go.Proofs.Lays.n190 Tryz.prog Tryz.lays190_ren := {
  mixed := by kernel_rfl
  f125 := Tryz.func124.trans (congrArg some (by kernel_rfl))
  f128 := Tryz.func162.trans (congrArg some (by kernel_rfl))
  f129 := Tryz.func163.trans (congrArg some (by kernel_rfl))
  f190 := Tryz.func86.trans (congrArg some (by kernel_rfl))
  f258 := Tryz.func123.trans (congrArg some (by kernel_rfl))
  f302 := Tryz.func153.trans (congrArg some (by kernel_rfl))
  f303 := Tryz.func154.trans (congrArg some (by kernel_rfl))
  f304 := Tryz.func155.trans (congrArg some (by kernel_rfl))
  f305 := Tryz.func156.trans (congrArg some (by kernel_rfl))
  f306 := Tryz.func157.trans (congrArg some (by kernel_rfl))
  f307 := Tryz.func158.trans (congrArg some (by kernel_rfl))
  f308 := Tryz.func159.trans (congrArg some (by kernel_rfl))
  f309 := Tryz.func160.trans (congrArg some (by kernel_rfl))
  f310 := Tryz.func161.trans (congrArg some (by kernel_rfl))
  f329 := Tryz.func191.trans (congrArg some (by kernel_rfl))
  f330 := Tryz.func192.trans (congrArg some (by kernel_rfl))
  f333 := Tryz.func190.trans (congrArg some (by kernel_rfl))
  f334 := Tryz.func193.trans (congrArg some (by kernel_rfl))
  f335 := Tryz.func194.trans (congrArg some (by kernel_rfl))
  f336 := Tryz.func195.trans (congrArg some (by kernel_rfl))
  f344 := Tryz.func207.trans (congrArg some (by kernel_rfl))
  t0 := Tryz.underlying0
  a0 := Tryz.isAgg0
  z0 := Tryz.sizeOf0
  v0 := Tryz.zeroValue0
  t3 := Tryz.underlying3
  a3 := Tryz.isAgg3
  z3 := Tryz.sizeOf3
  v3 := Tryz.zeroValue3
  t4 := Tryz.underlying4
  a4 := Tryz.isAgg4
  z4 := Tryz.sizeOf4
  v4 := Tryz.zeroValue4
  t5 := Tryz.underlying5
  a5 := Tryz.isAgg5
  z5 := Tryz.sizeOf5
  v5 := Tryz.zeroValue5
  t9 := Tryz.underlying9
  a9 := Tryz.isAgg9
  z9 := Tryz.sizeOf9
  v9 := Tryz.zeroValue9
  t31 := Tryz.underlying53
  a31 := Tryz.isAgg53
  z31 := Tryz.sizeOf53
  v31 := Tryz.zeroValue53
  t46 := Tryz.underlying161
  a46 := Tryz.isAgg161
  z46 := Tryz.sizeOf161
  v46 := Tryz.zeroValue161
  t51 := Tryz.underlying181
  a51 := Tryz.isAgg181
  z51 := Tryz.sizeOf181
  v51 := Tryz.zeroValue181
  t53 := Tryz.underlying174
  a53 := Tryz.isAgg174
  z53 := Tryz.sizeOf174
  v53 := Tryz.zeroValue174
  t131 := Tryz.underlying57
  a131 := Tryz.isAgg57
  z131 := Tryz.sizeOf57
  v131 := Tryz.zeroValue57
  t182 := Tryz.underlying197
  a182 := Tryz.isAgg197
  z182 := Tryz.sizeOf197
  v182 := Tryz.zeroValue197
  t183 := Tryz.underlying198
  a183 := Tryz.isAgg198
  z183 := Tryz.sizeOf198
  v183 := Tryz.zeroValue198
  t218 := Tryz.underlying227
  a218 := Tryz.isAgg227
  z218 := Tryz.sizeOf227
  v218 := Tryz.zeroValue227
  t222 := Tryz.underlying231
  a222 := Tryz.isAgg231
  z222 := Tryz.sizeOf231
  v222 := Tryz.zeroValue231
  t228 := Tryz.underlying245
  a228 := Tryz.isAgg245
  z228 := Tryz.sizeOf245
  v228 := Tryz.zeroValue245
  t229 := Tryz.underlying246
  a229 := Tryz.isAgg246
  z229 := Tryz.sizeOf246
  v229 := Tryz.zeroValue246 }
open Go.Sort Go.RowKit in
theorem Tryz.slices_Sort_string (blk off cap : Nat) (ss : List (List UInt8)) (w : World) (hH : Holds encStr w blk off ss.toArray) (hblk : blk < w.heap.size) (hsz : ss.length < 4611686018427387904) :
    Calls Tryz.prog 86 #[.slice (some ⟨blk, off, none⟩) ss.length cap] w fun e w' =>
      e = .returned (.tuple #[]) ∧ ∃ n os, w' = grow (putRow encStr (Sort.ahead w n) blk off (ss.mergeSort fun x y => decide (x ≤ y)).toArray) os := Any.slices_Sort_string Tryz.lays190 blk off cap ss w hH hblk hsz
open Go.RowKit Go.Lib in

def Tryz.lays99_ren : Go.Shelf.Ren := ⟨fun | 99 => 212 | 206 => 218 | n => n, fun | 9 => 9 | 4 => 4 | 3 => 3 | n => n, fun | n => n⟩
theorem Tryz.lays99 : Go.Proofs.Lays.n99 Tryz.prog Tryz.lays99_ren := {
  mixed := by kernel_rfl
  f99 := Tryz.func212.trans (congrArg some (by kernel_rfl))
  f206 := Tryz.func218.trans (congrArg some (by kernel_rfl))
  t3 := Tryz.underlying3
  a3 := Tryz.isAgg3
  z3 := Tryz.sizeOf3
  v3 := Tryz.zeroValue3
  t4 := Tryz.underlying4
  a4 := Tryz.isAgg4
  z4 := Tryz.sizeOf4
  v4 := Tryz.zeroValue4
  t9 := Tryz.underlying9
  a9 := Tryz.isAgg9
  z9 := Tryz.sizeOf9
  v9 := Tryz.zeroValue9 }
open Go.RowKit Go.Lib in

theorem Tryz.strings_HasPrefix (s p : ByteArray) (w : World) :
    Calls Tryz.prog 212 #[.string s, .string p] w fun e w' => e = .returned (.bool (Lib.hasPrefix s.data.toList p.data.toList)) ∧ w' = w := Any.strings_HasPrefix Tryz.lays99 s p w
open Go.RowKit Go.Lib in

open Go.RowKit Go.Lib in
def Tryz.lays146_ren : Go.Shelf.Ren := ⟨fun | 146 => 116 | 221 => 151 | 268 => 189 | 138 => 137 | 143 => 179 | 195 => 177 | 197 => 205 | 218 => 178 | 219 => 203 | 260 => 217 | 217 => 168 | 225 => 213 | 224 => 214 | 267 => 215 | 266 => 200 | 314 => 219 | n => n, fun | 9 => 9 | 31 => 53 | 3 => 3 | 4 => 4 | 0 => 0 | 105 => 240 | 21 => 21 | 5 => 5 | 46 => 161 | 119 => 254 | 139 => 257 | 138 => 256 | 146 => 251 | 51 => 181 | n => n, fun | 1 => 3 | 3 => 6 | 4 => 7 | n => n⟩
theorem Tryz.lays146 : Go.Proofs.Lays.n146 Tryz.prog Tryz.lays146_ren := {
  mixed := by kernel_rfl
  f138 := Tryz.func137.trans (congrArg some (by kernel_rfl))
  f143 := Tryz.func179.trans (congrArg some (by kernel_rfl))
  f146 := Tryz.func116.trans (congrArg some (by kernel_rfl))
  f195 := Tryz.func177.trans (congrArg some (by kernel_rfl))
  f197 := Tryz.func205.trans (congrArg some (by kernel_rfl))
  f217 := Tryz.func168.trans (congrArg some (by kernel_rfl))
  f218 := Tryz.func178.trans (congrArg some (by kernel_rfl))
  f219 := Tryz.func203.trans (congrArg some (by kernel_rfl))
  f221 := Tryz.func151.trans (congrArg some (by kernel_rfl))
  f224 := Tryz.func214.trans (congrArg some (by kernel_rfl))
  f225 := Tryz.func213.trans (congrArg some (by kernel_rfl))
  f260 := Tryz.func217.trans (congrArg some (by kernel_rfl))
  f266 := Tryz.func200.trans (congrArg some (by kernel_rfl))
  f267 := Tryz.func215.trans (congrArg some (by kernel_rfl))
  f268 := Tryz.func189.trans (congrArg some (by kernel_rfl))
  f314 := Tryz.func219.trans (congrArg some (by kernel_rfl))
  t0 := Tryz.underlying0
  a0 := Tryz.isAgg0
  z0 := Tryz.sizeOf0
  v0 := Tryz.zeroValue0
  t3 := Tryz.underlying3
  a3 := Tryz.isAgg3
  z3 := Tryz.sizeOf3
  v3 := Tryz.zeroValue3
  t4 := Tryz.underlying4
  a4 := Tryz.isAgg4
  z4 := Tryz.sizeOf4
  v4 := Tryz.zeroValue4
  t5 := Tryz.underlying5
  a5 := Tryz.isAgg5
  z5 := Tryz.sizeOf5
  v5 := Tryz.zeroValue5
  t9 := Tryz.underlying9
  a9 := Tryz.isAgg9
  z9 := Tryz.sizeOf9
  v9 := Tryz.zeroValue9
  t21 := Tryz.underlying21
  a21 := Tryz.isAgg21
  z21 := Tryz.sizeOf21
  v21 := Tryz.zeroValue21
  t31 := Tryz.underlying53
  a31 := Tryz.isAgg53
  z31 := Tryz.sizeOf53
  v31 := Tryz.zeroValue53
  t46 := Tryz.underlying161
  a46 := Tryz.isAgg161
  z46 := Tryz.sizeOf161
  v46 := Tryz.zeroValue161
  t51 := Tryz.underlying181
  a51 := Tryz.isAgg181
  z51 := Tryz.sizeOf181
  v51 := Tryz.zeroValue181
  t105 := Tryz.underlying240
  a105 := Tryz.isAgg240
  z105 := Tryz.sizeOf240
  v105 := Tryz.zeroValue240
  t119 := Tryz.underlying254
  a119 := Tryz.isAgg254
  z119 := Tryz.sizeOf254
  t138 := Tryz.underlying256
  a138 := Tryz.isAgg256
  z138 := Tryz.sizeOf256
  v138 := Tryz.zeroValue256
  t139 := Tryz.underlying257
  a139 := Tryz.isAgg257
  z139 := Tryz.sizeOf257
  v139 := Tryz.zeroValue257
  t146 := Tryz.underlying251
  a146 := Tryz.isAgg251
  z146 := Tryz.sizeOf251
  v146 := Tryz.zeroValue251
  g1 := by kernel_rfl
  g3 := by kernel_rfl
  g4 := by kernel_rfl }
open Go.RowKit Go.Lib in

theorem Tryz.strings_Split (s sep : ByteArray) (m : Int) (w : World) (hs : s.size < 4294967281) (hm : w.cell? ⟨3, 0, none⟩ = some (.int .i64 m)) (h1 : 1 ≤ sep.size) :
    Calls Tryz.prog 116 #[.string s, .string sep] w fun e w' =>
      e = .returned (.slice (some ⟨w.heap.size, 0, none⟩) (Lib.countB s sep + 1) (Lib.countB s sep + 1)) ∧ w' = w.alloc (.cells ((Lib.splitB sep 0 (Lib.countB s sep) s).map Value.string).toArray 9) := Any.strings_Split Tryz.lays146 (by kernel_rfl) s sep m w hs hm h1
open Go.RowKit Go.Lib in

open Go.RowKit Go.Lib in

open Go.RowKit Go.Lib in

open Go.RowKit Go.Lib in

open Go.RowKit Go.Lib in

open Go.RowKit Go.Lib in

open Go.RowKit Go.Lib in

open Go.RowKit Go.Lib in

open Go.RowKit Go.Lib in
open Go.RowKit Go.Lib in
def Tryz.lays194_ren : Go.Shelf.Ren := ⟨fun | 194 => 87 | n => n, fun | 31 => 53 | 9 => 9 | 3 => 3 | 4 => 4 | 0 => 0 | n => n, fun | n => n⟩
theorem Tryz.lays194 : Go.Proofs.Lays.n194 Tryz.prog Tryz.lays194_ren := {
  mixed := by kernel_rfl
  f194 := Tryz.func87.trans (congrArg some (by kernel_rfl))
  t0 := Tryz.underlying0
  a0 := Tryz.isAgg0
  z0 := Tryz.sizeOf0
  v0 := Tryz.zeroValue0
  t3 := Tryz.underlying3
  a3 := Tryz.isAgg3
  z3 := Tryz.sizeOf3
  v3 := Tryz.zeroValue3
  t4 := Tryz.underlying4
  a4 := Tryz.isAgg4
  z4 := Tryz.sizeOf4
  v4 := Tryz.zeroValue4
  t9 := Tryz.underlying9
  a9 := Tryz.isAgg9
  z9 := Tryz.sizeOf9
  v9 := Tryz.zeroValue9
  t31 := Tryz.underlying53
  a31 := Tryz.isAgg53
  z31 := Tryz.sizeOf53
  v31 := Tryz.zeroValue53 }
open Go.RowKit Go.Lib Go.Sort in

open Go.RowKit Go.Lib Go.Sort in

theorem Tryz.slices_Compact_string (blk off cap : Nat) (zs : List (List UInt8)) (w : World) (hH : Holds encStr w blk off zs.toArray) (hsz : zs.length ≤ 9223372036854775807) (hcap : zs.length ≤ cap) :
    Calls Tryz.prog 87 #[.slice (some ⟨blk, off, none⟩) zs.length cap] w fun e w' => e = .returned (.slice (some ⟨blk, off, none⟩) (Lib.compact zs).length cap) ∧ ∃ q, w' = putRow encStr (Sort.ahead w q) blk off (Lib.compact zs ++ List.replicate (zs.length - (Lib.compact zs).length) []).toArray := Any.slices_Compact_string Tryz.lays194 blk off cap zs w hH hsz hcap
open Go.RowKit Go.Lib Go.Sort in

theorem Tryz.slices_Compact_string_empty (a : Option Addr) (cap : Nat) (w : World) :
    Calls Tryz.prog 87 #[.slice a 0 cap] w fun e w' => e = .returned (.slice a 0 cap) ∧ w' = w := Any.slices_Compact_string_empty Tryz.lays194 a cap w
open Go.RowKit Go.Lib Go.Sort in

open Go.RowKit Go.Sort in

theorem Tryz.slices_Sort_string_none (p : Option Addr) (cap : Nat) (w : World) :
    Calls Tryz.prog 86 #[.slice p 0 cap] w fun e w' => e = .returned (.tuple #[]) ∧ w' = w := Any.slices_Sort_string_none Tryz.lays190 p cap w
end Go.Proofs
namespace Go.Proofs.YtfdijcdpmgkdkaaGreatDoor
open Go.RowKit

/-- What was there is as it was, but for block g. -/
structure But (g : Nat) (w w' : World) : Prop where
  os : w'.os = w.os
  tape : w'.tape = w.tape
  output : w'.output = w.output
  size : w.heap.size ≤ w'.heap.size
  block : ∀ k, k < w.heap.size → k ≠ g → w'.heap[k]? = w.heap[k]?

theorem setCell_block {w : World} {g o : Nat} {cs : Array Value} {T : TypeId} {fr : Nat × Nat} (h : w.heap[g]? = some (.cells cs T fr)) (v : Value) :
    (w.setCell ⟨g, o, none⟩ v).heap[g]? = some (.cells (cs.setIfInBounds o v) T fr) := by
  simp [World.setCell, Array.getElem?_modify, h]

theorem drewN_at {w : World} {g : Nat} {o : Obj} (h : w.heap[g]? = some o) (n : Nat) : (w.drewN n).heap[g]? = some o := h

theorem But.setCell (w : World) (g o : Nat) (v : Value) : But g w (w.setCell ⟨g, o, none⟩ v) :=
  ⟨rfl, rfl, rfl, by simp [World.setCell], fun k _ hk => Below.heap_setCell _ _ _ _ hk⟩
theorem But.trans {g : Nat} {a b c : World} (h : But g a b) (k : But g b c) : But g a c :=
  ⟨k.os.trans h.os, k.tape.trans h.tape, k.output.trans h.output, Nat.le_trans h.size k.size, fun i hi hg => (k.block i (Nat.lt_of_lt_of_le hi h.size) hg).trans (h.block i hi hg)⟩
theorem But.refl (g : Nat) (w : World) : But g w w := ⟨rfl, rfl, rfl, Nat.le_refl _, fun _ _ _ => rfl⟩
theorem But.drewN {g : Nat} {a b : World} (h : But g a b) (n : Nat) : But g a (b.drewN n) := ⟨h.os, h.tape, h.output, h.size, h.block⟩

end Go.Proofs.YtfdijcdpmgkdkaaGreatDoor
set_option linter.unusedVariables false
namespace Go.Proofs.YtfdijcdpmgkdkaaGreatDoor
open Go.RowKit

/-- The reader at block g: of the text S, at p, of depth d, with o open. -/
structure Rdr (w : World) (g : Nat) (S : List UInt8) (p d o : Nat) : Prop where
  heap : w.heap[g]? = some (.cells #[.string ⟨S.toArray⟩, .int .i64 (p : Int), .int .i64 (d : Int), .int .i64 (o : Int)] 91 (0, 0))
  le : p ≤ S.length
theorem Rdr.c0 {w : World} {g : Nat} {S : List UInt8} {p d o : Nat} (h : Rdr w g S p d o) : w.cell? ⟨g, 0, none⟩ = some (.string ⟨S.toArray⟩) := by rw [Lib.cell_of_heap h.heap]; rfl
theorem Rdr.c1 {w : World} {g : Nat} {S : List UInt8} {p d o : Nat} (h : Rdr w g S p d o) : w.cell? ⟨g, 1, none⟩ = some (.int .i64 (p : Int)) := by rw [Lib.cell_of_heap h.heap]; rfl
theorem Rdr.c2 {w : World} {g : Nat} {S : List UInt8} {p d o : Nat} (h : Rdr w g S p d o) : w.cell? ⟨g, 2, none⟩ = some (.int .i64 (d : Int)) := by rw [Lib.cell_of_heap h.heap]; rfl
theorem Rdr.c3 {w : World} {g : Nat} {S : List UInt8} {p d o : Nat} (h : Rdr w g S p d o) : w.cell? ⟨g, 3, none⟩ = some (.int .i64 (o : Int)) := by rw [Lib.cell_of_heap h.heap]; rfl
theorem Rdr.fz {w : World} {g : Nat} {S : List UInt8} {p d o : Nat} (h : Rdr w g S p d o) (i : Nat) : w.frozen? ⟨g, i, none⟩ = false := Lib.frozen_of_heap h.heap i
theorem Rdr.lt {w : World} {g : Nat} {S : List UInt8} {p d o : Nat} (h : Rdr w g S p d o) : g < w.heap.size := (Array.getElem?_eq_some_iff.1 h.heap).1
theorem Rdr.at {w : World} {g : Nat} {S : List UInt8} {p d o : Nat} (h : Rdr w g S p d o) (q : Nat) (hq : q ≤ S.length) : Rdr (w.setCell ⟨g, 1, none⟩ (.int .i64 (q : Int))) g S q d o :=
  ⟨by rw [setCell_block h.heap]; rfl, hq⟩
theorem Rdr.op {w : World} {g : Nat} {S : List UInt8} {p d o : Nat} (h : Rdr w g S p d o) (q : Nat) : Rdr (w.setCell ⟨g, 3, none⟩ (.int .i64 (q : Int))) g S p d q :=
  ⟨by rw [setCell_block h.heap]; rfl, h.le⟩
theorem Rdr.drewN {w : World} {g : Nat} {S : List UInt8} {p d o : Nat} (h : Rdr w g S p d o) (n : Nat) : Rdr (w.drewN n) g S p d o := ⟨h.heap, h.le⟩
theorem Rdr.below {w w' : World} {g : Nat} {S : List UInt8} {p d o : Nat} (h : Rdr w g S p d o) (hb : Below w.heap.size w w') : Rdr w' g S p d o := ⟨(hb.block g h.lt).trans h.heap, h.le⟩
theorem But.below {g : Nat} {a w w' : World} (h : But g a w) (hb : Below w.heap.size w w') : But g a w' :=
  ⟨hb.os.trans h.os, hb.tape.trans h.tape, hb.output.trans h.output, Nat.le_trans h.size hb.size, fun k hk hg => (hb.block k (Nat.lt_of_lt_of_le hk h.size)).trans (h.block k hk hg)⟩
theorem peek_drop (S : List UInt8) (p : Nat) (h : p < S.length) : peekL (S.drop p) = S[p] := by
  unfold peekL
  rw [List.drop_eq_getElem_cons h]
  rfl
theorem peek_end (S : List UInt8) : peekL (S.drop S.length) = 0 := by simp [peekL]
set_option maxRecDepth 100000 in
set_option maxHeartbeats 4000000 in
theorem jpeek_any (g : Nat) (S : List UInt8) (p d o : Nat) (c : UInt8) (w : World) (h : Rdr w g S p d o) (hl : S.length ≤ 1000000) (hc : peekL (S.drop p) = c) :
    Calls Tryz.prog 130 #[.pointer (some ⟨g, 0, none⟩)] w fun e w' => e = .returned (.int .u8 (c.toNat : Int)) ∧ Rdr w' g S p d o ∧ But g w w' := by
  have h0 := h.c0
  have h1 := h.c1
  have hle := h.le
  have HR := Lib.hid h
  have HC := Lib.hid hc
  clear h hc
  by_cases hlt : p < S.length
  · have hix : ∀ w, (Instr.index 9 (.string ⟨S.toArray⟩) (.int .i64 (p : Int))).run Tryz.prog w = .ok (.int .u8 (c.toNat : Nat)) w := by
      rw [← HC.out, peek_drop S p hlt]
      exact str_at S p hlt
    have hb : (((p : Nat) : Int) == ((S.length : Nat) : Int)) = false := by simp only [beq_eq_false_iff_ne, ne_eq]; omega
    go_enter Tryz.func130, Tryz.ntmps130
    go_wp2_with fail
    go_quiet (fail)
    go_wp2_with fail
    go_quiet (fail)
    go_wp2_with fail
    go_ret
    exact ⟨rfl, (HR.out.drewN _).drewN _, ((But.refl g w).drewN _).drewN _⟩
  · obtain rfl : p = S.length := by omega
    have hb : (((S.length : Nat) : Int) == ((S.length : Nat) : Int)) = true := by simp
    go_enter Tryz.func130, Tryz.ntmps130
    go_wp2_with fail
    go_quiet (fail)
    go_wp2_with fail
    go_ret
    refine ⟨?_, HR.out.drewN _, ((But.refl g w).drewN _)⟩
    rw [← HC.out, peek_end]
    rfl
/-- A fault that is thrown. -/
def thrown (e at_ : Int) : List PanicEntry := [{ v := .iface 93 (.agg #[.int .i64 e, .int .i64 at_]), recovered := false }]
set_option maxRecDepth 100000 in
set_option maxHeartbeats 4000000 in
theorem jfail_any (g : Nat) (e a : Int) (w : World) :
    Calls Tryz.prog 136 #[.pointer (some ⟨g, 0, none⟩), .int .i64 e, .int .i64 a] w fun x w' => x = .panicked (thrown e a) ∧ w' = w := by
  go_enter Tryz.func136, Tryz.ntmps136
  go_wp2_with fail
  exact ⟨rfl, rfl, rfl⟩
set_option maxRecDepth 100000 in
set_option maxHeartbeats 4000000 in
theorem jstop_any (g : Nat) (S : List UInt8) (p d o : Nat) (w : World) (h : Rdr w g S p d o) :
    Calls Tryz.prog 97 #[.pointer (some ⟨g, 0, none⟩)] w fun x w' => x = .panicked (thrown 31 p) ∧ w' = w := by
  have h1 := h.c1
  clear h
  go_enter Tryz.func97, Tryz.ntmps97
  go_wp2_with fail
  refine (jfail_any g 31 p w).mono ?_
  rintro e w' ⟨rfl, rfl⟩
  go_wp2_with fail
  exact ⟨rfl, rfl, rfl⟩
theorem head_peek {r : List UInt8} {c : UInt8} (hc : c ≠ 0) : r.head? = some c ↔ peekL r = c := by
  cases r with
  | nil => simp [peekL]; exact fun e => hc e.symm
  | cons b r => simp [peekL]
theorem peek_lt {S : List UInt8} {p : Nat} (hle : p ≤ S.length) (h : peekL (S.drop p) ≠ 0) : p < S.length := by
  rcases Nat.lt_or_ge p S.length with h' | h'
  · exact h'
  · obtain rfl : p = S.length := by omega
    exact absurd (peek_end S) h
set_option maxRecDepth 100000 in
set_option maxHeartbeats 4000000 in
theorem jnext_hit (g : Nat) (S : List UInt8) (p d o : Nat) (c : UInt8) (C : Int) (w : World) (h : Rdr w g S p d o) (hl : S.length ≤ 1000000) (hc : peekL (S.drop p) = c) (h0 : c ≠ 0) (hC : C = (c.toNat : Int)) :
    Calls Tryz.prog 121 #[.pointer (some ⟨g, 0, none⟩), .int .u8 C] w fun e w' => e = .returned (.bool true) ∧ Rdr w' g S (p + 1) d o ∧ But g w w' := by
  have hlt : p < S.length := peek_lt h.le (by rw [hc]; exact h0)
  have H0 := Lib.hid h0
  have HC := Lib.hid hC
  have HP := Lib.hid (jpeek_any g S p d o c w h hl hc)
  clear h hc h0 hC
  go_enter Tryz.func121, Tryz.ntmps121
  go_wp2_with fail
  refine HP.out.mono ?_
  rintro e w1 ⟨rfl, hr, hb⟩
  have h1 := hr.c1
  have f1 := hr.fz 1
  have HR := Lib.hid (hr.at (p + 1) (by omega))
  have HB := Lib.hid (hb.trans (But.setCell w1 g 1 (.int .i64 ((p + 1 : Nat) : Int))))
  have q : (((c.toNat : Nat) : Int) != C) = false := by rw [HC.out]; simp
  clear hr hb
  go_wp2_with fail
  go_ret
  exact ⟨rfl, HR.out, HB.out⟩
set_option maxRecDepth 100000 in
set_option maxHeartbeats 4000000 in
theorem jnext_miss (g : Nat) (S : List UInt8) (p d o : Nat) (c : UInt8) (C : Int) (w : World) (h : Rdr w g S p d o) (hl : S.length ≤ 1000000) (hc : peekL (S.drop p) ≠ c) (hC : C = (c.toNat : Int)) :
    Calls Tryz.prog 121 #[.pointer (some ⟨g, 0, none⟩), .int .u8 C] w fun e w' => e = .returned (.bool false) ∧ Rdr w' g S p d o ∧ But g w w' := by
  obtain ⟨b, hbd⟩ : ∃ b, peekL (S.drop p) = b := ⟨_, rfl⟩
  rw [hbd] at hc
  have q : (((b.toNat : Nat) : Int) != C) = true := by
    rw [hC]
    simp only [bne_iff_ne, ne_eq]
    intro e
    exact hc (UInt8.toNat_inj.1 (by omega))
  have HP := Lib.hid (jpeek_any g S p d o b w h hl hbd)
  clear h hc hC hbd
  go_enter Tryz.func121, Tryz.ntmps121
  go_wp2_with fail
  refine HP.out.mono ?_
  rintro e w1 ⟨rfl, hr, hb⟩
  have HR := Lib.hid hr
  have HB := Lib.hid hb
  clear hr hb
  go_wp2_with fail
  go_ret
  exact ⟨rfl, HR.out, HB.out⟩
set_option maxRecDepth 100000 in
set_option maxHeartbeats 4000000 in
theorem jmust_hit_any (g : Nat) (S : List UInt8) (p d o : Nat) (c : UInt8) (C : Int) (w : World) (h : Rdr w g S p d o) (hl : S.length ≤ 1000000) (hc : peekL (S.drop p) = c) (h0 : c ≠ 0) (hC : C = (c.toNat : Int)) :
    Calls Tryz.prog 170 #[.pointer (some ⟨g, 0, none⟩), .int .u8 C] w fun e w' => e = .returned (.tuple #[]) ∧ Rdr w' g S (p + 1) d o ∧ But g w w' := by
  have HP := Lib.hid (jnext_hit g S p d o c C w h hl hc h0 hC)
  clear h hc h0 hC
  go_enter Tryz.func170, Tryz.ntmps170
  go_wp2_with fail
  refine HP.out.mono ?_
  rintro e w1 ⟨rfl, hr, hb⟩
  have HR := Lib.hid hr
  have HB := Lib.hid hb
  clear hr hb
  go_wp2_with fail
  go_end0
  exact ⟨rfl, HR.out, HB.out⟩
set_option maxRecDepth 100000 in
set_option maxHeartbeats 4000000 in
theorem jmust_miss_any (g : Nat) (S : List UInt8) (p d o : Nat) (c : UInt8) (C : Int) (w : World) (h : Rdr w g S p d o) (hl : S.length ≤ 1000000) (hc : peekL (S.drop p) ≠ c) (hC : C = (c.toNat : Int)) :
    Calls Tryz.prog 170 #[.pointer (some ⟨g, 0, none⟩), .int .u8 C] w fun e w' => e = .panicked (thrown 31 p) ∧ But g w w' := by
  have HP := Lib.hid (jnext_miss g S p d o c C w h hl hc hC)
  clear h hc hC
  go_enter Tryz.func170, Tryz.ntmps170
  go_wp2_with fail
  refine HP.out.mono ?_
  rintro e w1 ⟨rfl, hr, hb⟩
  have HR := Lib.hid hr
  have HB := Lib.hid hb
  clear hr hb
  go_wp2_with fail
  refine (jstop_any g S p d o w1 HR.out).mono ?_
  rintro e w2 ⟨rfl, rfl⟩
  go_wp2_with fail
  exact ⟨rfl, rfl, HB.out⟩
set_option maxRecDepth 100000 in
set_option maxHeartbeats 4000000 in
theorem jdigit_any (c : UInt8) (b : Bool) (w : World) (hb : digB c = b) :
    Calls Tryz.prog 135 #[.int .u8 (c.toNat : Int)] w fun e w' => e = .returned (.bool b) ∧ w' = w := by
  unfold digB at hb
  by_cases h1 : 48 ≤ c.toNat
  · have d1 : decide ((48 : Int) ≤ ((c.toNat : Nat) : Int)) = true := decide_eq_true (by omega)
    by_cases h2 : c.toNat ≤ 57
    · have d2 : decide (((c.toNat : Nat) : Int) ≤ 57) = true := decide_eq_true (by omega)
      have e : b = true := by rw [← hb]; simp [h1, h2]
      subst e
      clear hb
      go_enter Tryz.func135, Tryz.ntmps135
      go_wp2_with fail
      go_ret
      exact ⟨rfl, rfl⟩
    · have d2 : decide (((c.toNat : Nat) : Int) ≤ 57) = false := decide_eq_false (by omega)
      have e : b = false := by rw [← hb]; simp [h2]
      subst e
      clear hb
      go_enter Tryz.func135, Tryz.ntmps135
      go_wp2_with fail
      go_ret
      exact ⟨rfl, rfl⟩
  · have d1 : decide ((48 : Int) ≤ ((c.toNat : Nat) : Int)) = false := decide_eq_false (by omega)
    have e : b = false := by rw [← hb]; simp [h1]
    subst e
    clear hb
    go_enter Tryz.func135, Tryz.ntmps135
    go_wp2_with fail
    go_ret
    exact ⟨rfl, rfl⟩
end Go.Proofs.YtfdijcdpmgkdkaaGreatDoor
set_option linter.unusedVariables false
namespace Go.Proofs.YtfdijcdpmgkdkaaGreatDoor
open Go.RowKit

theorem u8_every (P : UInt8 → Prop) (h : ∀ n : Fin 256, P (UInt8.ofNat n.1)) (c : UInt8) : P c := by
  have := h ⟨c.toNat, UInt8.toNat_lt c⟩
  simpa only [UInt8.ofNat_toNat] using this
theorem blank_idx (c : UInt8) : decide (0 ≤ Lib.indexByte [32, 9, 10, 13] c) = blankB c := u8_every (fun c => decide (0 ≤ Lib.indexByte [32, 9, 10, 13] c) = blankB c) (by decide +kernel) c
theorem drop_cons {S : List UInt8} {q : Nat} (h : q < S.length) : S.drop q = S[q] :: S.drop (q + 1) := List.drop_eq_getElem_cons h
theorem blank_next {S : List UInt8} {q : Nat} (h : q < S.length) (hb : blankB (peekL (S.drop q)) = true) : blankL (S.drop q) = blankL (S.drop (q + 1)) := by
  rw [peek_drop S q h] at hb
  rw [drop_cons h]
  unfold blankL
  rw [List.dropWhile_cons, if_pos hb]
theorem blank_here {S : List UInt8} {q : Nat} (hb : blankB (peekL (S.drop q)) = false) : blankL (S.drop q) = S.drop q := by
  cases hs : S.drop q with
  | nil => rfl
  | cons c r =>
    rw [hs] at hb
    have hb' : blankB c = false := hb
    unfold blankL
    rw [List.dropWhile_cons, if_neg (by simp [hb'])]
theorem byte_arg (c : UInt8) : ((c.toNat : Nat) : Int).toNat.toUInt8 = c := by simp [Nat.toUInt8]
set_option maxRecDepth 100000 in
set_option maxHeartbeats 4000000 in
theorem jblank_any (g : Nat) (S : List UInt8) (p d o : Nat) (w : World) (h : Rdr w g S p d o) (hl : S.length ≤ 1000000) :
    Calls Tryz.prog 95 #[.pointer (some ⟨g, 0, none⟩)] w fun e w' => e = .returned (.tuple #[]) ∧ ∃ q, S.drop q = blankL (S.drop p) ∧ p ≤ q ∧ Rdr w' g S q d o ∧ But g w w' := by
  have hle := h.le
  have HR0 := Lib.hid h
  clear h
  go_enter Tryz.func95, Tryz.ntmps95
  go_wp2_with fail
  go_loopg [] (S.length + 1 - p) (fun k wr => ∃ q : Nat, q + k = S.length + 1 ∧ p ≤ q ∧ Hid (blankL (S.drop q) = blankL (S.drop p)) ∧ Hid (Rdr wr g S q d o) ∧ Hid (But g w wr))
  case atStart => exact ⟨p, by omega, Nat.le_refl _, Lib.hid rfl, HR0, Lib.hid (But.refl g w)⟩
  case round =>
    obtain ⟨q, hq, hpq, hbl, hr, hb⟩ := hrel
    obtain ⟨c, hc⟩ : ∃ c, peekL (S.drop q) = c := ⟨_, rfl⟩
    have HP := Lib.hid (fun w hr => jpeek_any g S q d o c w hr hl hc)
    have HC := Lib.hid hc
    clear hc
    by_cases h0 : c.toNat = 0
    · have q0 : (((c.toNat : Nat) : Int) != 0) = false := by rw [h0]; rfl
      have hc0 : c = 0 := UInt8.toNat_inj.1 h0
      have hnb : blankB (peekL (S.drop q)) = false := by rw [HC.out, hc0]; decide
      have HE := Lib.hid ((blank_here hnb).symm.trans hbl.out)
      clear h0 hc0 hnb
      go_wp2_with fail
      refine (HP.out wr hr.out).mono ?_
      rintro e w1 ⟨rfl, hr1, hb1⟩
      have HR1 := Lib.hid hr1
      have HB1 := Lib.hid (hb.out.trans hb1)
      clear hr1 hb1
      go_wp2_with fail
      go_end0
      exact ⟨rfl, q, HE.out, hpq, HR1.out, HB1.out⟩
    · have q0 : (((c.toNat : Nat) : Int) != 0) = true := by simp only [bne_iff_ne, ne_eq]; omega
      have hlt : q < S.length := peek_lt hr.out.le (by rw [HC.out]; intro e; exact h0 (by rw [e]; rfl))
      have hidx := blank_idx c
      have HIX : Hid (Lib.indexByte [32, 9, 10, 13] c = Lib.indexByte [32, 9, 10, 13] c) := Lib.hid rfl
      cases hbb : blankB c with
      | true =>
        rw [hbb] at hidx
        have hx : 0 ≤ Lib.indexByte [32, 9, 10, 13] c := by simpa using hidx
        have HN := Lib.hid ((blank_next hlt (by rw [HC.out]; exact hbb)).symm.trans hbl.out)
        clear h0 hidx hbb
        go_wp2_with fail
        refine (HP.out wr hr.out).mono ?_
        rintro e w1 ⟨rfl, hr1, hb1⟩
        have HR1 := Lib.hid hr1
        have HB1 := Lib.hid (hb.out.trans hb1)
        clear hr1 hb1
        go_wp2_with fail
        refine (HP.out w1 HR1.out).mono ?_
        rintro e w2 ⟨rfl, hr2, hb2⟩
        have HR2 := Lib.hid hr2
        have HB2 := Lib.hid (HB1.out.trans hb2)
        have hc1 := hr2.c1
        have hf1 := hr2.fz 1
        have HR3 := Lib.hid (hr2.at (q + 1) (by omega))
        have HB3 := Lib.hid (HB2.out.trans (But.setCell w2 g 1 (.int .i64 ((q + 1 : Nat) : Int))))
        clear hr2 hb2
        go_wp2_with fail
        refine (Tryz.strings_IndexByte ⟨#[32, 9, 10, 13]⟩ ((c.toNat : Nat) : Int) w2).mono ?_
        rintro e w3 ⟨rfl, rfl⟩
        rw [byte_arg, show (⟨#[32, 9, 10, 13]⟩ : ByteArray).data.toList = [32, 9, 10, 13] from rfl]
        generalize Lib.indexByte [32, 9, 10, 13] c = ix at *
        have dx : decide (0 ≤ ix) = true := decide_eq_true hx
        go_wp2_with fail
        go_roundg (gk - 1)
        case measure => omega
        case rel => exact ⟨q + 1, by omega, by omega, HN, HR3, HB3⟩
      | false =>
        rw [hbb] at hidx
        have hx : ¬ 0 ≤ Lib.indexByte [32, 9, 10, 13] c := by simpa using hidx
        have HE := Lib.hid ((blank_here (by rw [HC.out]; exact hbb)).symm.trans hbl.out)
        clear h0 hidx hbb
        go_wp2_with fail
        refine (HP.out wr hr.out).mono ?_
        rintro e w1 ⟨rfl, hr1, hb1⟩
        have HR1 := Lib.hid hr1
        have HB1 := Lib.hid (hb.out.trans hb1)
        clear hr1 hb1
        go_wp2_with fail
        refine (HP.out w1 HR1.out).mono ?_
        rintro e w2 ⟨rfl, hr2, hb2⟩
        have HR2 := Lib.hid hr2
        have HB2 := Lib.hid (HB1.out.trans hb2)
        clear hr2 hb2
        go_wp2_with fail
        refine (Tryz.strings_IndexByte ⟨#[32, 9, 10, 13]⟩ ((c.toNat : Nat) : Int) w2).mono ?_
        rintro e w3 ⟨rfl, rfl⟩
        rw [byte_arg, show (⟨#[32, 9, 10, 13]⟩ : ByteArray).data.toList = [32, 9, 10, 13] from rfl]
        generalize Lib.indexByte [32, 9, 10, 13] c = ix at *
        have dx : decide (0 ≤ ix) = false := decide_eq_false (by omega)
        go_wp2_with fail
        go_end0
        exact ⟨rfl, q, HE.out, hpq, HR2.out, HB2.out⟩
/-- How a reader's call without a result ends. -/
def UnitRes (g : Nat) (S : List UInt8) (d o : Nat) (res : PR Unit) (w : World) (e : Ending) (w' : World) : Prop :=
  But g w w' ∧ ((∃ q, res = .ok () (S.drop q) ∧ e = .returned (.tuple #[]) ∧ Rdr w' g S q d o) ∨ ∃ n a, res = .bad n ∧ e = .panicked (thrown n a))
theorem must_ok {S : List UInt8} {p : Nat} {c : UInt8} (hc : peekL (S.drop p) = c) (h0 : c ≠ 0) : mustL c (S.drop p) = .ok () (S.drop (p + 1)) := by
  unfold mustL
  rw [if_pos ((head_peek h0).2 hc), List.tail_drop]
theorem must_bad {S : List UInt8} {p : Nat} {c : UInt8} (hc : peekL (S.drop p) ≠ c) (h0 : c ≠ 0) : mustL c (S.drop p) = .bad 31 := by
  unfold mustL
  rw [if_neg (fun e => hc ((head_peek h0).1 e))]
theorem jmust_any (g : Nat) (S : List UInt8) (p d o : Nat) (c : UInt8) (C : Int) (w : World) (h : Rdr w g S p d o) (hl : S.length ≤ 1000000) (h0 : c ≠ 0) (hC : C = (c.toNat : Int)) :
    Calls Tryz.prog 170 #[.pointer (some ⟨g, 0, none⟩), .int .u8 C] w fun e w' => UnitRes g S d o (mustL c (S.drop p)) w e w' := by
  by_cases hc : peekL (S.drop p) = c
  · refine (jmust_hit_any g S p d o c C w h hl hc h0 hC).mono ?_
    rintro e w' ⟨rfl, hr, hb⟩
    exact ⟨hb, .inl ⟨p + 1, must_ok hc h0, rfl, hr⟩⟩
  · refine (jmust_miss_any g S p d o c C w h hl hc hC).mono ?_
    rintro e w' ⟨rfl, hb⟩
    exact ⟨hb, .inr ⟨31, p, must_bad hc h0, rfl⟩⟩
theorem word_step {S W : List UInt8} {p j : Nat} (hj : j < W.length) : wordR (W.drop j) (S.drop p) = (mustL W[j] (S.drop p)).bind fun _ r => wordR (W.drop (j + 1)) r := by
  rw [List.drop_eq_getElem_cons hj]
  rfl
set_option maxRecDepth 100000 in
set_option maxHeartbeats 4000000 in
theorem jword_any (g : Nat) (S W : List UInt8) (p d o : Nat) (w : World) (h : Rdr w g S p d o) (hl : S.length ≤ 1000000) (hW : W.length ≤ 100) (hne : ∀ c ∈ W, c ≠ 0) :
    Calls Tryz.prog 131 #[.pointer (some ⟨g, 0, none⟩), .string ⟨W.toArray⟩] w fun e w' => UnitRes g S d o (wordR W (S.drop p)) w e w' := by
  have HR0 := Lib.hid h
  have HNE := Lib.hid hne
  clear h hne
  go_enter Tryz.func131, Tryz.ntmps131
  go_wp2_with fail
  go_loopg [7] (W.length) (fun k iv wr => ∃ j q : Nat, j + k = W.length ∧ iv = .int .i64 (j : Int) ∧ Hid (wordR W (S.drop p) = wordR (W.drop j) (S.drop q)) ∧ Hid (Rdr wr g S q d o) ∧ Hid (But g w wr))
  case atStart => exact ⟨0, p, by omega, rfl, Lib.hid rfl, HR0, Lib.hid (But.refl g w)⟩
  case round =>
    obtain ⟨j, q, hj, rfl, hw, hr, hb⟩ := hrel
    by_cases hlt : j < W.length
    · obtain ⟨c, hc⟩ : ∃ c, W[j]'hlt = c := ⟨_, rfl⟩
      have hix : ∀ w, (Instr.index 9 (.string ⟨W.toArray⟩) (.int .i64 (j : Int))).run Tryz.prog w = .ok (.int .u8 (c.toNat : Nat)) w := by
        rw [← hc]
        exact str_at W j hlt
      have hst := word_step (S := S) (p := q) hlt
      rw [hc] at hst
      have HM := Lib.hid (jmust_any g S q d o c ((c.toNat : Nat) : Int) wr hr.out hl (by rw [← hc]; exact HNE.out _ (List.getElem_mem _)) rfl)
      have HW := Lib.hid (hw.out.trans hst)
      clear hc hst
      go_wp2_with fail
      refine HM.out.mono ?_
      rintro e w1 ⟨hb1, hres⟩
      have HB1 := Lib.hid (hb.out.trans hb1)
      rcases hres with ⟨q', hm, rfl, hr1⟩ | ⟨n, a, hm, rfl⟩
      · have HR1 := Lib.hid hr1
        have HN := Lib.hid (show wordR W (S.drop p) = wordR (W.drop (j + 1)) (S.drop q') by rw [HW.out, hm]; rfl)
        clear hm hr1 hb1
        go_wp2_with fail
        go_roundg (gk - 1)
        case measure => omega
        case rel => exact ⟨j + 1, q', by omega, by go_num, HN, HR1, HB1⟩
      · have HN := Lib.hid (show wordR W (S.drop p) = .bad n by rw [HW.out, hm]; rfl)
        clear hm hb1
        go_wp2_with fail
        exact ⟨rfl, HB1.out, .inr ⟨n, a, HN.out, rfl⟩⟩
    · obtain rfl : j = W.length := by omega
      have HE := Lib.hid (show wordR W (S.drop p) = .ok () (S.drop q) by rw [hw.out]; simp [wordR])
      go_wp2_with fail
      go_end0
      exact ⟨hb.out, .inl ⟨q, HE.out, rfl, hr.out⟩⟩
theorem dig_next {S : List UInt8} {q : Nat} (h : q < S.length) (hb : digB (peekL (S.drop q)) = true) : (S.drop q).dropWhile digB = (S.drop (q + 1)).dropWhile digB := by
  rw [peek_drop S q h] at hb
  rw [drop_cons h, List.dropWhile_cons, if_pos hb]
theorem dig_here {S : List UInt8} {q : Nat} (hb : digB (peekL (S.drop q)) = false) : (S.drop q).dropWhile digB = S.drop q := by
  cases hs : S.drop q with
  | nil => rfl
  | cons c r =>
    rw [hs] at hb
    have hb' : digB c = false := hb
    rw [List.dropWhile_cons, if_neg (by simp [hb'])]
set_option maxRecDepth 100000 in
set_option maxHeartbeats 4000000 in
theorem jdigits_any (g : Nat) (S : List UInt8) (p d o : Nat) (w : World) (h : Rdr w g S p d o) (hl : S.length ≤ 1000000) :
    Calls Tryz.prog 122 #[.pointer (some ⟨g, 0, none⟩)] w fun e w' => UnitRes g S d o (digitsL (S.drop p)) w e w' := by
  obtain ⟨c, hc⟩ : ∃ c, peekL (S.drop p) = c := ⟨_, rfl⟩
  have HP := Lib.hid (jpeek_any g S p d o c w h hl hc)
  have hle := h.le
  cases hd : digB c with
  | false =>
    have HE := Lib.hid (show digitsL (S.drop p) = .bad 31 by unfold digitsL; rw [hc, hd]; rfl)
    have HD := Lib.hid hd
    clear h hc hd
    go_enter Tryz.func122, Tryz.ntmps122
    go_wp2_with fail
    refine HP.out.mono ?_
    rintro e w1 ⟨rfl, hr1, hb1⟩
    have HR1 := Lib.hid hr1
    have HB1 := Lib.hid hb1
    clear hr1 hb1
    go_wp2_with fail
    refine (jdigit_any c false w1 HD.out).mono ?_
    rintro e w2 ⟨rfl, rfl⟩
    go_wp2_with fail
    refine (jstop_any g S p d o w2 HR1.out).mono ?_
    rintro e w3 ⟨rfl, rfl⟩
    go_wp2_with fail
    exact ⟨rfl, HB1.out, .inr ⟨31, p, HE.out, rfl⟩⟩
  | true =>
    have HE := Lib.hid (show digitsL (S.drop p) = .ok () ((S.drop p).dropWhile digB) by unfold digitsL; rw [hc, hd]; rfl)
    have HD := Lib.hid hd
    clear h hc hd
    go_enter Tryz.func122, Tryz.ntmps122
    go_wp2_with fail
    refine HP.out.mono ?_
    rintro e w1 ⟨rfl, hr1, hb1⟩
    have HR1 := Lib.hid hr1
    have HB1 := Lib.hid hb1
    clear hr1 hb1
    go_wp2_with fail
    refine (jdigit_any c true w1 HD.out).mono ?_
    rintro e w2 ⟨rfl, rfl⟩
    go_wp2_with fail
    go_loopg [] (S.length + 1 - p) (fun k wr => ∃ q : Nat, q + k = S.length + 1 ∧ Hid ((S.drop q).dropWhile digB = (S.drop p).dropWhile digB) ∧ Hid (Rdr wr g S q d o) ∧ Hid (But g w wr))
    case atStart => exact ⟨p, by omega, Lib.hid rfl, HR1, HB1⟩
    case round =>
      obtain ⟨q, hq, hbl, hr, hb⟩ := hrel
      obtain ⟨b, hbd⟩ : ∃ c, peekL (S.drop q) = c := ⟨_, rfl⟩
      have HP2 := Lib.hid (jpeek_any g S q d o b wr hr.out hl hbd)
      cases hd : digB b with
      | false =>
        have HX := Lib.hid ((dig_here (by rw [hbd]; exact hd)).symm.trans hbl.out)
        have HD2 := Lib.hid hd
        clear hbd hd
        go_wp2_with fail
        refine HP2.out.mono ?_
        rintro e w3 ⟨rfl, hr3, hb3⟩
        have HR3 := Lib.hid hr3
        have HB3 := Lib.hid (hb.out.trans hb3)
        clear hr3 hb3
        go_wp2_with fail
        refine (jdigit_any b false w3 HD2.out).mono ?_
        rintro e w4 ⟨rfl, rfl⟩
        go_wp2_with fail
        go_end0
        exact ⟨HB3.out, .inl ⟨q, by rw [HE.out, HX.out], rfl, HR3.out⟩⟩
      | true =>
        have hlt : q < S.length := peek_lt hr.out.le (by rw [hbd]; rintro rfl; exact absurd hd (by decide))
        have HX := Lib.hid ((dig_next hlt (by rw [hbd]; exact hd)).symm.trans hbl.out)
        have HD2 := Lib.hid hd
        clear hbd hd
        go_wp2_with fail
        refine HP2.out.mono ?_
        rintro e w3 ⟨rfl, hr3, hb3⟩
        have HR3 := Lib.hid hr3
        have HB3 := Lib.hid (hb.out.trans hb3)
        clear hr3 hb3
        go_wp2_with fail
        refine (jdigit_any b true w3 HD2.out).mono ?_
        rintro e w4 ⟨rfl, rfl⟩
        have hc1 := HR3.out.c1
        have hf1 := HR3.out.fz 1
        have HR4 := Lib.hid (HR3.out.at (q + 1) (by omega))
        have HB4 := Lib.hid (HB3.out.trans (But.setCell w4 g 1 (.int .i64 ((q + 1 : Nat) : Int))))
        go_wp2_with fail
        go_roundg (gk - 1)
        case measure => omega
        case rel => exact ⟨q + 1, by omega, HX, HR4, HB4⟩
end Go.Proofs.YtfdijcdpmgkdkaaGreatDoor
set_option linter.unusedVariables false
namespace Go.Proofs.YtfdijcdpmgkdkaaGreatDoor
open Go.RowKit

theorem wraps_i32 (n : Int) (h0 : 0 ≤ n) (h1 : n < 2 ^ 31) : IntKind.i32.wrap n = n := by rw [IntKind.wrap_i32]; omega
theorem i32_or16 (n d : Nat) (hn : n < 4096) (hd : d < 16) : bits .or .i32 ((n : Int) * 16) (d : Int) = ((n * 16 + d : Nat) : Int) := by
  have h := (bits_nat .i32 31 (by decide) wraps_i32 (n * 16) d (by omega) (by omega)).2
  have e : n * 16 + d = n * 16 ||| d := by
    have := Nat.shiftLeft_add_eq_or_of_lt (show d < 2 ^ 4 by omega) n
    rw [Nat.shiftLeft_eq] at this
    exact this
  rw [← e] at h
  rw [← h]
  congr 1
def upC (c : UInt8) : Bool := decide (65 ≤ c.toNat) && decide (c.toNat ≤ 70)
def lowC (c : UInt8) : UInt8 := if upC c then c + 32 else c
def hexDig : List UInt8 := [48, 49, 50, 51, 52, 53, 54, 55, 56, 57, 97, 98, 99, 100, 101, 102]
theorem hex_idx (c : UInt8) : hexV c = if Lib.indexByte hexDig (lowC c) < 0 then none else some (Lib.indexByte hexDig (lowC c)).toNat :=
  u8_every (fun c => hexV c = if Lib.indexByte hexDig (lowC c) < 0 then none else some (Lib.indexByte hexDig (lowC c)).toNat) (by decide +kernel) c
theorem up_toNat (c : UInt8) (h : upC c = true) : (lowC c).toNat = c.toNat + 32 := by
  have := u8_every (fun c => upC c = false ∨ (lowC c).toNat = c.toNat + 32) (by decide +kernel) c
  rcases this with h' | h'
  · rw [h] at h'; cases h'
  · exact h'
theorem hexV_lt {c : UInt8} {d : Nat} (h : hexV c = some d) : d < 16 := by
  have := u8_every (fun c => ((hexV c).getD 0 < 16)) (by decide +kernel) c
  rw [h] at this
  exact this
theorem hex_head (S : List UInt8) (q k n : Nat) (hle : q ≤ S.length) : hexN (k + 1) n (S.drop q) = match hexV (peekL (S.drop q)) with | none => .bad 31 | some d => hexN k (n * 16 + d) (S.drop (q + 1)) := by
  rcases Nat.lt_or_ge q S.length with h | h
  · rw [peek_drop S q h, drop_cons h]
    rfl
  · obtain rfl : q = S.length := by omega
    rw [peek_end]
    simp [hexN, hexV]
/-- How a reader's call with a number ends. -/
def IntRes (g : Nat) (S : List UInt8) (d o : Nat) (res : PR Nat) (w : World) (e : Ending) (w' : World) : Prop :=
  But g w w' ∧ ((∃ n q, res = .ok n (S.drop q) ∧ e = .returned (.int .i32 (n : Int)) ∧ Rdr w' g S q d o) ∨ ∃ n a, res = .bad n ∧ e = .panicked (thrown n a))
set_option maxRecDepth 100000 in
set_option maxHeartbeats 8000000 in
theorem jhex_any (g : Nat) (S : List UInt8) (p d o : Nat) (w : World) (h : Rdr w g S p d o) (hl : S.length ≤ 1000000) :
    Calls Tryz.prog 211 #[.pointer (some ⟨g, 0, none⟩)] w fun e w' => IntRes g S d o (hexR (S.drop p)) w e w' := by
  have HR0 := Lib.hid h
  clear h
  go_enter Tryz.func211, Tryz.ntmps211
  go_wp2_with fail
  go_loopg [3, 6] (4) (fun k nv iv wr => ∃ j n q : Nat, j + k = 4 ∧ n < 16 ^ j ∧ iv = .int .i64 (j : Int) ∧ nv = .int .i32 (n : Int) ∧ Hid (hexR (S.drop p) = hexN k n (S.drop q)) ∧ Hid (Rdr wr g S q d o) ∧ Hid (But g w wr))
  case atStart => exact ⟨0, 0, p, by omega, by decide, rfl, rfl, Lib.hid rfl, HR0, Lib.hid (But.refl g w)⟩
  case round =>
    obtain ⟨j, n, q, hj, hn, rfl, rfl, hh, hr, hb⟩ := hrel
    by_cases hj4 : j < 4
    · obtain ⟨k', rfl⟩ : ∃ k', gk = k' + 1 := ⟨gk - 1, by omega⟩
      have hn3 : n < 4096 := Nat.lt_of_lt_of_le hn (show 16 ^ j ≤ 16 ^ 3 from Nat.pow_le_pow_right (by decide) (by omega))
      have hn4 : n * 16 + 15 < 16 ^ (j + 1) := by rw [Nat.pow_succ]; omega
      have hjI : ((j : Nat) : Int) < 4 := by omega
      obtain ⟨c, hc⟩ : ∃ c, peekL (S.drop q) = c := ⟨_, rfl⟩
      have HP := Lib.hid (jpeek_any g S q d o c wr hr.out hl hc)
      have hhd := hex_head S q k' n hr.out.le
      rw [hc] at hhd
      have HH := Lib.hid (hh.out.trans hhd)
      have HXI := Lib.hid (hex_idx c)
      have HLT := Lib.hid (show c.toNat ≠ 0 → q < S.length from fun h => peek_lt hr.out.le (by rw [hc]; intro e; exact h (by rw [e]; rfl)))
      clear hhd hc hn
      have htail : ∀ (b : UInt8), lowC c = b → True := fun _ _ => trivial
      cases hu : upC c with
      | true =>
        have hup := up_toNat c hu
        have hu' := hu
        simp only [upC, Bool.and_eq_true, decide_eq_true_eq] at hu'
        have u1 : decide ((65 : Int) ≤ ((c.toNat : Nat) : Int)) = true := decide_eq_true (by omega)
        have u2 : decide (((c.toNat : Nat) : Int) ≤ 70) = true := decide_eq_true (by omega)
        obtain ⟨b, hbd⟩ : ∃ b, lowC c = b := ⟨_, rfl⟩
        rw [hbd] at hup HXI
        have hadd : IntKind.u8.wrap (((c.toNat : Nat) : Int) + 32) = ((b.toNat : Nat) : Int) := by
          rw [IntKind.wrap_u8]
          omega
        have hc1 : ((c.toNat : Nat) : Int) ≤ 70 := by omega
        clear hup hu hbd htail
        go_wp2_with fail
        refine HP.out.mono ?_
        rintro e w1 ⟨rfl, hr1, hb1⟩
        have HR1 := Lib.hid hr1
        have HB1 := Lib.hid (hb.out.trans hb1)
        clear hr1 hb1 HP
        go_wp2_with fail
        refine (Tryz.strings_IndexByte ⟨#[48, 49, 50, 51, 52, 53, 54, 55, 56, 57, 97, 98, 99, 100, 101, 102]⟩ ((b.toNat : Nat) : Int) w1).mono ?_
        rintro e w2 ⟨rfl, rfl⟩
        rw [byte_arg, show (⟨#[48, 49, 50, 51, 52, 53, 54, 55, 56, 57, 97, 98, 99, 100, 101, 102]⟩ : ByteArray).data.toList = hexDig from rfl]
        obtain ⟨ix, hix⟩ : ∃ ix, Lib.indexByte hexDig b = ix := ⟨_, rfl⟩
        rw [hix] at HXI ⊢
        clear hix
        by_cases hneg : ix < 0
        · have HE := Lib.hid (show hexR (S.drop p) = .bad 31 by rw [HH.out, HXI.out, if_pos hneg])
          clear HXI HH
          go_wp2_with fail
          refine (jstop_any g S q d o w2 HR1.out).mono ?_
          rintro e w3 ⟨rfl, rfl⟩
          go_wp2_with fail
          exact ⟨rfl, HB1.out, .inr ⟨31, q, HE.out, rfl⟩⟩
        · obtain ⟨dd, rfl⟩ : ∃ dd : Nat, ix = (dd : Int) := ⟨ix.toNat, by omega⟩
          have hxv : hexV c = some dd := by rw [HXI.out, if_neg hneg]; simp
          have hd16 := hexV_lt hxv
          have hlt : q < S.length := HLT.out (by intro e0; have e1 : c = 0 := UInt8.toNat_inj.1 e0; rw [e1] at hxv; simp [hexV] at hxv)
          have HE := Lib.hid (show hexR (S.drop p) = hexN k' (n * 16 + dd) (S.drop (q + 1)) by rw [HH.out, hxv])
          have hq1 := HR1.out.c1
          have hf1 := HR1.out.fz 1
          have HR3 := Lib.hid (HR1.out.at (q + 1) (by omega))
          have HB3 := Lib.hid (HB1.out.trans (But.setCell w2 g 1 (.int .i64 ((q + 1 : Nat) : Int))))
          have hor := i32_or16 n dd hn3 hd16
          clear hxv HXI HH HLT hneg
          go_wp2_with fail
          go_roundg k'
          case measure => omega
          case rel => exact ⟨j + 1, n * 16 + dd, q + 1, by omega, by omega, by go_num, by first | rfl | simp, HE, HR3, HB3⟩
      | false =>
        have hup : lowC c = c := by unfold lowC; rw [hu]; rfl
        rw [hup] at HXI
        have hu' := hu
        simp only [upC, Bool.and_eq_false_iff, decide_eq_false_iff_not] at hu'
        clear hup hu htail
        by_cases u65 : 65 ≤ c.toNat
        · have u1 : decide ((65 : Int) ≤ ((c.toNat : Nat) : Int)) = true := decide_eq_true (by omega)
          have u2 : decide (((c.toNat : Nat) : Int) ≤ 70) = false := decide_eq_false (by omega)
          clear hu'
          go_wp2_with fail
          refine HP.out.mono ?_
          rintro e w1 ⟨rfl, hr1, hb1⟩
          have HR1 := Lib.hid hr1
          have HB1 := Lib.hid (hb.out.trans hb1)
          clear hr1 hb1 HP
          go_wp2_with fail
          refine (Tryz.strings_IndexByte ⟨#[48, 49, 50, 51, 52, 53, 54, 55, 56, 57, 97, 98, 99, 100, 101, 102]⟩ ((c.toNat : Nat) : Int) w1).mono ?_
          rintro e w2 ⟨rfl, rfl⟩
          rw [byte_arg, show (⟨#[48, 49, 50, 51, 52, 53, 54, 55, 56, 57, 97, 98, 99, 100, 101, 102]⟩ : ByteArray).data.toList = hexDig from rfl]
          obtain ⟨ix, hix⟩ : ∃ ix, Lib.indexByte hexDig c = ix := ⟨_, rfl⟩
          rw [hix] at HXI ⊢
          clear hix
          by_cases hneg : ix < 0
          · have HE := Lib.hid (show hexR (S.drop p) = .bad 31 by rw [HH.out, HXI.out, if_pos hneg])
            clear HXI HH
            go_wp2_with fail
            refine (jstop_any g S q d o w2 HR1.out).mono ?_
            rintro e w3 ⟨rfl, rfl⟩
            go_wp2_with fail
            exact ⟨rfl, HB1.out, .inr ⟨31, q, HE.out, rfl⟩⟩
          · obtain ⟨dd, rfl⟩ : ∃ dd : Nat, ix = (dd : Int) := ⟨ix.toNat, by omega⟩
            have hxv : hexV c = some dd := by rw [HXI.out, if_neg hneg]; simp
            have hd16 := hexV_lt hxv
            have hlt : q < S.length := HLT.out (by intro e0; have e1 : c = 0 := UInt8.toNat_inj.1 e0; rw [e1] at hxv; simp [hexV] at hxv)
            have HE := Lib.hid (show hexR (S.drop p) = hexN k' (n * 16 + dd) (S.drop (q + 1)) by rw [HH.out, hxv])
            have hq1 := HR1.out.c1
            have hf1 := HR1.out.fz 1
            have HR3 := Lib.hid (HR1.out.at (q + 1) (by omega))
            have HB3 := Lib.hid (HB1.out.trans (But.setCell w2 g 1 (.int .i64 ((q + 1 : Nat) : Int))))
            have hor := i32_or16 n dd hn3 hd16
            clear hxv HXI HH HLT hneg
            go_wp2_with fail
            go_roundg k'
            case measure => omega
            case rel => exact ⟨j + 1, n * 16 + dd, q + 1, by omega, by omega, by go_num, by first | rfl | simp, HE, HR3, HB3⟩
        · have u1 : decide ((65 : Int) ≤ ((c.toNat : Nat) : Int)) = false := decide_eq_false (by omega)
          clear hu'
          go_wp2_with fail
          refine HP.out.mono ?_
          rintro e w1 ⟨rfl, hr1, hb1⟩
          have HR1 := Lib.hid hr1
          have HB1 := Lib.hid (hb.out.trans hb1)
          clear hr1 hb1 HP
          go_wp2_with fail
          refine (Tryz.strings_IndexByte ⟨#[48, 49, 50, 51, 52, 53, 54, 55, 56, 57, 97, 98, 99, 100, 101, 102]⟩ ((c.toNat : Nat) : Int) w1).mono ?_
          rintro e w2 ⟨rfl, rfl⟩
          rw [byte_arg, show (⟨#[48, 49, 50, 51, 52, 53, 54, 55, 56, 57, 97, 98, 99, 100, 101, 102]⟩ : ByteArray).data.toList = hexDig from rfl]
          obtain ⟨ix, hix⟩ : ∃ ix, Lib.indexByte hexDig c = ix := ⟨_, rfl⟩
          rw [hix] at HXI ⊢
          clear hix
          by_cases hneg : ix < 0
          · have HE := Lib.hid (show hexR (S.drop p) = .bad 31 by rw [HH.out, HXI.out, if_pos hneg])
            clear HXI HH
            go_wp2_with fail
            refine (jstop_any g S q d o w2 HR1.out).mono ?_
            rintro e w3 ⟨rfl, rfl⟩
            go_wp2_with fail
            exact ⟨rfl, HB1.out, .inr ⟨31, q, HE.out, rfl⟩⟩
          · obtain ⟨dd, rfl⟩ : ∃ dd : Nat, ix = (dd : Int) := ⟨ix.toNat, by omega⟩
            have hxv : hexV c = some dd := by rw [HXI.out, if_neg hneg]; simp
            have hd16 := hexV_lt hxv
            have hlt : q < S.length := HLT.out (by intro e0; have e1 : c = 0 := UInt8.toNat_inj.1 e0; rw [e1] at hxv; simp [hexV] at hxv)
            have HE := Lib.hid (show hexR (S.drop p) = hexN k' (n * 16 + dd) (S.drop (q + 1)) by rw [HH.out, hxv])
            have hq1 := HR1.out.c1
            have hf1 := HR1.out.fz 1
            have HR3 := Lib.hid (HR1.out.at (q + 1) (by omega))
            have HB3 := Lib.hid (HB1.out.trans (But.setCell w2 g 1 (.int .i64 ((q + 1 : Nat) : Int))))
            have hor := i32_or16 n dd hn3 hd16
            clear hxv HXI HH HLT hneg
            go_wp2_with fail
            go_roundg k'
            case measure => omega
            case rel => exact ⟨j + 1, n * 16 + dd, q + 1, by omega, by omega, by go_num, by first | rfl | simp, HE, HR3, HB3⟩
    · obtain rfl : j = 4 := by omega
      obtain rfl : gk = 0 := by omega
      have HE := Lib.hid (show hexR (S.drop p) = .ok n (S.drop q) from hh.out)
      go_wp2_with fail
      go_ret
      exact ⟨hb.out, .inl ⟨n, q, HE.out, rfl, hr.out⟩⟩
end Go.Proofs.YtfdijcdpmgkdkaaGreatDoor
set_option linter.unusedVariables false
namespace Go.Proofs.YtfdijcdpmgkdkaaGreatDoor
open Go.RowKit

theorem hexN_lt : ∀ (k n : Nat) (r : List UInt8) (m : Nat) (r' : List UInt8), hexN k n r = .ok m r' → m < (n + 1) * 16 ^ k
  | 0, n, r, m, r', h => by
    simp only [hexN, PR.ok.injEq] at h
    omega
  | k + 1, n, [], m, r', h => by simp [hexN] at h
  | k + 1, n, c :: r, m, r', h => by
    simp only [hexN] at h
    cases hd : hexV c with
    | none => rw [hd] at h; cases h
    | some d =>
      rw [hd] at h
      have h1 := hexN_lt k (n * 16 + d) r m r' h
      have h2 := hexV_lt hd
      refine Nat.lt_of_lt_of_le h1 ?_
      rw [Nat.pow_succ, Nat.mul_comm (16 ^ k) 16, ← Nat.mul_assoc]
      exact Nat.mul_le_mul_right _ (by omega)
theorem hexR_lt {r : List UInt8} {m : Nat} {r' : List UInt8} (h : hexR r = .ok m r') : m < 65536 := by
  have := hexN_lt 4 0 r m r' h
  omega
def unit2 (a : Nat) (r : List UInt8) : PR Nat := match r with
  | 92 :: 117 :: r => (hexR r).bind fun b r => if b < 56320 ∨ 57344 ≤ b then .bad 31 else .ok (65536 + (a - 55296) * 1024 + (b - 56320)) r
  | _ => .bad 31
theorem unitR_eq (r : List UInt8) : unitR r = (hexR r).bind fun a r => if a < 55296 ∨ 57344 ≤ a then .ok a r else if 56320 ≤ a then .bad 31 else unit2 a r := rfl
theorem unit2_no {a : Nat} {r : List UInt8} (h : Lib.hasPrefix r [92, 117] = false) : unit2 a r = .bad 31 := by
  unfold unit2
  split
  · simp [Lib.hasPrefix] at h
  · rfl
theorem unit2_yes {S : List UInt8} {a q : Nat} (h : Lib.hasPrefix (S.drop q) [92, 117] = true) : q + 2 ≤ S.length ∧ unit2 a (S.drop q) = (hexR (S.drop (q + 2))).bind fun b r => if b < 56320 ∨ 57344 ≤ b then .bad 31 else .ok (65536 + (a - 55296) * 1024 + (b - 56320)) r := by
  have hp : ∃ r, S.drop q = 92 :: 117 :: r := by
    unfold Lib.hasPrefix at h
    cases hs : S.drop q with
    | nil => rw [hs] at h; simp at h
    | cons x r =>
      cases r with
      | nil => rw [hs] at h; simp at h
      | cons y r =>
        rw [hs] at h
        simp at h
        exact ⟨r, by rw [← h.1, ← h.2]⟩
  obtain ⟨r, hr⟩ := hp
  have hl := congrArg List.length hr
  simp only [List.length_drop, List.length_cons] at hl
  have h2 : S.drop (q + 2) = r := by rw [← List.drop_drop, hr]; rfl
  refine ⟨by omega, ?_⟩
  rw [hr, h2]
  rfl
set_option maxRecDepth 100000 in
set_option maxHeartbeats 8000000 in
theorem junit_any (g : Nat) (S : List UInt8) (p d o : Nat) (F : Int) (w : World) (h : Rdr w g S p d o) (hl : S.length ≤ 1000000) :
    Calls Tryz.prog 202 #[.pointer (some ⟨g, 0, none⟩), .int .i64 F] w fun e w' => IntRes g S d o (unitR (S.drop p)) w e w' := by
  have HX := Lib.hid (jhex_any g S p d o w h hl)
  have HU := Lib.hid (unitR_eq (S.drop p))
  clear h
  go_enter Tryz.func202, Tryz.ntmps202
  go_wp2_with fail
  refine HX.out.mono ?_
  rintro e w1 ⟨hb1, hres⟩
  have HB1 := Lib.hid hb1
  rcases hres with ⟨a, q, ha, rfl, hr1⟩ | ⟨n, x, ha, rfl⟩
  · have HR1 := Lib.hid hr1
    have ha16 := hexR_lt ha
    have hu := HU.out
    rw [ha, PR.bind_ok] at hu
    have HU1 := Lib.hid hu
    clear hu ha hr1 hb1 HU HX
    by_cases c1 : a < 55296
    · have d1 : decide (((a : Nat) : Int) < 55296) = true := decide_eq_true (by omega)
      have HE := Lib.hid (show unitR (S.drop p) = .ok a (S.drop q) by rw [HU1.out, if_pos (.inl c1)])
      go_wp2_with fail
      go_ret
      exact ⟨HB1.out, .inl ⟨a, q, HE.out, rfl, HR1.out⟩⟩
    have d1 : decide (((a : Nat) : Int) < 55296) = false := decide_eq_false (by omega)
    by_cases c2 : 57344 ≤ a
    · have d2 : decide ((57344 : Int) ≤ ((a : Nat) : Int)) = true := decide_eq_true (by omega)
      have HE := Lib.hid (show unitR (S.drop p) = .ok a (S.drop q) by rw [HU1.out, if_pos (.inr c2)])
      go_wp2_with fail
      go_ret
      exact ⟨HB1.out, .inl ⟨a, q, HE.out, rfl, HR1.out⟩⟩
    have d2 : decide ((57344 : Int) ≤ ((a : Nat) : Int)) = false := decide_eq_false (by omega)
    by_cases c3 : 56320 ≤ a
    · have d3 : decide ((56320 : Int) ≤ ((a : Nat) : Int)) = true := decide_eq_true (by omega)
      have HE := Lib.hid (show unitR (S.drop p) = .bad 31 by rw [HU1.out, if_neg (by omega), if_pos c3])
      go_wp2_with fail
      refine (jfail_any g 31 F w1).mono ?_
      rintro e w2 ⟨rfl, rfl⟩
      go_wp2_with fail
      exact ⟨rfl, HB1.out, .inr ⟨31, F, HE.out, rfl⟩⟩
    have d3 : decide ((56320 : Int) ≤ ((a : Nat) : Int)) = false := decide_eq_false (by omega)
    have HV := Lib.hid (show unitR (S.drop p) = unit2 a (S.drop q) by rw [HU1.out, if_neg (by omega), if_neg c3])
    have hq0 := HR1.out.c0
    have hq1 := HR1.out.c1
    have hqle := HR1.out.le
    have hst : ∀ w, (Instr.slice 9 (.string ⟨S.toArray⟩) (some (.int .i64 (q : Int))) none none).run Tryz.prog w = .ok (.string ⟨(S.drop q).toArray⟩) w := str_tail S q hqle q rfl
    have hhp : ∀ w, Calls Tryz.prog 212 #[.string ⟨(S.drop q).toArray⟩, .string ⟨#[92, 117]⟩] w fun e w' => e = .returned (.bool (Lib.hasPrefix (S.drop q) [92, 117])) ∧ w' = w := fun w => Tryz.strings_HasPrefix ⟨(S.drop q).toArray⟩ ⟨#[92, 117]⟩ w
    obtain ⟨bp, hpf⟩ : ∃ b, Lib.hasPrefix (S.drop q) [92, 117] = b := ⟨_, rfl⟩
    rw [hpf] at hhp
    have HHP := Lib.hid hhp
    have HPF := Lib.hid hpf
    clear hhp HU1 hpf
    have hqI : ((q : Nat) : Int) ≤ ((S.length : Nat) : Int) := by omega
    go_wp2_with fail
    go_quiet ((go_at_call 212; exact Calls.quiet_of_same (HHP.out _)))
    have HBw := Lib.hid (HB1.out.drewN nq)
    have HRw := Lib.hid (HR1.out.drewN nq)
    generalize w1.drewN nq = w2 at *
    clear hst hq0 hq1 hqI d1 d2 d3
    cases bp with
    | false =>
      have HE := Lib.hid (show unitR (S.drop p) = .bad 31 by rw [HV.out, unit2_no HPF.out])
      clear HPF HHP
      go_wp2_with fail
      refine (jfail_any g 31 F w2).mono ?_
      rintro e w3 ⟨rfl, rfl⟩
      go_wp2_with fail
      exact ⟨rfl, HBw.out, .inr ⟨31, F, HE.out, rfl⟩⟩
    | true =>
      obtain ⟨hq2, hu2⟩ := unit2_yes (a := a) HPF.out
      have HV2 := Lib.hid (HV.out.trans hu2)
      clear HPF HHP hu2 HV
      have hc1 := HRw.out.c1
      have hf1 := HRw.out.fz 1
      have HR3 := Lib.hid (HRw.out.at (q + 2) hq2)
      have HB3 := Lib.hid (HBw.out.trans (But.setCell w2 g 1 (.int .i64 ((q + 2 : Nat) : Int))))
      go_wp2_with fail
      have HX2 := Lib.hid (jhex_any g S (q + 2) d o _ HR3.out hl)
      refine HX2.out.mono ?_
      rintro e w4 ⟨hb4, hres⟩
      have HB4 := Lib.hid (HB3.out.trans hb4)
      clear hc1 hf1
      rcases hres with ⟨b, q', hbb, rfl, hr4⟩ | ⟨n, x, hbb, rfl⟩
      · have HR4 := Lib.hid hr4
        have hb16 := hexR_lt hbb
        have hv := HV2.out
        rw [hbb, PR.bind_ok] at hv
        have HV3 := Lib.hid hv
        clear hv hbb hr4 hb4 HV2 HX2
        by_cases e1 : b < 56320
        · have f1 : decide (((b : Nat) : Int) < 56320) = true := decide_eq_true (by omega)
          have HE := Lib.hid (show unitR (S.drop p) = .bad 31 by rw [HV3.out, if_pos (.inl e1)])
          go_wp2_with fail
          refine (jfail_any g 31 F w4).mono ?_
          rintro e w5 ⟨rfl, rfl⟩
          go_wp2_with fail
          exact ⟨rfl, HB4.out, .inr ⟨31, F, HE.out, rfl⟩⟩
        have f1 : decide (((b : Nat) : Int) < 56320) = false := decide_eq_false (by omega)
        by_cases e2 : 57344 ≤ b
        · have f2 : decide ((57344 : Int) ≤ ((b : Nat) : Int)) = true := decide_eq_true (by omega)
          have HE := Lib.hid (show unitR (S.drop p) = .bad 31 by rw [HV3.out, if_pos (.inr e2)])
          go_wp2_with fail
          refine (jfail_any g 31 F w4).mono ?_
          rintro e w5 ⟨rfl, rfl⟩
          go_wp2_with fail
          exact ⟨rfl, HB4.out, .inr ⟨31, F, HE.out, rfl⟩⟩
        have f2 : decide ((57344 : Int) ≤ ((b : Nat) : Int)) = false := decide_eq_false (by omega)
        have HE := Lib.hid (show unitR (S.drop p) = .ok (65536 + (a - 55296) * 1024 + (b - 56320)) (S.drop q') by rw [HV3.out, if_neg (by omega)])
        have a1 : (55296 : Int) ≤ ((a : Nat) : Int) := by omega
        have a2 : ((a : Nat) : Int) < 56320 := by omega
        have b1 : (56320 : Int) ≤ ((b : Nat) : Int) := by omega
        have b2 : ((b : Nat) : Int) < 57344 := by omega
        go_wp2_with fail
        go_ret
        refine ⟨HB4.out, .inl ⟨_, q', HE.out, ?_, HR4.out⟩⟩
        have e : (65536 : Int) + (((a : Nat) : Int) - 55296) * 1024 + (((b : Nat) : Int) - 56320) = ((65536 + (a - 55296) * 1024 + (b - 56320) : Nat) : Int) := by omega
        rw [← e]
        rfl
      · have HE := Lib.hid (show unitR (S.drop p) = .bad n by rw [HV2.out, hbb]; rfl)
        clear hbb hb4 HV2 HX2
        go_wp2_with fail
        exact ⟨rfl, HB4.out, .inr ⟨n, x, HE.out, rfl⟩⟩
  · have HE := Lib.hid (show unitR (S.drop p) = .bad n by rw [HU.out, ha]; rfl)
    clear ha hb1 HU HX
    go_wp2_with fail
    exact ⟨rfl, HB1.out, .inr ⟨n, x, HE.out, rfl⟩⟩
end Go.Proofs.YtfdijcdpmgkdkaaGreatDoor
set_option linter.unusedVariables false
namespace Go.Proofs.YtfdijcdpmgkdkaaGreatDoor
open Go.RowKit

def leafV (k : Int) (y : Bool) (t : List UInt8) : Value := .agg #[.int .i64 k, .bool y, .string ⟨t.toArray⟩, .slice none 0 0, .slice none 0 0]
/-- How a reader's call with a number's value ends. -/
def NumRes (g : Nat) (S : List UInt8) (d o : Nat) (res : PR (List UInt8)) (w : World) (e : Ending) (w' : World) : Prop :=
  But g w w' ∧ ((∃ t q, res = .ok t (S.drop q) ∧ e = .returned (leafV 3 false t) ∧ Rdr w' g S q d o) ∨ ∃ n a, res = .bad n ∧ e = .panicked (thrown n a))
theorem str_mid2 (l : List UInt8) (i j : Nat) (hij : i ≤ j) (hj : j ≤ l.length) (w : World) :
    (Instr.slice 9 (.string ⟨l.toArray⟩) (some (.int .i64 (i : Int))) (some (.int .i64 (j : Int))) none).run Tryz.prog w = .ok (.string ⟨((l.drop i).take (j - i)).toArray⟩) w := by
  rw [run_slice_string w 9 _ .i64 .i64 (i : Int) (j : Int) Tryz.underlying9 (by omega) (by omega) (by simp [ByteArray.size]; omega)]
  congr 2
  apply ByteArray.ext
  apply Array.ext'
  simp [ByteArray.data_extract]
theorem value_stored {w : World} {g : Nat} {x0 x1 x2 x3 x4 : Value} {T : TypeId} {fr : Nat × Nat} (h : w.heap[g]? = some (.cells #[x0, x1, x2, x3, x4] T fr)) (a b c d e : Value) :
    (((((w.setCell ⟨g, 0, none⟩ a).setCell ⟨g, 1, none⟩ b).setCell ⟨g, 2, none⟩ c).setCell ⟨g, 3, none⟩ d).setCell ⟨g, 4, none⟩ e).heap[g]? = some (.cells #[a, b, c, d, e] T fr) := by
  simp [World.setCell, Array.getElem?_modify, h]
theorem but_stored {g gv : Nat} {w0 w : World} (h : But g w0 w) (hg : w0.heap.size ≤ gv) (a b c d e : Value) :
    But g w0 (((((w.setCell ⟨gv, 0, none⟩ a).setCell ⟨gv, 1, none⟩ b).setCell ⟨gv, 2, none⟩ c).setCell ⟨gv, 3, none⟩ d).setCell ⟨gv, 4, none⟩ e) := by
  have s1 : ∀ (w : World) (i : Nat) (v : Value), But g w0 w → But g w0 (w.setCell ⟨gv, i, none⟩ v) := by
    intro w i v h
    exact ⟨h.os, h.tape, h.output, by rw [show (w.setCell ⟨gv, i, none⟩ v).heap.size = w.heap.size by simp [World.setCell]]; exact h.size, fun k hk hne => (Below.heap_setCell _ _ _ _ (show k ≠ gv by omega)).trans (h.block k hk hne)⟩
  exact s1 _ _ _ (s1 _ _ _ (s1 _ _ _ (s1 _ _ _ (s1 _ _ _ h))))
theorem Rdr.stored {g gv : Nat} {S : List UInt8} {p d o : Nat} {w : World} (h : Rdr w g S p d o) (hg : g ≠ gv) (a b c e f : Value) :
    Rdr (((((w.setCell ⟨gv, 0, none⟩ a).setCell ⟨gv, 1, none⟩ b).setCell ⟨gv, 2, none⟩ c).setCell ⟨gv, 3, none⟩ e).setCell ⟨gv, 4, none⟩ f) g S p d o := by
  refine ⟨?_, h.le⟩
  rw [Below.heap_setCell _ _ _ _ hg, Below.heap_setCell _ _ _ _ hg, Below.heap_setCell _ _ _ _ hg, Below.heap_setCell _ _ _ _ hg, Below.heap_setCell _ _ _ _ hg]
  exact h.heap
theorem num_le {S : List UInt8} {p q : Nat} (hp : p ≤ S.length) (hq : q ≤ S.length) (h : numR (S.drop p) = .ok () (S.drop q)) : p ≤ q := by
  obtain ⟨r, e, _⟩ := num_pre h
  have := congrArg List.length e
  simp only [List.length_append, List.length_drop] at this
  omega
/-- What next has done. -/
def Nxt (S : List UInt8) (p : Nat) (c : UInt8) (b : Bool) (q : Nat) : Prop := (b = true ∧ peekL (S.drop p) = c ∧ q = p + 1) ∨ (b = false ∧ peekL (S.drop p) ≠ c ∧ q = p)
theorem jnext_any (g : Nat) (S : List UInt8) (p d o : Nat) (c : UInt8) (C : Int) (w : World) (h : Rdr w g S p d o) (hl : S.length ≤ 1000000) (h0 : c ≠ 0) (hC : C = (c.toNat : Int)) :
    Calls Tryz.prog 121 #[.pointer (some ⟨g, 0, none⟩), .int .u8 C] w fun e w' => ∃ b q, e = .returned (.bool b) ∧ Hid (Nxt S p c b q) ∧ Hid (Rdr w' g S q d o) ∧ Hid (But g w w') := by
  by_cases hc : peekL (S.drop p) = c
  · refine (jnext_hit g S p d o c C w h hl hc h0 hC).mono ?_
    rintro e w' ⟨rfl, hr, hb⟩
    exact ⟨true, p + 1, rfl, Lib.hid (.inl ⟨rfl, hc, rfl⟩), Lib.hid hr, Lib.hid hb⟩
  · refine (jnext_miss g S p d o c C w h hl hc hC).mono ?_
    rintro e w' ⟨rfl, hr, hb⟩
    exact ⟨false, p, rfl, Lib.hid (.inr ⟨rfl, hc, rfl⟩), Lib.hid hr, Lib.hid hb⟩
theorem Nxt.le {S : List UInt8} {p q : Nat} {c : UInt8} {b : Bool} (h : Nxt S p c b q) : p ≤ q := by
  rcases h with ⟨_, _, rfl⟩ | ⟨_, _, rfl⟩ <;> omega
theorem head_yes {S : List UInt8} {p : Nat} {c : UInt8} (h0 : c ≠ 0) (h : peekL (S.drop p) = c) : (S.drop p).head? = some c ∧ (S.drop p).tail = S.drop (p + 1) := ⟨(head_peek h0).2 h, List.tail_drop⟩
theorem head_not {S : List UInt8} {p : Nat} {c : UInt8} (h0 : c ≠ 0) (h : peekL (S.drop p) ≠ c) : ¬ (S.drop p).head? = some c := fun e => h ((head_peek h0).1 e)
theorem Nxt.yes {S : List UInt8} {p q : Nat} {c : UInt8} (h : Nxt S p c true q) (h0 : c ≠ 0) : (S.drop p).head? = some c ∧ (S.drop p).tail = S.drop q := by
  rcases h with ⟨_, hc, rfl⟩ | ⟨h, _⟩
  · exact head_yes h0 hc
  · cases h
theorem Nxt.no {S : List UInt8} {p q : Nat} {c : UInt8} (h : Nxt S p c false q) (h0 : c ≠ 0) : ¬ (S.drop p).head? = some c ∧ q = p := by
  rcases h with ⟨h, _⟩ | ⟨_, hc, rfl⟩
  · cases h
  · exact ⟨head_not h0 hc, rfl⟩
theorem skip_yes {S : List UInt8} {p : Nat} {c : UInt8} (h0 : c ≠ 0) (h : peekL (S.drop p) = c) : skipL c (S.drop p) = S.drop (p + 1) := by
  unfold skipL
  rw [if_pos (head_yes h0 h).1, (head_yes h0 h).2]
theorem skip_not {S : List UInt8} {p : Nat} {c : UInt8} (h0 : c ≠ 0) (h : peekL (S.drop p) ≠ c) : skipL c (S.drop p) = S.drop p := by
  unfold skipL
  rw [if_neg (head_not h0 h)]
theorem Nxt.skip {S : List UInt8} {p q : Nat} {c : UInt8} {b : Bool} (h : Nxt S p c b q) (h0 : c ≠ 0) : skipL c (S.drop p) = S.drop q := by
  rcases h with ⟨_, hc, rfl⟩ | ⟨_, hc, rfl⟩
  · exact skip_yes h0 hc
  · exact skip_not h0 hc
/-- digits, from a place. -/
def DigRes (g : Nat) (S : List UInt8) (p d o : Nat) (w : World) (e : Ending) (w' : World) : Prop :=
  Hid (But g w w') ∧ ((∃ q, Hid (digitsL (S.drop p) = .ok () (S.drop q)) ∧ e = .returned (.tuple #[]) ∧ Hid (Rdr w' g S q d o)) ∨ ∃ n a, Hid (digitsL (S.drop p) = .bad n) ∧ e = .panicked (thrown n a))
theorem jdigits_h (g : Nat) (S : List UInt8) (p d o : Nat) (w : World) (h : Rdr w g S p d o) (hl : S.length ≤ 1000000) :
    Calls Tryz.prog 122 #[.pointer (some ⟨g, 0, none⟩)] w fun e w' => DigRes g S p d o w e w' := by
  refine (jdigits_any g S p d o w h hl).mono ?_
  rintro e w' ⟨hb, ⟨q, h1, h2, h3⟩ | ⟨n, a, h1, h2⟩⟩
  · exact ⟨Lib.hid hb, .inl ⟨q, Lib.hid h1, h2, Lib.hid h3⟩⟩
  · exact ⟨Lib.hid hb, .inr ⟨n, a, Lib.hid h1, h2⟩⟩
set_option maxRecDepth 100000 in
set_option maxHeartbeats 16000000 in
theorem jnumber_any (g : Nat) (S : List UInt8) (p d o : Nat) (w : World) (h : Rdr w g S p d o) (hl : S.length ≤ 1000000) :
    Calls Tryz.prog 84 #[.pointer (some ⟨g, 0, none⟩)] w fun e w' => NumRes g S d o (numberL (S.drop p)) w e w' := by
  have hp1 := h.c1
  have hple := h.le
  have hgl := h.lt
  have hr0 := h.below ((Below.refl w.heap.size w).alloc (Nat.le_refl _) (.cells #[.int .i64 0, .bool false, .string ⟨#[]⟩, .slice none 0 0, .slice none 0 0] 26))
  have hb0 := (But.refl g w).below ((Below.refl w.heap.size w).alloc (Nat.le_refl _) (.cells #[.int .i64 0, .bool false, .string ⟨#[]⟩, .slice none 0 0, .slice none 0 0] 26))
  have hk0 := heap_alloc_new w (.cells #[.int .i64 0, .bool false, .string ⟨#[]⟩, .slice none 0 0, .slice none 0 0] 26)
  have hs0 : w.heap.size < (w.alloc (.cells #[.int .i64 0, .bool false, .string ⟨#[]⟩, .slice none 0 0, .slice none 0 0] 26)).heap.size := by simp
  clear h
  go_enter Tryz.func84, Tryz.ntmps84
  have hp10 := hr0.c1
  go_wp2_with fail
  obtain ⟨w0, hw0⟩ : ∃ x, w.alloc (.cells #[.int .i64 0, .bool false, .string ⟨#[]⟩, .slice none 0 0, .slice none 0 0] 26) = x := ⟨_, rfl⟩
  rw [hw0] at hr0 hb0 hk0 hs0 hp10 ⊢
  obtain ⟨gv, hgv⟩ : ∃ x, w.heap.size = x := ⟨_, rfl⟩
  rw [hgv] at hk0 hgl hs0 ⊢
  have hgw : w.heap.size ≤ gv := by omega
  have HB0 := Lib.hid hb0
  have HK0 := Lib.hid hk0
  have HN := Lib.hid (show numberL (S.drop p) = (numR (S.drop p)).bind fun _ r' => .ok ((S.drop p).take ((S.drop p).length - r'.length)) r' from rfl)
  have HM := Lib.hid (jnext_any g S p d o 45 45 w0 hr0 hl (by decide) rfl)
  clear hw0 hgv hr0 hb0 hk0 hp1 hp10
  refine HM.out.mono ?_
  rintro e w1 ⟨b1, q1, rfl, hx1, HR1, HB1⟩
  have HQ1 := Lib.hid (hx1.out.skip (by decide))
  clear HM hx1
  have HM2 := Lib.hid (jnext_any g S q1 d o 48 48 w1 HR1.out hl (by decide) rfl)
  go_wp2_with fail
  refine HM2.out.mono ?_
  rintro e w2 ⟨b2, q2, rfl, hx2, HR2, hb2⟩
  have HB2 := Lib.hid (HB1.out.trans hb2.out)
  clear HM2 HR1 hb2
  go_upto_if 12 with (fail)
  go_cut [] (fun wc => ∃ q : Nat, Hid (numR (S.drop p) = numFrac (S.drop q)) ∧ Hid (Rdr wc g S q d o) ∧ Hid (But g w0 wc))
  case first =>
    cases b2 with
    | true =>
      have HX : Hid (numR (S.drop p) = numFrac (S.drop q2)) := Lib.hid (by
        unfold numR
        rw [HQ1.out, if_pos (hx2.out.yes (by decide)).1, (hx2.out.yes (by decide)).2])
      go_wp2_with fail
      go_meet
      exact ⟨q2, HX, HR2, HB2⟩
    | false =>
      obtain rfl : q2 = q1 := (hx2.out.no (by decide)).2
      have HX : Hid (numR (S.drop p) = (digitsL (S.drop q2)).bind fun _ r => numFrac r) := Lib.hid (by
        unfold numR
        rw [HQ1.out, if_neg (hx2.out.no (by decide)).1])
      have HD := Lib.hid (jdigits_h g S q2 d o w2 HR2.out hl)
      go_wp2_with fail
      refine HD.out.mono ?_
      rintro e w3 ⟨hb3, hres⟩
      have HB3 := Lib.hid (HB2.out.trans hb3.out)
      clear HD
      rcases hres with ⟨q3, hm, rfl, hr3⟩ | ⟨n, a, hm, rfl⟩
      · have HX3 : Hid (numR (S.drop p) = numFrac (S.drop q3)) := Lib.hid (by rw [HX.out, hm.out]; rfl)
        go_wp2_with fail
        go_meet
        exact ⟨q3, HX3, hr3, HB3⟩
      · have HE : Hid (numberL (S.drop p) = .bad n) := Lib.hid (by rw [HN.out, HX.out, hm.out]; rfl)
        have HBB := Lib.hid (HB0.out.trans HB3.out)
        go_wp2_with fail
        exact ⟨rfl, HBB.out, .inr ⟨n, a, HE.out, rfl⟩⟩
  case rest =>
    obtain ⟨q3, HX3, HR3, HB3⟩ := hcut
    clear HR2 HB2 hx2 HB1 HQ1
    have HM := Lib.hid (jnext_any g S q3 d o 46 46 wc HR3.out hl (by decide) rfl)
    go_wp2_with fail
    refine HM.out.mono ?_
    rintro e w4 ⟨b4, q4, rfl, hx4, HR4, hb4⟩
    have HB4 := Lib.hid (HB3.out.trans hb4.out)
    clear HM HR3 hb4
    go_upto_if 16 with (fail)
    go_cut [] (fun wc => ∃ q : Nat, Hid (numR (S.drop p) = numTail (S.drop q)) ∧ Hid (Rdr wc g S q d o) ∧ Hid (But g w0 wc))
    case first =>
      cases b4 with
      | false =>
        obtain rfl : q4 = q3 := (hx4.out.no (by decide)).2
        have HX : Hid (numR (S.drop p) = numTail (S.drop q4)) := Lib.hid (by
          rw [HX3.out]
          unfold numFrac
          rw [if_neg (hx4.out.no (by decide)).1])
        go_wp2_with fail
        go_meet
        exact ⟨q4, HX, HR4, HB4⟩
      | true =>
        have HX : Hid (numR (S.drop p) = (digitsL (S.drop q4)).bind fun _ r => numTail r) := Lib.hid (by
          rw [HX3.out]
          unfold numFrac
          rw [if_pos (hx4.out.yes (by decide)).1, (hx4.out.yes (by decide)).2])
        have HD := Lib.hid (jdigits_h g S q4 d o w4 HR4.out hl)
        go_wp2_with fail
        refine HD.out.mono ?_
        rintro e w5 ⟨hb5, hres⟩
        have HB5 := Lib.hid (HB4.out.trans hb5.out)
        clear HD
        rcases hres with ⟨q5, hm, rfl, hr5⟩ | ⟨n, a, hm, rfl⟩
        · have HX5 : Hid (numR (S.drop p) = numTail (S.drop q5)) := Lib.hid (by rw [HX.out, hm.out]; rfl)
          go_wp2_with fail
          go_meet
          exact ⟨q5, HX5, hr5, HB5⟩
        · have HE : Hid (numberL (S.drop p) = .bad n) := Lib.hid (by rw [HN.out, HX.out, hm.out]; rfl)
          have HBB := Lib.hid (HB0.out.trans HB5.out)
          go_wp2_with fail
          exact ⟨rfl, HBB.out, .inr ⟨n, a, HE.out, rfl⟩⟩
    case rest =>
      obtain ⟨q5, HX5, HR5, HB5⟩ := hcut
      clear HR4 HB4 hx4 HB3 HX3
      have HM := Lib.hid (jnext_any g S q5 d o 101 101 wc HR5.out hl (by decide) rfl)
      go_wp2_with fail
      refine HM.out.mono ?_
      rintro e w6 ⟨b6, q6, rfl, hx6, HR6, hb6⟩
      have HB6 := Lib.hid (HB5.out.trans hb6.out)
      clear HM HR5 hb6
      have HNT := Lib.hid (show numTail (S.drop q5) = if (S.drop q5).head? = some 101 ∨ (S.drop q5).head? = some 69 then digitsL (if (S.drop q5).tail.head? = some 43 then (S.drop q5).tail.tail else skipL 45 (S.drop q5).tail) else .ok () (S.drop q5) from rfl)
      cases b6 with
      | true =>
        have HT : Hid (numR (S.drop p) = digitsL (if (S.drop q6).head? = some 43 then (S.drop q6).tail else skipL 45 (S.drop q6))) := Lib.hid (by rw [HX5.out, HNT.out, if_pos (.inl (hx6.out.yes (by decide)).1), (hx6.out.yes (by decide)).2])
        have HM8 := Lib.hid (jnext_any g S q6 d o 43 43 w6 HR6.out hl (by decide) rfl)
        go_wp2_with fail
        refine HM8.out.mono ?_
        rintro e w8 ⟨b8, q8, rfl, hx8, HR8, hb8⟩
        have HB8 := Lib.hid (HB6.out.trans hb8.out)
        clear HM8 hb8
        cases b8 with
        | true =>
          have HT8 : Hid (numR (S.drop p) = digitsL (S.drop q8)) := Lib.hid (by rw [HT.out, if_pos (hx8.out.yes (by decide)).1, (hx8.out.yes (by decide)).2])
          have HD := Lib.hid (jdigits_h g S q8 d o w8 HR8.out hl)
          go_wp2_with fail
          refine HD.out.mono ?_
          rintro e wx ⟨hbx, hres⟩
          have HBX := Lib.hid (HB8.out.trans hbx.out)
          clear HD
          rcases hres with ⟨qx, hm, rfl, hrx⟩ | ⟨n, a, hm, rfl⟩
          · have HZ : Hid (numR (S.drop p) = .ok () (S.drop qx)) := Lib.hid (by rw [HT8.out, hm.out])
            obtain ⟨qz, hqz⟩ : ∃ x, qx = x := ⟨_, rfl⟩
            obtain ⟨wz, hwz⟩ : ∃ x, wx = x := ⟨_, rfl⟩
            have HRZ := hrx
            have HBZ := HBX
            rw [hqz] at HZ HRZ
            rw [hwz] at HRZ HBZ ⊢
            clear hqz hwz
            have hzl := HRZ.out.le
            have hpz := num_le hple hzl HZ.out
            have HV : Hid (numberL (S.drop p) = .ok ((S.drop p).take (qz - p)) (S.drop qz)) := Lib.hid (by
              rw [HN.out, HZ.out, PR.bind_ok]
              congr 2
              simp only [List.length_drop]
              omega)
            clear HZ
            have hz0 := HRZ.out.c0
            have hz1 := HRZ.out.c1
            have hsl := str_mid2 S p qz hpz hzl
            have HBZ2 := Lib.hid (HB0.out.trans HBZ.out)
            have HKZ : Hid (wz.heap[gv]? = some (.cells #[.int .i64 0, .bool false, .string ⟨#[]⟩, .slice none 0 0, .slice none 0 0] 26 (0, 0))) := Lib.hid ((HBZ.out.block gv hs0 (by omega)).trans HK0.out)
            go_upto_region 11 with (fail)
            go_still_tail 11, (by kernel_rfl)
            change wpList _ _ _ _ _ wz.drew
            have HRY := Lib.hid (show Rdr wz.drew g S qz d o from ⟨HRZ.out.heap, HRZ.out.le⟩)
            have HBY := Lib.hid (show But g w wz.drew from ⟨HBZ2.out.os, HBZ2.out.tape, HBZ2.out.output, HBZ2.out.size, HBZ2.out.block⟩)
            have HKY := Lib.hid (show wz.drew.heap[gv]? = some (.cells #[.int .i64 0, .bool false, .string ⟨#[]⟩, .slice none 0 0, .slice none 0 0] 26 (0, 0)) from HKZ.out)
            generalize wz.drew = wy at *
            have d0 : wy.cell? ⟨gv, 0, none⟩ = some (.int .i64 0) := by rw [Lib.cell_of_heap HKY.out]; rfl
            have d1 : wy.cell? ⟨gv, 1, none⟩ = some (.bool false) := by rw [Lib.cell_of_heap HKY.out]; rfl
            have d2 : wy.cell? ⟨gv, 2, none⟩ = some (.string ⟨#[]⟩) := by rw [Lib.cell_of_heap HKY.out]; rfl
            have d3 : wy.cell? ⟨gv, 3, none⟩ = some (.slice none 0 0) := by rw [Lib.cell_of_heap HKY.out]; rfl
            have d4 : wy.cell? ⟨gv, 4, none⟩ = some (.slice none 0 0) := by rw [Lib.cell_of_heap HKY.out]; rfl
            have f0 := Lib.frozen_of_heap HKY.out 0
            have f1 := Lib.frozen_of_heap HKY.out 1
            have f2 := Lib.frozen_of_heap HKY.out 2
            have f3 := Lib.frozen_of_heap HKY.out 3
            have f4 := Lib.frozen_of_heap HKY.out 4
            clear hz0 hz1 hsl
            go_wp2_with fail
            have hst := value_stored HKY.out (.int .i64 3) (.bool false) (.string ⟨((S.drop p).take (qz - p)).toArray⟩) (.slice none 0 0) (.slice none 0 0)
            have HRE := Lib.hid (HRY.out.stored (gv := gv) (by omega) (.int .i64 3) (.bool false) (.string ⟨((S.drop p).take (qz - p)).toArray⟩) (.slice none 0 0) (.slice none 0 0))
            have HBE := Lib.hid (but_stored HBY.out hgw (.int .i64 3) (.bool false) (.string ⟨((S.drop p).take (qz - p)).toArray⟩) (.slice none 0 0) (.slice none 0 0))
            have e0 := Lib.cell_of_heap hst 0
            have e1 := Lib.cell_of_heap hst 1
            have e2 := Lib.cell_of_heap hst 2
            have e3 := Lib.cell_of_heap hst 3
            have e4 := Lib.cell_of_heap hst 4
            simp only [List.getElem?_toArray] at e0 e1 e2 e3 e4
            refine bodyPost_ret (v := leafV 3 false ((S.drop p).take (qz - p))) (by simp [leafV, results, Tryz.results84, go_sem, e0, e1, e2, e3, e4]) rfl ?_
            exact ⟨HBE.out, .inl ⟨_, _, HV.out, rfl, HRE.out⟩⟩
          · have HE : Hid (numberL (S.drop p) = .bad n) := Lib.hid (by rw [HN.out, HT8.out, hm.out]; rfl)
            have HBB := Lib.hid (HB0.out.trans HBX.out)
            go_wp2_with fail
            exact ⟨rfl, HBB.out, .inr ⟨n, a, HE.out, rfl⟩⟩
        | false =>
          obtain rfl : q8 = q6 := (hx8.out.no (by decide)).2
          have HM9 := Lib.hid (jnext_any g S q8 d o 45 45 w8 HR8.out hl (by decide) rfl)
          go_wp2_with fail
          refine HM9.out.mono ?_
          rintro e w9 ⟨b9, q9, rfl, hx9, HR9, hb9⟩
          have HB9 := Lib.hid (HB8.out.trans hb9.out)
          have HT8 : Hid (numR (S.drop p) = digitsL (S.drop q9)) := Lib.hid (by rw [HT.out, if_neg (hx8.out.no (by decide)).1, hx9.out.skip (by decide)])
          have HD := Lib.hid (jdigits_h g S q9 d o w9 HR9.out hl)
          clear HM9 hb9
          go_wp2_with fail
          refine HD.out.mono ?_
          rintro e wx ⟨hbx, hres⟩
          have HBX := Lib.hid (HB9.out.trans hbx.out)
          clear HD
          rcases hres with ⟨qx, hm, rfl, hrx⟩ | ⟨n, a, hm, rfl⟩
          · have HZ : Hid (numR (S.drop p) = .ok () (S.drop qx)) := Lib.hid (by rw [HT8.out, hm.out])
            obtain ⟨qz, hqz⟩ : ∃ x, qx = x := ⟨_, rfl⟩
            obtain ⟨wz, hwz⟩ : ∃ x, wx = x := ⟨_, rfl⟩
            have HRZ := hrx
            have HBZ := HBX
            rw [hqz] at HZ HRZ
            rw [hwz] at HRZ HBZ ⊢
            clear hqz hwz
            have hzl := HRZ.out.le
            have hpz := num_le hple hzl HZ.out
            have HV : Hid (numberL (S.drop p) = .ok ((S.drop p).take (qz - p)) (S.drop qz)) := Lib.hid (by
              rw [HN.out, HZ.out, PR.bind_ok]
              congr 2
              simp only [List.length_drop]
              omega)
            clear HZ
            have hz0 := HRZ.out.c0
            have hz1 := HRZ.out.c1
            have hsl := str_mid2 S p qz hpz hzl
            have HBZ2 := Lib.hid (HB0.out.trans HBZ.out)
            have HKZ : Hid (wz.heap[gv]? = some (.cells #[.int .i64 0, .bool false, .string ⟨#[]⟩, .slice none 0 0, .slice none 0 0] 26 (0, 0))) := Lib.hid ((HBZ.out.block gv hs0 (by omega)).trans HK0.out)
            go_upto_region 11 with (fail)
            go_still_tail 11, (by kernel_rfl)
            change wpList _ _ _ _ _ wz.drew
            have HRY := Lib.hid (show Rdr wz.drew g S qz d o from ⟨HRZ.out.heap, HRZ.out.le⟩)
            have HBY := Lib.hid (show But g w wz.drew from ⟨HBZ2.out.os, HBZ2.out.tape, HBZ2.out.output, HBZ2.out.size, HBZ2.out.block⟩)
            have HKY := Lib.hid (show wz.drew.heap[gv]? = some (.cells #[.int .i64 0, .bool false, .string ⟨#[]⟩, .slice none 0 0, .slice none 0 0] 26 (0, 0)) from HKZ.out)
            generalize wz.drew = wy at *
            have d0 : wy.cell? ⟨gv, 0, none⟩ = some (.int .i64 0) := by rw [Lib.cell_of_heap HKY.out]; rfl
            have d1 : wy.cell? ⟨gv, 1, none⟩ = some (.bool false) := by rw [Lib.cell_of_heap HKY.out]; rfl
            have d2 : wy.cell? ⟨gv, 2, none⟩ = some (.string ⟨#[]⟩) := by rw [Lib.cell_of_heap HKY.out]; rfl
            have d3 : wy.cell? ⟨gv, 3, none⟩ = some (.slice none 0 0) := by rw [Lib.cell_of_heap HKY.out]; rfl
            have d4 : wy.cell? ⟨gv, 4, none⟩ = some (.slice none 0 0) := by rw [Lib.cell_of_heap HKY.out]; rfl
            have f0 := Lib.frozen_of_heap HKY.out 0
            have f1 := Lib.frozen_of_heap HKY.out 1
            have f2 := Lib.frozen_of_heap HKY.out 2
            have f3 := Lib.frozen_of_heap HKY.out 3
            have f4 := Lib.frozen_of_heap HKY.out 4
            clear hz0 hz1 hsl
            go_wp2_with fail
            have hst := value_stored HKY.out (.int .i64 3) (.bool false) (.string ⟨((S.drop p).take (qz - p)).toArray⟩) (.slice none 0 0) (.slice none 0 0)
            have HRE := Lib.hid (HRY.out.stored (gv := gv) (by omega) (.int .i64 3) (.bool false) (.string ⟨((S.drop p).take (qz - p)).toArray⟩) (.slice none 0 0) (.slice none 0 0))
            have HBE := Lib.hid (but_stored HBY.out hgw (.int .i64 3) (.bool false) (.string ⟨((S.drop p).take (qz - p)).toArray⟩) (.slice none 0 0) (.slice none 0 0))
            have e0 := Lib.cell_of_heap hst 0
            have e1 := Lib.cell_of_heap hst 1
            have e2 := Lib.cell_of_heap hst 2
            have e3 := Lib.cell_of_heap hst 3
            have e4 := Lib.cell_of_heap hst 4
            simp only [List.getElem?_toArray] at e0 e1 e2 e3 e4
            refine bodyPost_ret (v := leafV 3 false ((S.drop p).take (qz - p))) (by simp [leafV, results, Tryz.results84, go_sem, e0, e1, e2, e3, e4]) rfl ?_
            exact ⟨HBE.out, .inl ⟨_, _, HV.out, rfl, HRE.out⟩⟩
          · have HE : Hid (numberL (S.drop p) = .bad n) := Lib.hid (by rw [HN.out, HT8.out, hm.out]; rfl)
            have HBB := Lib.hid (HB0.out.trans HBX.out)
            go_wp2_with fail
            exact ⟨rfl, HBB.out, .inr ⟨n, a, HE.out, rfl⟩⟩
      | false =>
        obtain rfl : q6 = q5 := (hx6.out.no (by decide)).2
        have HM := Lib.hid (jnext_any g S q6 d o 69 69 w6 HR6.out hl (by decide) rfl)
        go_wp2_with fail
        refine HM.out.mono ?_
        rintro e w7 ⟨b7, q7, rfl, hx7, HR7, hb7⟩
        have HB7 := Lib.hid (HB6.out.trans hb7.out)
        clear HM HR6 hb7
        cases b7 with
        | true =>
          have HT : Hid (numR (S.drop p) = digitsL (if (S.drop q7).head? = some 43 then (S.drop q7).tail else skipL 45 (S.drop q7))) := Lib.hid (by rw [HX5.out, HNT.out, if_pos (.inr (hx7.out.yes (by decide)).1), (hx7.out.yes (by decide)).2])
          have HM8 := Lib.hid (jnext_any g S q7 d o 43 43 w7 HR7.out hl (by decide) rfl)
          go_wp2_with fail
          refine HM8.out.mono ?_
          rintro e w8 ⟨b8, q8, rfl, hx8, HR8, hb8⟩
          have HB8 := Lib.hid (HB7.out.trans hb8.out)
          clear HM8 hb8
          cases b8 with
          | true =>
            have HT8 : Hid (numR (S.drop p) = digitsL (S.drop q8)) := Lib.hid (by rw [HT.out, if_pos (hx8.out.yes (by decide)).1, (hx8.out.yes (by decide)).2])
            have HD := Lib.hid (jdigits_h g S q8 d o w8 HR8.out hl)
            go_wp2_with fail
            refine HD.out.mono ?_
            rintro e wx ⟨hbx, hres⟩
            have HBX := Lib.hid (HB8.out.trans hbx.out)
            clear HD
            rcases hres with ⟨qx, hm, rfl, hrx⟩ | ⟨n, a, hm, rfl⟩
            · have HZ : Hid (numR (S.drop p) = .ok () (S.drop qx)) := Lib.hid (by rw [HT8.out, hm.out])
              obtain ⟨qz, hqz⟩ : ∃ x, qx = x := ⟨_, rfl⟩
              obtain ⟨wz, hwz⟩ : ∃ x, wx = x := ⟨_, rfl⟩
              have HRZ := hrx
              have HBZ := HBX
              rw [hqz] at HZ HRZ
              rw [hwz] at HRZ HBZ ⊢
              clear hqz hwz
              have hzl := HRZ.out.le
              have hpz := num_le hple hzl HZ.out
              have HV : Hid (numberL (S.drop p) = .ok ((S.drop p).take (qz - p)) (S.drop qz)) := Lib.hid (by
                rw [HN.out, HZ.out, PR.bind_ok]
                congr 2
                simp only [List.length_drop]
                omega)
              clear HZ
              have hz0 := HRZ.out.c0
              have hz1 := HRZ.out.c1
              have hsl := str_mid2 S p qz hpz hzl
              have HBZ2 := Lib.hid (HB0.out.trans HBZ.out)
              have HKZ : Hid (wz.heap[gv]? = some (.cells #[.int .i64 0, .bool false, .string ⟨#[]⟩, .slice none 0 0, .slice none 0 0] 26 (0, 0))) := Lib.hid ((HBZ.out.block gv hs0 (by omega)).trans HK0.out)
              go_upto_region 11 with (fail)
              go_still_tail 11, (by kernel_rfl)
              change wpList _ _ _ _ _ wz.drew
              have HRY := Lib.hid (show Rdr wz.drew g S qz d o from ⟨HRZ.out.heap, HRZ.out.le⟩)
              have HBY := Lib.hid (show But g w wz.drew from ⟨HBZ2.out.os, HBZ2.out.tape, HBZ2.out.output, HBZ2.out.size, HBZ2.out.block⟩)
              have HKY := Lib.hid (show wz.drew.heap[gv]? = some (.cells #[.int .i64 0, .bool false, .string ⟨#[]⟩, .slice none 0 0, .slice none 0 0] 26 (0, 0)) from HKZ.out)
              generalize wz.drew = wy at *
              have d0 : wy.cell? ⟨gv, 0, none⟩ = some (.int .i64 0) := by rw [Lib.cell_of_heap HKY.out]; rfl
              have d1 : wy.cell? ⟨gv, 1, none⟩ = some (.bool false) := by rw [Lib.cell_of_heap HKY.out]; rfl
              have d2 : wy.cell? ⟨gv, 2, none⟩ = some (.string ⟨#[]⟩) := by rw [Lib.cell_of_heap HKY.out]; rfl
              have d3 : wy.cell? ⟨gv, 3, none⟩ = some (.slice none 0 0) := by rw [Lib.cell_of_heap HKY.out]; rfl
              have d4 : wy.cell? ⟨gv, 4, none⟩ = some (.slice none 0 0) := by rw [Lib.cell_of_heap HKY.out]; rfl
              have f0 := Lib.frozen_of_heap HKY.out 0
              have f1 := Lib.frozen_of_heap HKY.out 1
              have f2 := Lib.frozen_of_heap HKY.out 2
              have f3 := Lib.frozen_of_heap HKY.out 3
              have f4 := Lib.frozen_of_heap HKY.out 4
              clear hz0 hz1 hsl
              go_wp2_with fail
              have hst := value_stored HKY.out (.int .i64 3) (.bool false) (.string ⟨((S.drop p).take (qz - p)).toArray⟩) (.slice none 0 0) (.slice none 0 0)
              have HRE := Lib.hid (HRY.out.stored (gv := gv) (by omega) (.int .i64 3) (.bool false) (.string ⟨((S.drop p).take (qz - p)).toArray⟩) (.slice none 0 0) (.slice none 0 0))
              have HBE := Lib.hid (but_stored HBY.out hgw (.int .i64 3) (.bool false) (.string ⟨((S.drop p).take (qz - p)).toArray⟩) (.slice none 0 0) (.slice none 0 0))
              have e0 := Lib.cell_of_heap hst 0
              have e1 := Lib.cell_of_heap hst 1
              have e2 := Lib.cell_of_heap hst 2
              have e3 := Lib.cell_of_heap hst 3
              have e4 := Lib.cell_of_heap hst 4
              simp only [List.getElem?_toArray] at e0 e1 e2 e3 e4
              refine bodyPost_ret (v := leafV 3 false ((S.drop p).take (qz - p))) (by simp [leafV, results, Tryz.results84, go_sem, e0, e1, e2, e3, e4]) rfl ?_
              exact ⟨HBE.out, .inl ⟨_, _, HV.out, rfl, HRE.out⟩⟩
            · have HE : Hid (numberL (S.drop p) = .bad n) := Lib.hid (by rw [HN.out, HT8.out, hm.out]; rfl)
              have HBB := Lib.hid (HB0.out.trans HBX.out)
              go_wp2_with fail
              exact ⟨rfl, HBB.out, .inr ⟨n, a, HE.out, rfl⟩⟩
          | false =>
            obtain rfl : q8 = q7 := (hx8.out.no (by decide)).2
            have HM9 := Lib.hid (jnext_any g S q8 d o 45 45 w8 HR8.out hl (by decide) rfl)
            go_wp2_with fail
            refine HM9.out.mono ?_
            rintro e w9 ⟨b9, q9, rfl, hx9, HR9, hb9⟩
            have HB9 := Lib.hid (HB8.out.trans hb9.out)
            have HT8 : Hid (numR (S.drop p) = digitsL (S.drop q9)) := Lib.hid (by rw [HT.out, if_neg (hx8.out.no (by decide)).1, hx9.out.skip (by decide)])
            have HD := Lib.hid (jdigits_h g S q9 d o w9 HR9.out hl)
            clear HM9 hb9
            go_wp2_with fail
            refine HD.out.mono ?_
            rintro e wx ⟨hbx, hres⟩
            have HBX := Lib.hid (HB9.out.trans hbx.out)
            clear HD
            rcases hres with ⟨qx, hm, rfl, hrx⟩ | ⟨n, a, hm, rfl⟩
            · have HZ : Hid (numR (S.drop p) = .ok () (S.drop qx)) := Lib.hid (by rw [HT8.out, hm.out])
              obtain ⟨qz, hqz⟩ : ∃ x, qx = x := ⟨_, rfl⟩
              obtain ⟨wz, hwz⟩ : ∃ x, wx = x := ⟨_, rfl⟩
              have HRZ := hrx
              have HBZ := HBX
              rw [hqz] at HZ HRZ
              rw [hwz] at HRZ HBZ ⊢
              clear hqz hwz
              have hzl := HRZ.out.le
              have hpz := num_le hple hzl HZ.out
              have HV : Hid (numberL (S.drop p) = .ok ((S.drop p).take (qz - p)) (S.drop qz)) := Lib.hid (by
                rw [HN.out, HZ.out, PR.bind_ok]
                congr 2
                simp only [List.length_drop]
                omega)
              clear HZ
              have hz0 := HRZ.out.c0
              have hz1 := HRZ.out.c1
              have hsl := str_mid2 S p qz hpz hzl
              have HBZ2 := Lib.hid (HB0.out.trans HBZ.out)
              have HKZ : Hid (wz.heap[gv]? = some (.cells #[.int .i64 0, .bool false, .string ⟨#[]⟩, .slice none 0 0, .slice none 0 0] 26 (0, 0))) := Lib.hid ((HBZ.out.block gv hs0 (by omega)).trans HK0.out)
              go_upto_region 11 with (fail)
              go_still_tail 11, (by kernel_rfl)
              change wpList _ _ _ _ _ wz.drew
              have HRY := Lib.hid (show Rdr wz.drew g S qz d o from ⟨HRZ.out.heap, HRZ.out.le⟩)
              have HBY := Lib.hid (show But g w wz.drew from ⟨HBZ2.out.os, HBZ2.out.tape, HBZ2.out.output, HBZ2.out.size, HBZ2.out.block⟩)
              have HKY := Lib.hid (show wz.drew.heap[gv]? = some (.cells #[.int .i64 0, .bool false, .string ⟨#[]⟩, .slice none 0 0, .slice none 0 0] 26 (0, 0)) from HKZ.out)
              generalize wz.drew = wy at *
              have d0 : wy.cell? ⟨gv, 0, none⟩ = some (.int .i64 0) := by rw [Lib.cell_of_heap HKY.out]; rfl
              have d1 : wy.cell? ⟨gv, 1, none⟩ = some (.bool false) := by rw [Lib.cell_of_heap HKY.out]; rfl
              have d2 : wy.cell? ⟨gv, 2, none⟩ = some (.string ⟨#[]⟩) := by rw [Lib.cell_of_heap HKY.out]; rfl
              have d3 : wy.cell? ⟨gv, 3, none⟩ = some (.slice none 0 0) := by rw [Lib.cell_of_heap HKY.out]; rfl
              have d4 : wy.cell? ⟨gv, 4, none⟩ = some (.slice none 0 0) := by rw [Lib.cell_of_heap HKY.out]; rfl
              have f0 := Lib.frozen_of_heap HKY.out 0
              have f1 := Lib.frozen_of_heap HKY.out 1
              have f2 := Lib.frozen_of_heap HKY.out 2
              have f3 := Lib.frozen_of_heap HKY.out 3
              have f4 := Lib.frozen_of_heap HKY.out 4
              clear hz0 hz1 hsl
              go_wp2_with fail
              have hst := value_stored HKY.out (.int .i64 3) (.bool false) (.string ⟨((S.drop p).take (qz - p)).toArray⟩) (.slice none 0 0) (.slice none 0 0)
              have HRE := Lib.hid (HRY.out.stored (gv := gv) (by omega) (.int .i64 3) (.bool false) (.string ⟨((S.drop p).take (qz - p)).toArray⟩) (.slice none 0 0) (.slice none 0 0))
              have HBE := Lib.hid (but_stored HBY.out hgw (.int .i64 3) (.bool false) (.string ⟨((S.drop p).take (qz - p)).toArray⟩) (.slice none 0 0) (.slice none 0 0))
              have e0 := Lib.cell_of_heap hst 0
              have e1 := Lib.cell_of_heap hst 1
              have e2 := Lib.cell_of_heap hst 2
              have e3 := Lib.cell_of_heap hst 3
              have e4 := Lib.cell_of_heap hst 4
              simp only [List.getElem?_toArray] at e0 e1 e2 e3 e4
              refine bodyPost_ret (v := leafV 3 false ((S.drop p).take (qz - p))) (by simp [leafV, results, Tryz.results84, go_sem, e0, e1, e2, e3, e4]) rfl ?_
              exact ⟨HBE.out, .inl ⟨_, _, HV.out, rfl, HRE.out⟩⟩
            · have HE : Hid (numberL (S.drop p) = .bad n) := Lib.hid (by rw [HN.out, HT8.out, hm.out]; rfl)
              have HBB := Lib.hid (HB0.out.trans HBX.out)
              go_wp2_with fail
              exact ⟨rfl, HBB.out, .inr ⟨n, a, HE.out, rfl⟩⟩
        | false =>
          obtain rfl : q7 = q6 := (hx7.out.no (by decide)).2
          have HZ : Hid (numR (S.drop p) = .ok () (S.drop q7)) := Lib.hid (by
            rw [HX5.out, HNT.out, if_neg]
            rintro (h | h)
            · exact (hx6.out.no (by decide)).1 h
            · exact (hx7.out.no (by decide)).1 h)
          obtain ⟨qz, hqz⟩ : ∃ x, q7 = x := ⟨_, rfl⟩
          obtain ⟨wz, hwz⟩ : ∃ x, w7 = x := ⟨_, rfl⟩
          have HRZ := HR7
          have HBZ := HB7
          rw [hqz] at HZ HRZ
          rw [hwz] at HRZ HBZ ⊢
          clear hqz hwz
          have hzl := HRZ.out.le
          have hpz := num_le hple hzl HZ.out
          have HV : Hid (numberL (S.drop p) = .ok ((S.drop p).take (qz - p)) (S.drop qz)) := Lib.hid (by
            rw [HN.out, HZ.out, PR.bind_ok]
            congr 2
            simp only [List.length_drop]
            omega)
          clear HZ
          have hz0 := HRZ.out.c0
          have hz1 := HRZ.out.c1
          have hsl := str_mid2 S p qz hpz hzl
          have HBZ2 := Lib.hid (HB0.out.trans HBZ.out)
          have HKZ : Hid (wz.heap[gv]? = some (.cells #[.int .i64 0, .bool false, .string ⟨#[]⟩, .slice none 0 0, .slice none 0 0] 26 (0, 0))) := Lib.hid ((HBZ.out.block gv hs0 (by omega)).trans HK0.out)
          go_upto_region 11 with (fail)
          go_still_tail 11, (by kernel_rfl)
          change wpList _ _ _ _ _ wz.drew
          have HRY := Lib.hid (show Rdr wz.drew g S qz d o from ⟨HRZ.out.heap, HRZ.out.le⟩)
          have HBY := Lib.hid (show But g w wz.drew from ⟨HBZ2.out.os, HBZ2.out.tape, HBZ2.out.output, HBZ2.out.size, HBZ2.out.block⟩)
          have HKY := Lib.hid (show wz.drew.heap[gv]? = some (.cells #[.int .i64 0, .bool false, .string ⟨#[]⟩, .slice none 0 0, .slice none 0 0] 26 (0, 0)) from HKZ.out)
          generalize wz.drew = wy at *
          have d0 : wy.cell? ⟨gv, 0, none⟩ = some (.int .i64 0) := by rw [Lib.cell_of_heap HKY.out]; rfl
          have d1 : wy.cell? ⟨gv, 1, none⟩ = some (.bool false) := by rw [Lib.cell_of_heap HKY.out]; rfl
          have d2 : wy.cell? ⟨gv, 2, none⟩ = some (.string ⟨#[]⟩) := by rw [Lib.cell_of_heap HKY.out]; rfl
          have d3 : wy.cell? ⟨gv, 3, none⟩ = some (.slice none 0 0) := by rw [Lib.cell_of_heap HKY.out]; rfl
          have d4 : wy.cell? ⟨gv, 4, none⟩ = some (.slice none 0 0) := by rw [Lib.cell_of_heap HKY.out]; rfl
          have f0 := Lib.frozen_of_heap HKY.out 0
          have f1 := Lib.frozen_of_heap HKY.out 1
          have f2 := Lib.frozen_of_heap HKY.out 2
          have f3 := Lib.frozen_of_heap HKY.out 3
          have f4 := Lib.frozen_of_heap HKY.out 4
          clear hz0 hz1 hsl
          go_wp2_with fail
          have hst := value_stored HKY.out (.int .i64 3) (.bool false) (.string ⟨((S.drop p).take (qz - p)).toArray⟩) (.slice none 0 0) (.slice none 0 0)
          have HRE := Lib.hid (HRY.out.stored (gv := gv) (by omega) (.int .i64 3) (.bool false) (.string ⟨((S.drop p).take (qz - p)).toArray⟩) (.slice none 0 0) (.slice none 0 0))
          have HBE := Lib.hid (but_stored HBY.out hgw (.int .i64 3) (.bool false) (.string ⟨((S.drop p).take (qz - p)).toArray⟩) (.slice none 0 0) (.slice none 0 0))
          have e0 := Lib.cell_of_heap hst 0
          have e1 := Lib.cell_of_heap hst 1
          have e2 := Lib.cell_of_heap hst 2
          have e3 := Lib.cell_of_heap hst 3
          have e4 := Lib.cell_of_heap hst 4
          simp only [List.getElem?_toArray] at e0 e1 e2 e3 e4
          refine bodyPost_ret (v := leafV 3 false ((S.drop p).take (qz - p))) (by simp [leafV, results, Tryz.results84, go_sem, e0, e1, e2, e3, e4]) rfl ?_
          exact ⟨HBE.out, .inl ⟨_, _, HV.out, rfl, HRE.out⟩⟩
end Go.Proofs.YtfdijcdpmgkdkaaGreatDoor
