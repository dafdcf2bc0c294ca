/- Merged: TxtP, JsP, JsQ, JsSz, Rd, Row, JsV, JsCp, JsSo, JsR, JsMp, TxtE, TxtJ, SuP, JsL, JsT, JsPl, B64p, B64q, B64r, Reg, Grow. -/
import Derived.Lib.Bytealg
import Derived.Test.YtfdijcdpmgkdkaaGreatDoorProg
import Derived.WalkKit
import Derived.WalkSpells
import Derived.Lib.Builder
import Derived.Lib.Hide
import Derived.KernelRfl
import Derived.Lib.UnsafeStr
import Derived.Lib.ConvBytes
import Derived.Lib.SlicesCompact
import Derived.Lib.Split
import Derived.Lib.SplitLaws
import Derived.Lib.IndexBytes
import Derived.Lib.IndexLaws
import Derived.Lib.Join
import Derived.RegionTactic
import Derived.ScopeJumps
import Derived.Below
set_option linter.unusedVariables false
namespace Go.Proofs.YtfdijcdpmgkdkaaGreatDoor

/-- Is the byte at a place from one to another one? -/
def inB (s : List UInt8) (i lo hi : Nat) : Bool := decide (i < s.length) && (decide (lo ≤ (s.getD i 0).toNat) && decide ((s.getD i 0).toNat ≤ hi))
def lo3 (c : Nat) : Nat := if c = 224 then 160 else 128
def hi3 (c : Nat) : Nat := if c = 237 then 159 else 191
def lo4 (c : Nat) : Nat := if c = 240 then 144 else 128
def hi4 (c : Nat) : Nat := if c = 244 then 143 else 191
def chrC (c : Nat) (s : List UInt8) : Nat :=
  if c < 128 then 1
  else if c < 194 then 0
  else if c < 224 then (if inB s 1 128 191 then 2 else 0)
  else if c < 240 then (if inB s 1 (lo3 c) (hi3 c) && inB s 2 128 191 then 3 else 0)
  else if c < 245 then (if inB s 1 (lo4 c) (hi4 c) && inB s 2 128 191 && inB s 3 128 191 then 4 else 0)
  else 0
/-- How many bytes the character has with which a text begins; 0: none does. -/
def chr (s : List UInt8) : Nat := chrC (s.getD 0 0).toNat s
theorem getD_drop (s : List UInt8) (a i : Nat) : (s.drop a).getD i 0 = s.getD (a + i) 0 := by
  simp [List.getD_eq_getElem?_getD]
theorem inB_drop (s : List UInt8) (a i lo hi : Nat) : inB (s.drop a) i lo hi = inB s (a + i) lo hi := by
  unfold inB
  rw [getD_drop, List.length_drop]
  congr 1
  rw [Bool.eq_iff_iff]
  simp only [decide_eq_true_eq]
  omega
/-- The spans that must stand behind a first byte. -/
def behindL (c : Nat) : Option (List (Nat × Nat)) :=
  if c < 128 then some []
  else if c < 194 then none
  else if c < 224 then some [(128, 191)]
  else if c = 224 then some [(160, 191), (128, 191)]
  else if c = 237 then some [(128, 159), (128, 191)]
  else if c < 240 then some [(128, 191), (128, 191)]
  else if c = 240 then some [(144, 191), (128, 191), (128, 191)]
  else if c < 244 then some [(128, 191), (128, 191), (128, 191)]
  else if c = 244 then some [(128, 143), (128, 191), (128, 191)]
  else none
def hasB (p : Nat × Nat) (c : Nat) : Bool := decide (p.1 ≤ c) && decide (c ≤ p.2)
def spansOK : List (Nat × Nat) → List UInt8 → Bool
  | [], _ => true
  | _ :: _, [] => false
  | p :: l, c :: r => hasB p c.toNat && spansOK l r
theorem spansOK_short : ∀ (l : List (Nat × Nat)) (r : List UInt8), r.length < l.length → spansOK l r = false
  | [], _, h => by simp at h
  | _ :: _, [], _ => rfl
  | p :: l, c :: r, h => by
    unfold spansOK
    rw [spansOK_short l r (by simpa using h), Bool.and_false]
theorem inB_0 (c : UInt8) (r : List UInt8) (lo hi : Nat) : inB (c :: r) 0 lo hi = hasB (lo, hi) c.toNat := by
  simp [inB, hasB]
theorem spansOK_in : ∀ (p : Nat × Nat) (l : List (Nat × Nat)) (r : List UInt8), spansOK (p :: l) r = (inB r 0 p.1 p.2 && spansOK l (r.drop 1))
  | p, l, [] => by simp [spansOK, inB]
  | p, l, c :: r => by rw [inB_0]; rfl
theorem spans1 (r : List UInt8) (a b : Nat) : spansOK [(a, b)] r = inB r 0 a b := by
  rw [spansOK_in]; simp [spansOK]
theorem spans2 (r : List UInt8) (a b c d : Nat) : spansOK [(a, b), (c, d)] r = (inB r 0 a b && inB r 1 c d) := by
  rw [spansOK_in, spans1, inB_drop]
theorem spans3 (r : List UInt8) (a b c d e f : Nat) : spansOK [(a, b), (c, d), (e, f)] r = (inB r 0 a b && inB r 1 c d && inB r 2 e f) := by
  rw [spansOK_in, spans2, inB_drop, inB_drop, Bool.and_assoc]
theorem chr_spans (s : List UInt8) : chr s = match behindL (s.getD 0 0).toNat with
    | none => 0
    | some l => if spansOK l (s.drop 1) then 1 + l.length else 0 := by
  unfold chr
  generalize (s.getD 0 0).toNat = c
  unfold chrC behindL
  have e1 : ∀ i lo hi, inB (s.drop 1) i lo hi = inB s (1 + i) lo hi := fun i lo hi => inB_drop s 1 i lo hi
  by_cases h1 : c < 128
  · rw [if_pos h1, if_pos h1]; rfl
  rw [if_neg h1, if_neg h1]
  by_cases h2 : c < 194
  · rw [if_pos h2, if_pos h2]
  rw [if_neg h2, if_neg h2]
  by_cases h3 : c < 224
  · rw [if_pos h3, if_pos h3]
    simp only [spans1, e1]
    rfl
  rw [if_neg h3, if_neg h3]
  by_cases h4 : c = 224
  · subst h4
    rw [if_pos (show (224 : Nat) < 240 by decide), if_pos (rfl : (224 : Nat) = 224)]
    simp only [spans2, e1]
    rfl
  rw [if_neg h4]
  by_cases h5 : c = 237
  · subst h5
    rw [if_pos (show (237 : Nat) < 240 by decide), if_pos (rfl : (237 : Nat) = 237)]
    simp only [spans2, e1]
    rfl
  rw [if_neg h5]
  by_cases h6 : c < 240
  · rw [if_pos h6, if_pos h6]
    simp only [spans2, e1, lo3, hi3, if_neg h4, if_neg h5]
    rfl
  rw [if_neg h6, if_neg h6]
  by_cases h7 : c = 240
  · subst h7
    rw [if_pos (show (240 : Nat) < 245 by decide), if_pos (rfl : (240 : Nat) = 240)]
    simp only [spans3, e1]
    rfl
  rw [if_neg h7]
  by_cases h8 : c < 244
  · rw [if_pos h8, if_pos (by omega)]
    simp only [spans3, e1, lo4, hi4, if_neg h7, if_neg (show ¬ c = 244 by omega)]
    rfl
  rw [if_neg h8]
  by_cases h9 : c = 244
  · subst h9
    rw [if_pos (show (244 : Nat) < 245 by decide), if_pos (rfl : (244 : Nat) = 244)]
    simp only [spans3, e1]
    rfl
  rw [if_neg h9, if_neg (by omega)]
theorem chr_le (s : List UInt8) : chr s ≤ 4 := by
  unfold chr chrC
  repeat' split
  all_goals omega
theorem chr_len (s : List UInt8) (h : s ≠ []) : chr s ≤ s.length := by
  have hl : 1 ≤ s.length := by cases s with | nil => exact absurd rfl h | cons => simp
  have hin : ∀ i lo hi, inB s i lo hi = true → i < s.length := by
    intro i lo hi hh
    unfold inB at hh
    simp only [Bool.and_eq_true, decide_eq_true_eq] at hh
    exact hh.1
  unfold chr chrC
  split
  · exact hl
  · split
    · omega
    · split
      · split
        · rename_i h; have := hin _ _ _ h; omega
        · omega
      · split
        · split
          · rename_i h; simp only [Bool.and_eq_true] at h; have := hin _ _ _ h.2; omega
          · omega
        · split
          · split
            · rename_i h; simp only [Bool.and_eq_true] at h; have := hin _ _ _ h.2; omega
            · omega
          · omega
/-- Where a text isn't told. -/
def wrongN : Nat → List UInt8 → Option Nat
  | _, [] => none
  | 0, _ :: _ => none
  | n + 1, b :: r => if chr (b :: r) = 0 then some 0 else (wrongN n ((b :: r).drop (chr (b :: r)))).map (· + chr (b :: r))
def wrongL (s : List UInt8) : Option Nat := wrongN s.length s
theorem wrongN_any : ∀ (n m : Nat) (s : List UInt8), s.length ≤ n → s.length ≤ m → wrongN n s = wrongN m s
  | n, m, [], _, _ => by cases n <;> cases m <;> rfl
  | 0, m, _ :: _, h, _ => by simp at h
  | n + 1, 0, _ :: _, _, h => by simp at h
  | n + 1, m + 1, b :: r, h1, h2 => by
    unfold wrongN
    by_cases hc : chr (b :: r) = 0
    · rw [if_pos hc, if_pos hc]
    · rw [if_neg hc, if_neg hc, wrongN_any n m _ (by rw [List.length_drop]; simp at h1 ⊢; omega) (by rw [List.length_drop]; simp at h2 ⊢; omega)]
theorem wrongL_nil : wrongL [] = none := rfl
theorem wrongL_cons (b : UInt8) (r : List UInt8) : wrongL (b :: r) = if chr (b :: r) = 0 then some 0 else (wrongL ((b :: r).drop (chr (b :: r)))).map (· + chr (b :: r)) := by
  unfold wrongL
  rw [List.length_cons]
  conv => lhs; unfold wrongN
  by_cases hc : chr (b :: r) = 0
  · rw [if_pos hc, if_pos hc]
  · rw [if_neg hc, if_neg hc, wrongN_any r.length _ _ (by rw [List.length_drop]; simp; omega) (Nat.le_refl _)]
theorem wrongL_ne (s : List UInt8) (h : s ≠ []) : wrongL s = if chr s = 0 then some 0 else (wrongL (s.drop (chr s))).map (· + chr s) := by
  cases s with
  | nil => exact absurd rfl h
  | cons b r => exact wrongL_cons b r
/-- .. as a number: -1, if it is told. -/
def wrongI (s : List UInt8) : Int := match wrongL s with
  | some n => n
  | none => -1
def toldB (s : List UInt8) : Bool := (wrongL s).isNone
theorem wrongI_neg (s : List UInt8) : decide (wrongI s < 0) = toldB s := by
  unfold wrongI toldB
  cases wrongL s with
  | none => rfl
  | some n => simp
end Go.Proofs.YtfdijcdpmgkdkaaGreatDoor
set_option linter.unusedVariables false
namespace Go.Proofs.YtfdijcdpmgkdkaaGreatDoor

/-- A value. -/
inductive JV where
  | mk (kind : Int) (yes : Bool) (text : List UInt8) (list : List JV) (mem : List (List UInt8 × JV))
def JV.kind : JV → Int | .mk k _ _ _ _ => k
def JV.yes : JV → Bool | .mk _ y _ _ _ => y
def JV.text : JV → List UInt8 | .mk _ _ t _ _ => t
def JV.list : JV → List JV | .mk _ _ _ l _ => l
def JV.mem : JV → List (List UInt8 × JV) | .mk _ _ _ _ m => m
def JV.zero : JV := .mk 0 false [] [] []
def jnull : JV := .mk 1 false [] [] []
def jbool (b : Bool) : JV := .mk 2 b [] [] []
def jnum (t : List UInt8) : JV := .mk 3 false t [] []
def jstr (t : List UInt8) : JV := .mk 4 false t [] []
def jarr (l : List JV) : JV := .mk 5 false [] l []
def jobj (m : List (List UInt8 × JV)) : JV := .mk 6 false [] [] m

/-- What a reader makes of the rest of a text: something, and what is left; or a fault. -/
inductive PR (α : Type) where
  | ok (x : α) (r : List UInt8)
  | bad (e : Int)
def PR.bind {α β : Type} (p : PR α) (f : α → List UInt8 → PR β) : PR β := match p with
  | .ok x r => f x r
  | .bad e => .bad e
theorem PR.bind_ok {α β : Type} (x : α) (r : List UInt8) (f : α → List UInt8 → PR β) : (PR.ok x r).bind f = f x r := rfl
def peekL (r : List UInt8) : UInt8 := r.headD 0
def blankB (c : UInt8) : Bool := c == 32 || c == 9 || c == 10 || c == 13
def blankL (r : List UInt8) : List UInt8 := r.dropWhile blankB
def digB (c : UInt8) : Bool := decide (48 ≤ c.toNat) && decide (c.toNat ≤ 57)
/-- Past a byte, if it comes. -/
def skipL (c : UInt8) (r : List UInt8) : List UInt8 := if r.head? = some c then r.tail else r
def mustL (c : UInt8) (r : List UInt8) : PR Unit := if r.head? = some c then .ok () r.tail else .bad 31
def wordR : List UInt8 → List UInt8 → PR Unit
  | [], r => .ok () r
  | c :: w, r => (mustL c r).bind fun _ r => wordR w r
def digitsL (r : List UInt8) : PR Unit := if digB (peekL r) then .ok () (r.dropWhile digB) else .bad 31
def numTail (r : List UInt8) : PR Unit :=
  if r.head? = some 101 ∨ r.head? = some 69 then digitsL (if r.tail.head? = some 43 then r.tail.tail else skipL 45 r.tail) else .ok () r
def numFrac (r : List UInt8) : PR Unit := if r.head? = some 46 then (digitsL r.tail).bind fun _ r => numTail r else numTail r
def numR (r : List UInt8) : PR Unit :=
  if (skipL 45 r).head? = some 48 then numFrac (skipL 45 r).tail else (digitsL (skipL 45 r)).bind fun _ r => numFrac r
/-- A number's text. -/
def numberL (r : List UInt8) : PR (List UInt8) := (numR r).bind fun _ r' => .ok (r.take (r.length - r'.length)) r'
/-- A hexadecimal digit's number. -/
def hexV (c : UInt8) : Option Nat :=
  if 48 ≤ c.toNat ∧ c.toNat ≤ 57 then some (c.toNat - 48)
  else if 97 ≤ c.toNat ∧ c.toNat ≤ 102 then some (c.toNat - 87)
  else if 65 ≤ c.toNat ∧ c.toNat ≤ 70 then some (c.toNat - 55)
  else none
def hexN : Nat → Nat → List UInt8 → PR Nat
  | 0, n, r => .ok n r
  | k + 1, n, r => match r with
    | [] => .bad 31
    | c :: r => match hexV c with
      | none => .bad 31
      | some d => hexN k (n * 16 + d) r
def hexR (r : List UInt8) : PR Nat := hexN 4 0 r
/-- A character's bytes. -/
def utfL (n : Nat) : List UInt8 :=
  if n < 128 then [UInt8.ofNat n]
  else if n < 2048 then [UInt8.ofNat (192 + n / 64), UInt8.ofNat (128 + n % 64)]
  else if n < 65536 then [UInt8.ofNat (224 + n / 4096), UInt8.ofNat (128 + n / 64 % 64), UInt8.ofNat (128 + n % 64)]
  else [UInt8.ofNat (240 + n / 262144), UInt8.ofNat (128 + n / 4096 % 64), UInt8.ofNat (128 + n / 64 % 64), UInt8.ofNat (128 + n % 64)]
def unitR (r : List UInt8) : PR Nat := (hexR r).bind fun a r =>
  if a < 55296 ∨ 57344 ≤ a then .ok a r
  else if 56320 ≤ a then .bad 31
  else match r with
    | 92 :: 117 :: r => (hexR r).bind fun b r => if b < 56320 ∨ 57344 ≤ b then .bad 31 else .ok (65536 + (a - 55296) * 1024 + (b - 56320)) r
    | _ => .bad 31
/-- What a sign's letter means. -/
def shortV (c : UInt8) : Option UInt8 :=
  if c = 98 then some 8 else if c = 102 then some 12 else if c = 110 then some 10 else if c = 114 then some 13 else if c = 116 then some 9
  else if c = 34 then some 34 else if c = 92 then some 92 else if c = 47 then some 47 else none
def escR (r : List UInt8) : PR (List UInt8) := match r with
  | [] => .bad 31
  | c :: r => match shortV c with
    | some d => .ok [d] r
    | none => if c = 117 then (unitR r).bind fun n r => .ok (utfL n) r else .bad 31
/-- A string, behind its opening sign: b is what has been read. -/
def textN : Nat → List UInt8 → List UInt8 → PR (List UInt8)
  | 0, _, _ => .bad 31
  | k + 1, b, r => match r with
    | [] => .bad 31
    | c :: r => if c = 34 then .ok b r
      else if c = 92 then (escR r).bind fun x r => textN k (b ++ x) r
      else if c.toNat < 32 then .bad 31
      else textN k (b ++ [c]) r
def textR (r : List UInt8) : PR (List UInt8) := (mustL 34 r).bind fun _ r => textN (r.length + 1) [] r
/-- Things with commas between them, up to the byte e. -/
def rowN {α : Type} (one : α → List UInt8 → PR α) (e : UInt8) : Nat → α → List UInt8 → PR α
  | 0, _, _ => .bad 31
  | k + 1, x, r => (one x r).bind fun x r =>
    if (blankL r).head? = some e then .ok x (blankL r).tail
    else (mustL 44 (blankL r)).bind fun _ r => rowN one e k x (blankL r)
def rowR {α : Type} (one : α → List UInt8 → PR α) (e : UInt8) (x : α) (r : List UInt8) : PR α :=
  if r.head? = some e then .ok x r.tail else rowN one e (r.length + 1) x r
/-- The value of the first member of a name. -/
def getM (n : List UInt8) : List (List UInt8 × JV) → Option JV
  | [] => none
  | p :: m => if p.1 = n then some p.2 else getM n m
/-- A member's value. -/
def getJ (n : List UInt8) (v : JV) : Option JV := if v.kind = 6 then getM n v.mem else none
def arrR (val : List UInt8 → PR JV) (l : List JV) (r : List UInt8) : PR (List JV) := (val r).bind fun v r => .ok (l ++ [v]) r
def memR (val : List UInt8 → PR JV) (m : List (List UInt8 × JV)) (r : List UInt8) : PR (List (List UInt8 × JV)) :=
  (textR r).bind fun n r => if (getM n m).isSome then .bad 15 else
    (mustL 58 (blankL r)).bind fun _ r => (val (blankL r)).bind fun v r => .ok (m ++ [(n, v)]) r
/-- A value, where d more may be opened. -/
def valR : Nat → List UInt8 → PR JV
  | d, r =>
    if peekL r = 110 then (wordR [110, 117, 108, 108] r).bind fun _ r => .ok jnull r
    else if peekL r = 116 then (wordR [116, 114, 117, 101] r).bind fun _ r => .ok (jbool true) r
    else if peekL r = 102 then (wordR [102, 97, 108, 115, 101] r).bind fun _ r => .ok (jbool false) r
    else if peekL r = 34 then (textR r).bind fun t r => .ok (jstr t) r
    else if peekL r = 91 then (match d with
      | 0 => .bad 32
      | d + 1 => (rowR (arrR (valR d)) 93 [] (blankL r.tail)).bind fun l r => .ok (jarr l) r)
    else if peekL r = 123 then (match d with
      | 0 => .bad 32
      | d + 1 => (rowR (memR (valR d)) 125 [] (blankL r.tail)).bind fun m r => .ok (jobj m) r)
    else if peekL r = 45 ∨ digB (peekL r) then (numberL r).bind fun t r => .ok (jnum t) r
    else .bad 31
def wholeR (d : Nat) (r : List UInt8) : PR JV := (valR d (blankL r)).bind fun v r => if blankL r = [] then .ok v [] else .bad 31
/-- Parse: a value, or a fault's number. -/
def parseL (b : List UInt8) (depth : Int) : JV × Int :=
  if 16384 < b.length then (.zero, 11)
  else if depth < 1 ∨ 32 < depth then (.zero, 12)
  else if toldB b = false then (.zero, 30)
  else match wholeR depth.toNat b with
    | .ok v _ => (v, 0)
    | .bad e => (.zero, e)
def numericB (s : List UInt8) : Bool := match numberL s with
  | .ok t _ => t == s
  | .bad _ => false
mutual
/-- Is a value right? -/
def rightJ : JV → Bool
  | .mk k y t l m => (k == 2 || !y) && (k == 3 || k == 4 || t == []) && (k == 5 || l.isEmpty) && (k == 6 || m.isEmpty) &&
    (k == 1 || k == 2 || (k == 3 && numericB t) || (k == 4 && toldB t) || (k == 5 && rightL l) || (k == 6 && rightM m))
def rightL : List JV → Bool
  | [] => true
  | v :: l => rightJ v && rightL l
/-- .. members: each told and right, and no name twice. -/
def rightM : List (List UInt8 × JV) → Bool
  | [] => true
  | (n, v) :: m => toldB n && rightJ v && (getM n m).isNone && rightM m
end
def lowL (n : Nat) : UInt8 := if n < 10 then UInt8.ofNat (48 + n) else UInt8.ofNat (87 + n)
/-- A byte in a string's plain text. -/
def quoteC (c : UInt8) : List UInt8 :=
  if c = 8 then [92, 98] else if c = 12 then [92, 102] else if c = 10 then [92, 110] else if c = 13 then [92, 114] else if c = 9 then [92, 116]
  else if c = 34 then [92, 34] else if c = 92 then [92, 92]
  else if c.toNat < 32 then [92, 117, 48, 48, lowL (c.toNat / 16), lowL (c.toNat % 16)] else [c]
def quoteL (s : List UInt8) : List UInt8 := 34 :: (s.flatMap quoteC ++ [34])
mutual
/-- A value's plain text. -/
def plainJ : JV → List UInt8
  | .mk k y t l m => if k = 1 then [110, 117, 108, 108] else if k = 2 then (if y then [116, 114, 117, 101] else [102, 97, 108, 115, 101]) else if k = 3 then t else if k = 4 then quoteL t
    else if k = 5 then 91 :: (plainL true l ++ [93]) else if k = 6 then 123 :: (plainM true m ++ [125]) else []
def plainL : Bool → List JV → List UInt8
  | _, [] => []
  | first, v :: l => (if first then [] else [44]) ++ (plainJ v ++ plainL false l)
def plainM : Bool → List (List UInt8 × JV) → List UInt8
  | _, [] => []
  | first, (n, v) :: m => (if first then [] else [44]) ++ (quoteL n ++ (58 :: (plainJ v ++ plainM false m)))
end
mutual
/-- How deep a value is. -/
def depthJ : JV → Nat
  | .mk k y t l m => (if k = 5 then depthL l else if k = 6 then depthM m else 0) + 1
def depthL : List JV → Nat
  | [] => 0
  | v :: l => max (depthJ v) (depthL l)
def depthM : List (List UInt8 × JV) → Nat
  | [] => 0
  | (_, v) :: m => max (depthJ v) (depthM m)
end
example : parseL [91, 49, 44, 123, 34, 97, 34, 58, 91, 93, 125, 93] 3 = (jarr [jnum [49], jobj [([97], jarr [])]], 0) := by rfl
end Go.Proofs.YtfdijcdpmgkdkaaGreatDoor
set_option linter.unusedVariables false
namespace Go.Proofs.YtfdijcdpmgkdkaaGreatDoor

theorem u8_all (P : UInt8 → Prop) (h : ∀ n : Fin 256, P (UInt8.ofNat n.1)) (c : UInt8) : P c := by
  have := h ⟨c.toNat, UInt8.toNat_lt c⟩
  simpa only [UInt8.ofNat_toNat] using this
/-- What may follow a number. -/
def numEnd (r : List UInt8) : Prop := ∀ c, r.head? = some c → digB c = false ∧ c ≠ 46 ∧ c ≠ 101 ∧ c ≠ 69
theorem numEnd_nil : numEnd [] := by intro c h; simp at h
theorem numEnd_cons {c : UInt8} {r : List UInt8} (h : digB c = false ∧ c ≠ 46 ∧ c ≠ 101 ∧ c ≠ 69) : numEnd (c :: r) := by
  intro d hd
  simp only [List.head?_cons, Option.some.injEq] at hd
  subst hd
  exact h
theorem dropWhile_app {p : UInt8 → Bool} : ∀ (t r : List UInt8), (∀ c, r.head? = some c → p c = false) → (t ++ r).dropWhile p = t.dropWhile p ++ r
  | [], r, h => by
    cases r with
    | nil => rfl
    | cons c r => simp [h c rfl]
  | b :: t, r, h => by
    simp only [List.cons_append, List.dropWhile_cons]
    split
    · exact dropWhile_app t r h
    · rfl
theorem digits_ext {t t' r : List UInt8} (h : digitsL t = .ok () t') (hr : numEnd r) : digitsL (t ++ r) = .ok () (t' ++ r) := by
  unfold digitsL at h ⊢
  cases t with
  | nil => rw [if_neg (show ¬ digB (peekL []) = true by decide)] at h; cases h
  | cons b t =>
    have e : peekL (b :: t ++ r) = peekL (b :: t) := rfl
    rw [e]
    split at h
    · rename_i hd
      rw [if_pos hd, dropWhile_app _ _ (fun c hc => (hr c hc).1)]
      simp only [PR.ok.injEq, true_and] at h
      rw [h]
    · cases h
theorem head_app {t r : List UInt8} (h : t ≠ []) : (t ++ r).head? = t.head? ∧ (t ++ r).tail = t.tail ++ r := by
  cases t with
  | nil => exact absurd rfl h
  | cons b t => exact ⟨rfl, rfl⟩
theorem digits_ne {t t' : List UInt8} (h : digitsL t = .ok () t') : t ≠ [] := by
  rintro rfl
  unfold digitsL at h
  rw [if_neg (show ¬ digB (peekL []) = true by decide)] at h
  cases h
theorem skip_ext {c : UInt8} {t r : List UInt8} (h : t ≠ []) : skipL c (t ++ r) = skipL c t ++ r := by
  unfold skipL
  rw [(head_app h).1, (head_app h).2]
  split <;> rfl
theorem tail_ext {t t' r : List UInt8} (h : numTail t = .ok () t') (hr : numEnd r) : numTail (t ++ r) = .ok () (t' ++ r) := by
  by_cases ht : t = []
  · subst ht
    simp [numTail] at h
    subst h
    have hr' := hr
    unfold numTail
    rw [if_neg (show ¬ ((([] : List UInt8) ++ r).head? = some 101 ∨ (([] : List UInt8) ++ r).head? = some 69) from ?_)]
    rintro (e | e)
    · exact (hr _ e).2.2.1 rfl
    · exact (hr _ e).2.2.2 rfl
  · unfold numTail at h ⊢
    rw [(head_app ht).1, (head_app ht).2]
    split at h
    · rename_i he
      rw [if_pos he]
      have hne : t.tail ≠ [] := by
        intro e
        rw [e] at h
        simp [skipL] at h
        exact digits_ne h rfl
      rw [(head_app hne).1, (head_app hne).2, skip_ext hne]
      split at h
      · rename_i h2; rw [if_pos h2]; exact digits_ext h hr
      · rename_i h2; rw [if_neg h2]; exact digits_ext h hr
    · rename_i he
      rw [if_neg he]
      simp only [PR.ok.injEq, true_and] at h
      rw [h]
theorem bind_ok_iff {α β : Type} {p : PR α} {f : α → List UInt8 → PR β} {y : β} {q : List UInt8} (h : p.bind f = .ok y q) : ∃ x r, p = .ok x r ∧ f x r = .ok y q := by
  cases p with
  | ok x r => exact ⟨x, r, rfl, h⟩
  | bad e => cases h
theorem frac_ext {t t' r : List UInt8} (h : numFrac t = .ok () t') (hr : numEnd r) : numFrac (t ++ r) = .ok () (t' ++ r) := by
  by_cases ht : t = []
  · subst ht
    simp [numFrac] at h
    have h0 : ¬ (([] : List UInt8) ++ r).head? = some 46 := by
      intro e
      exact (hr _ e).2.1 rfl
    unfold numFrac
    rw [if_neg h0]
    exact tail_ext h hr
  · unfold numFrac at h ⊢
    rw [(head_app ht).1, (head_app ht).2]
    split at h
    · rename_i he
      rw [if_pos he]
      obtain ⟨x, q, h1, h2⟩ := bind_ok_iff h
      rw [digits_ext h1 hr]
      exact tail_ext h2 hr
    · rename_i he
      rw [if_neg he]
      exact tail_ext h hr
theorem num_ext {t t' r : List UInt8} (h : numR t = .ok () t') (hr : numEnd r) : numR (t ++ r) = .ok () (t' ++ r) := by
  have ht : t ≠ [] := by
    rintro rfl
    simp [numR, skipL] at h
    obtain ⟨x, q, h1, _⟩ := bind_ok_iff h
    exact digits_ne h1 rfl
  have hs : skipL 45 t ≠ [] := by
    intro e
    unfold numR at h
    rw [e] at h
    simp at h
    obtain ⟨x, q, h1, _⟩ := bind_ok_iff h
    exact digits_ne h1 rfl
  unfold numR at h ⊢
  rw [skip_ext ht, (head_app hs).1, (head_app hs).2]
  split at h
  · rename_i he
    rw [if_pos he]
    exact frac_ext h hr
  · rename_i he
    rw [if_neg he]
    obtain ⟨x, q, h1, h2⟩ := bind_ok_iff h
    rw [digits_ext h1 hr]
    exact frac_ext h2 hr
theorem numeric_spec {t : List UInt8} (h : numericB t = true) : numR t = .ok () [] := by
  unfold numericB numberL at h
  cases hn : numR t with
  | bad e => rw [hn] at h; simp [PR.bind] at h
  | ok x q =>
    rw [hn] at h
    simp only [PR.bind, beq_iff_eq] at h
    have hl := congrArg List.length h
    simp only [List.length_take] at hl
    cases x
    cases q with
    | nil => rfl
    | cons b q =>
      exfalso
      simp only [List.length_cons] at hl
      have ht : t ≠ [] := by
        rintro rfl
        simp [numR, skipL] at hn
        obtain ⟨x, q, h1, _⟩ := bind_ok_iff hn
        exact digits_ne h1 rfl
      have := List.length_pos_iff.2 ht
      omega
theorem number_ext {t r : List UInt8} (h : numericB t = true) (hr : numEnd r) : numberL (t ++ r) = .ok t r := by
  unfold numberL
  rw [num_ext (numeric_spec h) hr]
  simp [PR.bind]
theorem num_head {t : List UInt8} (h : numericB t = true) : ∃ c q, t = c :: q ∧ (c = 45 ∨ digB c = true) := by
  have hn := numeric_spec h
  cases t with
  | nil =>
    simp [numR, skipL] at hn
    obtain ⟨x, q, h1, _⟩ := bind_ok_iff hn
    exact absurd rfl (digits_ne h1)
  | cons c q =>
    refine ⟨c, q, rfl, ?_⟩
    by_cases h45 : c = 45
    · exact .inl h45
    · right
      have e : skipL 45 (c :: q) = c :: q := by simp [skipL, h45]
      unfold numR at hn
      rw [e] at hn
      by_cases h48 : c = 48
      · rw [h48]; decide
      · rw [if_neg (by simpa using h48)] at hn
        obtain ⟨x, q', h1, _⟩ := bind_ok_iff hn
        unfold digitsL at h1
        split at h1
        · rename_i hd; exact hd
        · cases h1

/-- Each byte in a string's plain text, read. -/
def quoteOK (c : UInt8) : Bool := match quoteC c with
  | [x] => x == c && x != 34 && x != 92 && decide (32 ≤ x.toNat)
  | [a, x] => a == 92 && shortV x == some c
  | [a, b, x, y, h, l] => a == 92 && b == 117 && x == 48 && y == 48 && (match hexV h, hexV l with
    | some h, some l => UInt8.ofNat (h * 16 + l) == c && decide (h * 16 + l < 32)
    | _, _ => false)
  | _ => false
theorem quote_ok : ∀ c, quoteOK c = true := u8_all _ (by decide +kernel)
theorem text_step (k : Nat) (b : List UInt8) (c : UInt8) (r : List UInt8) : textN (k + 1) b (quoteC c ++ r) = textN k (b ++ [c]) r := by
  have h := quote_ok c
  unfold quoteOK at h
  split at h
  · rename_i x e
    rw [e]
    simp only [Bool.and_eq_true, beq_iff_eq, bne_iff_ne, ne_eq, decide_eq_true_eq] at h
    obtain ⟨⟨⟨rfl, h1⟩, h2⟩, h3⟩ := h
    simp only [List.cons_append, List.nil_append, textN]
    rw [if_neg h1, if_neg h2, if_neg (by omega)]
  · rename_i a x e
    rw [e]
    simp only [Bool.and_eq_true, beq_iff_eq] at h
    obtain ⟨rfl, h1⟩ := h
    simp only [List.cons_append, List.nil_append, textN]
    rw [if_neg (by decide), if_pos trivial]
    simp only [escR, h1, PR.bind]
  · rename_i a a2 x y hh ll e
    rw [e]
    simp only [Bool.and_eq_true, beq_iff_eq] at h
    obtain ⟨⟨⟨⟨rfl, rfl⟩, rfl⟩, rfl⟩, h1⟩ := h
    cases hx : hexV hh with
    | none => rw [hx] at h1; simp at h1
    | some p =>
      cases hy : hexV ll with
      | none => rw [hx, hy] at h1; simp at h1
      | some q =>
        rw [hx, hy] at h1
        simp only [Bool.and_eq_true, beq_iff_eq, decide_eq_true_eq] at h1
        obtain ⟨h1, h2⟩ := h1
        simp only [List.cons_append, List.nil_append, textN]
        rw [if_neg (by decide), if_pos trivial]
        have e0 : hexV 48 = some 0 := by decide
        have es : shortV 117 = none := by decide
        have e1 : unitR (48 :: 48 :: hh :: ll :: r) = .ok (p * 16 + q) r := by
          unfold unitR hexR
          simp only [hexN, e0, hx, hy, PR.bind]
          rw [if_pos (by omega)]
          simp
        simp only [escR, es, if_true, e1, PR.bind]
        have e2 : utfL (p * 16 + q) = [c] := by
          unfold utfL
          rw [if_pos (by omega), h1]
        rw [e2]
  · cases h
theorem text_steps : ∀ (s : List UInt8) (k : Nat) (b r : List UInt8), s.length < k → textN k b (s.flatMap quoteC ++ (34 :: r)) = .ok (b ++ s) r
  | [], k, b, r, h => by
    obtain ⟨k, rfl⟩ : ∃ q, k = q + 1 := ⟨k - 1, by simp at h; omega⟩
    simp [textN]
  | c :: s, k, b, r, h => by
    simp only [List.length_cons] at h
    obtain ⟨k, rfl⟩ : ∃ q, k = q + 1 := ⟨k - 1, by omega⟩
    rw [List.flatMap_cons, List.append_assoc, text_step, text_steps s k (b ++ [c]) r (by omega)]
    simp
theorem quoteC_pos (c : UInt8) : 1 ≤ (quoteC c).length := by
  have h := quote_ok c
  unfold quoteOK at h
  split at h <;> rename_i e <;> first | (rw [e]; simp; done) | cases h
theorem quote_len (s : List UInt8) : s.length ≤ (s.flatMap quoteC).length := by
  induction s with
  | nil => simp
  | cons c s ih =>
    have := quoteC_pos c
    simp only [List.flatMap_cons, List.length_append, List.length_cons]
    omega
theorem text_quote (s r : List UInt8) : textR (quoteL s ++ r) = .ok s r := by
  unfold textR quoteL mustL
  simp only [List.cons_append, List.append_assoc, List.head?_cons, if_true, List.tail_cons, PR.bind, List.nil_append]
  have := text_steps s ((s.flatMap quoteC ++ 34 :: r).length + 1) [] r (by have := quote_len s; simp only [List.length_append, List.length_cons]; omega)
  simpa using this
end Go.Proofs.YtfdijcdpmgkdkaaGreatDoor
set_option linter.unusedVariables false
namespace Go.Proofs.YtfdijcdpmgkdkaaGreatDoor

mutual
/-- How great a value is. -/
def sizeJ : JV → Nat
  | .mk k y t l m => 1 + t.length + sizeL l + sizeM m
def sizeL : List JV → Nat
  | [] => 0
  | v :: l => sizeJ v + sizeL l
def sizeM : List (List UInt8 × JV) → Nat
  | [] => 0
  | (n, v) :: m => 1 + n.length + sizeJ v + sizeM m
end
theorem size_pos (v : JV) : 1 ≤ sizeJ v := by
  obtain ⟨k, y, t, l, m⟩ := v
  rw [sizeJ]; omega
theorem size_list : ∀ {l : List JV} {x : JV}, x ∈ l → sizeJ x ≤ sizeL l
  | y :: l, x, h => by
    rw [sizeL]
    rcases List.mem_cons.1 h with rfl | h
    · omega
    · have := size_list h; omega
theorem size_mem : ∀ {m : List (List UInt8 × JV)} {x : List UInt8 × JV}, x ∈ m → 1 + x.1.length + sizeJ x.2 ≤ sizeM m
  | y :: l, x, h => by
    obtain ⟨n, v⟩ := y
    rw [sizeM]
    rcases List.mem_cons.1 h with rfl | h
    · show 1 + n.length + sizeJ v ≤ _
      omega
    · have := size_mem h; omega
theorem len_size : ∀ l : List JV, l.length ≤ sizeL l
  | [] => by simp [sizeL]
  | v :: l => by
    have := len_size l
    have := size_pos v
    rw [sizeL, List.length_cons]; omega
theorem lenM_size : ∀ m : List (List UInt8 × JV), m.length ≤ sizeM m
  | [] => by simp [sizeM]
  | (n, v) :: l => by
    have := lenM_size l
    rw [sizeM, List.length_cons]; omega
theorem quoteC_six : ∀ c : UInt8, (quoteC c).length ≤ 6 := u8_all _ (by decide +kernel)
theorem quote_len6 : ∀ s : List UInt8, (s.flatMap quoteC).length ≤ 6 * s.length
  | [] => by simp
  | c :: s => by
    have := quote_len6 s
    have := quoteC_six c
    rw [List.flatMap_cons, List.length_append, List.length_cons]; omega
theorem quoteL_len6 (s : List UInt8) : (quoteL s).length ≤ 6 * s.length + 2 := by
  have := quote_len6 s
  unfold quoteL
  simp only [List.length_cons, List.length_append, List.length_nil]
  omega
end Go.Proofs.YtfdijcdpmgkdkaaGreatDoor
namespace Go.Proofs.YtfdijcdpmgkdkaaGreatDoor
open Go.RowKit

/-- The bytes l lie at the address a. -/
def Rd (w : World) (a : Option Addr) (l : List UInt8) : Prop :=
  l = [] ∨ ∃ b off, a = some ⟨b, off, none⟩ ∧ ∀ i (h : i < l.length), w.cell? ⟨b, off + i, none⟩ = some (.int .u8 (l[i]).toNat)

theorem Rd.at {w : World} {a : Option Addr} {l : List UInt8} (h : Rd w a l) {k : Nat} (hk : k < l.length) :
    ∃ b off, a = some ⟨b, off, none⟩ ∧ ∀ i (h : i < l.length), w.cell? ⟨b, off + i, none⟩ = some (.int .u8 (l[i]).toNat) := by
  rcases h with rfl | h
  · simp at hk
  · exact h

/-- What a row of the call's own reads as. -/
theorem Rd.of_cells {w : World} {g : Nat} {cs : Array Value} {T : TypeId} {fr : Nat × Nat} (h : w.heap[g]? = some (.cells cs T fr)) (l : List UInt8) (hl : ∀ i (h : i < l.length), cs[i]? = some (.int .u8 (l[i]).toNat)) :
    Rd w (some ⟨g, 0, none⟩) l := by
  refine .inr ⟨g, 0, rfl, fun i hi => ?_⟩
  rw [Nat.zero_add, Lib.cell_of_heap h]
  exact hl i hi

theorem Rd.of_lit {w : World} {g : Nat} {T : TypeId} {fr : Nat × Nat} (l : List UInt8) (h : w.heap[g]? = some (.cells (Lib.byteCells l).toArray T fr)) : Rd w (some ⟨g, 0, none⟩) l :=
  Rd.of_cells h l fun i hi => by simp [Lib.byteCells, hi]


/-- The cells of a row that came in, as bytes. -/
theorem rd_of_cells {w : World} {a : Option Addr} {len cap : Nat} {zs : List Int}
    (h : (a = none ∧ len = 0 ∧ cap = 0 ∧ zs = []) ∨ ∃ x, a = some x ∧ len ≤ cap ∧ cap ≤ maxLen ∧ zs.length = cap ∧ (∀ i, i < zs.length → w.cell? (x.add i) = some (.int .u8 (zs.getD i 0))) ∧ ∀ n ∈ zs, (Lit.int .u8 n).wf = true) :
    ∃ l : List UInt8, len = l.length ∧ Rd w a l := by
  rcases h with ⟨rfl, rfl, rfl, rfl⟩ | ⟨x, rfl, hl, hm, hz, hc, hwf⟩
  · exact ⟨[], rfl, .inl rfl⟩
  · cases len with
    | zero => exact ⟨[], rfl, .inl rfl⟩
    | succ len =>
      obtain ⟨b, off, spot⟩ := x
      have h0 := hc 0 (by omega)
      have hsp : spot = none := by
        cases spot with
        | none => rfl
        | some k =>
          have e0 : (⟨b, off, some k⟩ : Addr).add 0 = ⟨b, off, some k⟩ := by simp [Addr.add]
          rw [e0] at h0
          unfold World.cell? at h0
          split at h0 <;> simp at h0
      subst hsp
      refine ⟨(zs.take (len + 1)).map fun z => UInt8.ofNat z.toNat, by simp; omega, .inr ⟨b, off, rfl, fun i hi => ?_⟩⟩
      simp only [List.length_map, List.length_take] at hi
      have hi' : i < zs.length := by omega
      have h1 := hc i hi'
      rw [Addr.add_lit] at h1
      rw [h1]
      have hw := hwf zs[i] (List.getElem_mem hi')
      have hd : zs.getD i 0 = zs[i] := by rw [List.getD_eq_getElem?_getD, List.getElem?_eq_getElem hi']; rfl
      simp [Lit.wf, IntKind.min, IntKind.max, IntKind.signed, IntKind.bits] at hw
      rw [hd]
      simp only [List.getElem_map, List.getElem_take, Option.some.injEq, Value.int.injEq, true_and]
      rw [UInt8.toNat_ofNat']
      omega

/-- Bytes that lay there before are there still. -/
theorem Rd.below {w w' : World} {a : Option Addr} {l : List UInt8} (h : Rd w a l) (hb : Below w.heap.size w w') : Rd w' a l := by
  rcases h with rfl | ⟨b, off, rfl, hc⟩
  · exact .inl rfl
  · refine .inr ⟨b, off, rfl, fun i hi => ?_⟩
    rw [hb.cell (World.block_lt_of_cell? w _ (hc i hi))]
    exact hc i hi

theorem Rd.alloc {w : World} {a : Option Addr} {l : List UInt8} (h : Rd w a l) (o : Obj) : Rd (w.alloc o) a l := h.below ((Below.refl _ _).alloc (Nat.le_refl _) o)

theorem cell_now {w wr : World} {b o : Nat} {v : Value} (hb : Below w.heap.size w wr) (h : w.cell? ⟨b, o, none⟩ = some v) : wr.cell? ⟨b, o, none⟩ = some v := by
  rw [hb.cell (World.block_lt_of_cell? w _ h)]
  exact h
/-- A row of bytes of the call's own (from block B on). -/
def Own (B : Nat) (w : World) (v : Value) (l : List UInt8) : Prop := w.ownsRow B 5 1 v l.length (Lib.byteCells l)

theorem byteCells_len (l : List UInt8) : (Lib.byteCells l).length = l.length := by simp [Lib.byteCells]
theorem byteCells_app (l m : List UInt8) : Lib.byteCells (l ++ m) = Lib.byteCells l ++ Lib.byteCells m := by simp [Lib.byteCells]
theorem byteCells_one (l : List UInt8) : ∀ u ∈ Lib.byteCells l, u.oneCell' = true := by
  intro u hu; obtain ⟨_, _, rfl⟩ := List.mem_map.1 hu; rfl

theorem Own.nil (B : Nat) (w : World) : Own B w (.slice none 0 0) [] := World.ownsRow_nil _ _ _ _

/-- '[]byte' of no elements, just made. -/
theorem Own.empty (w : World) : Own w.heap.size (w.alloc (.cells #[] 5)) (.slice (some ⟨w.heap.size, 0, none⟩) 0 0) [] := World.ownsRow_made w #[] 0 (Nat.le_refl _) (by decide) rfl

theorem Own.shape {B : Nat} {w : World} {v : Value} {l : List UInt8} (h : Own B w v l) : ∃ a c, v = .slice a l.length c ∧ Rd w a l := by
  rcases h.2 with ⟨rfl, h0⟩ | ⟨g, cap, cur, rfl, _, hg, _, _, _, htake⟩
  · have : l = [] := List.eq_nil_of_length_eq_zero h0
    subst this
    exact ⟨none, 0, rfl, .inl rfl⟩
  · refine ⟨some ⟨g, 0, none⟩, cap, rfl, .inr ⟨g, 0, rfl, fun i hi => ?_⟩⟩
    have := World.ownsRow.cells (show w.ownsRow B 5 1 (.slice (some ⟨g, 0, none⟩) l.length cap) l.length (Lib.byteCells l) from h) (g := g) rfl i (.int .u8 (l[i]).toNat) (by simp [Lib.byteCells, hi])
    rw [Addr.add_lit, Nat.zero_add] at this
    rw [Nat.zero_add]
    exact this

theorem Own.block {B : Nat} {w : World} {v : Value} {l : List UInt8} (h : Own B w v l) : ∀ k, v.ownBlock = some k → B ≤ k ∧ k < w.heap.size := h.lt

theorem Own.alloc {B : Nat} {w : World} {v : Value} {l : List UInt8} (h : Own B w v l) (o : Obj) : Own B (w.alloc o) v l := World.ownsRow.alloc h o

/-- What a call leaves alone: a world that is as it was below its size. -/
theorem Own.below {B : Nat} {w w' : World} {v : Value} {l : List UInt8} (h : Own B w v l) (hb : Below w.heap.size w w') : Own B w' v l :=
  World.ownsRow.kept (row := none) h ⟨hb.os, hb.tape, hb.output, hb.size, fun k hk _ => hb.block k hk⟩ (by cases v.ownBlock <;> simp)

theorem info_u8 : (Tryz.prog.info? 5).map (fun i => (i.zero, i.size, i.bytes)) = some (some (.int .u8 0), 1, 1) := by kernel_rfl

/-- append(own, bytes...): the bytes go behind what is owned. -/
theorem wpList_append_rd {ops : Array Oper} {rest : List Oper} {o : Oper} {a : Act} {w : World} {Q : Exit → Act → World → Prop} (hgd : o.guard = none) (s x : Operand)
    (ho : o.op = .call { callee := .builtin .append, args := #[s, x], argTypes := #[41, 41] })
    (B : Nat) (v : Value) (l : List UInt8) (hs : a.eval s = v) (hown : Own B w v l) (ad : Option Addr) (m : List UInt8) (n c : Nat) (hx : a.eval x = .slice ad n c) (hn : n = m.length) (hrd : Rd w ad m)
    (hlen : l.length + m.length ≤ 140737488355328) (hB : B ≤ w.heap.size)
    (h : ∀ v' w', Own B w' v' (l ++ m) → w.grownBy w' v.ownBlock → wpList Tryz.prog ops Q rest (a.put o.dst v') w') : wpList Tryz.prog ops Q (o :: rest) a w := by
  subst hn
  obtain ⟨i0, hi, hz0, hz1, hz2⟩ := info_parts info_u8
  have key : ∀ ad' : Addr, (∀ j u, (Lib.byteCells m)[j]? = some u → w.cell? (ad'.add j) = some u) → a.eval x = .slice (some ad') m.length c → wpList Tryz.prog ops Q (o :: rest) a w := by
    intro ad' hc hx'
    refine wpList_append_own w hgd s x 41 ho B 5 i0 (.int .u8 0) 1 1 Tryz.underlying41 hi hz0 hz1 hz2 rfl (by decide) v l.length (Lib.byteCells l) hs hown ad' m.length c (Lib.byteCells m) hx' (by simp [byteCells_len]) hc (byteCells_one m)
      (by unfold maxLen; omega) (by omega) hB ?_
    intro v' w' h1 h2 _
    refine h v' w' ?_ h2
    unfold Own
    rw [byteCells_app, List.length_append]
    exact h1
  rcases hrd with rfl | ⟨b, off, rfl, hc⟩
  · cases ad with
    | some ad' => exact key ad' (fun j u hu => by simp [Lib.byteCells] at hu) hx
    | none =>
      refine wpList_plain hgd fun K hK' => ?_
      have hsz : i0.size = 1 := hz1
      have e0 : (Builtin.append_ #[41, 41] o.type #[v, .slice none 0 c]).run Tryz.prog w = .ok v w := by
        rcases hown.2 with ⟨rfl, h0⟩ | ⟨g, cap, cur, rfl, _, hg, hle, _, _, _⟩
        · simp [Builtin.append_, run_underlying Tryz.underlying41, sizeOf, typeInfo, hi, Builtin.lenOf, Builtin.firstCells]
        · simp [Builtin.append_, run_underlying Tryz.underlying41, sizeOf, typeInfo, hi, Builtin.lenOf, Builtin.firstCells, hle, storeCells]
      unfold Oper.wp
      simp only [List.length_nil] at hx
      simp [execOp, ho, resolve, invoke, builtin, hs, hx, e0, Result.andThen]
      exact hK' _ _ (h v w (by simpa using hown) ⟨rfl, rfl, rfl, Nat.le_refl _, fun _ _ _ => rfl⟩)
  · refine key ⟨b, off, none⟩ (fun j u hu => ?_) hx
    have hj : j < m.length := by have := (List.getElem?_eq_some_iff.1 hu).1; simpa [Lib.byteCells] using this
    have e1 : u = .int .u8 (m[j]).toNat := by
      simp [Lib.byteCells, hj] at hu
      exact hu.symm
    rw [e1, ← hc j hj, Addr.add_lit]

/-- A world in which one row of the call's own has grown. -/
theorem below_grow {B : Nat} {a w w' : World} {v : Value} {l : List UInt8} (h : Below B a w) (hown : Own B w v l) (hg : w.grownBy w' v.ownBlock) (hB : B ≤ w.heap.size) : Below B a w' :=
  h.grown hg hB (fun k hk => (hown.lt k hk).1)

theorem Rd.grown {w w' : World} {row : Option Nat} {a : Option Addr} {l : List UInt8} (h : Rd w a l) (hg : w.grownBy w' row) (hne : ∀ b off s, a = some ⟨b, off, s⟩ → some b ≠ row) : Rd w' a l := by
  rcases h with rfl | ⟨b, off, rfl, hc⟩
  · exact .inl rfl
  · exact .inr ⟨b, off, rfl, fun i hi => hg.cell (hc i hi) (hne b off none rfl)⟩

/-- A block of another kind stands as it stood while a row of bytes grows. -/
theorem Own.other {B g : Nat} {w w' : World} {v : Value} {l : List UInt8} {cs : Array Value} {T : TypeId} {fr : Nat × Nat} (h : Own B w v l) (hg : w.grownBy w' v.ownBlock) (hb : w.heap[g]? = some (.cells cs T fr)) (hT : T ≠ 5) :
    w'.heap[g]? = some (.cells cs T fr) := by
  rw [hg.block g (Array.getElem?_eq_some_iff.1 hb).1 ?_]
  · exact hb
  · intro e
    rcases h.2 with ⟨rfl, _⟩ | ⟨g', cap, cur, rfl, _, hgg, _⟩
    · simp [Value.ownBlock] at e
    · simp [Value.ownBlock] at e
      subst e
      rw [hb] at hgg
      simp at hgg
      exact hT hgg.2.1

theorem block_alloc {w : World} {g : Nat} {x : Obj} (h : w.heap[g]? = some x) (o : Obj) : (w.alloc o).heap[g]? = some x := by
  rw [Below.heap_alloc _ _ _ (Array.getElem?_eq_some_iff.1 h).1]
  exact h
theorem block_below {w w' : World} {g : Nat} {x : Obj} (h : w.heap[g]? = some x) (hb : Below w.heap.size w w') : w'.heap[g]? = some x := by
  rw [hb.block g (Array.getElem?_eq_some_iff.1 h).1]
  exact h

/-- The cells of numbers. -/
def ints (ns : List Nat) : List Value := ns.map fun n : Nat => Value.int .i64 (n : Int)
theorem cell_ints {w : World} {g : Nat} {ns : List Nat} {T : TypeId} {fr : Nat × Nat} (h : w.heap[g]? = some (.cells (ints ns).toArray T fr)) {j : Nat} (hj : j < ns.length) : w.cell? ⟨g, j, none⟩ = some (.int .i64 (ns[j] : Nat)) := by
  rw [Lib.cell_of_heap h]
  simp [ints, hj]

/-- string(b). -/
theorem str_of_rd {w : World} {a : Option Addr} {l : List UInt8} (h : Rd w a l) (n c : Nat) (hn : n = l.length) :
    (convert 41 9 (.slice a n c)).run Tryz.prog w = .ok (.string ⟨l.toArray⟩) w := by
  subst hn
  rcases h with rfl | ⟨b, off, rfl, hc⟩
  · cases a with
    | none =>
      rw [run_convert_bytes_string w 41 9 5 none _ c Tryz.underlying41 Tryz.underlying5 Tryz.underlying9]
      simp [Conv.bytesToString]
      rfl
    | some x => exact run_convert_bytes_back w 41 9 5 x c [] Tryz.underlying41 Tryz.underlying5 Tryz.underlying9 (by simp)
  · exact run_convert_bytes_back w 41 9 5 _ c l Tryz.underlying41 Tryz.underlying5 Tryz.underlying9 (fun j hj => by rw [Addr.add_lit]; exact hc j hj)

/-- The cells of bytes that are numbers. -/
def ints8 (ns : List Nat) : List Value := ns.map fun n : Nat => Value.int .u8 (n : Int)
theorem cell_ints8 {w : World} {g : Nat} {ns : List Nat} {T : TypeId} {fr : Nat × Nat} (h : w.heap[g]? = some (.cells (ints8 ns).toArray T fr)) {j : Nat} (hj : j < ns.length) : w.cell? ⟨g, j, none⟩ = some (.int .u8 (ns[j] : Nat)) := by
  rw [Lib.cell_of_heap h]
  simp [ints8, hj]
end Go.Proofs.YtfdijcdpmgkdkaaGreatDoor
set_option linter.unusedVariables false
namespace Go.Proofs.YtfdijcdpmgkdkaaGreatDoor
open Go.RowKit

/-- The cells xs lie at a. -/
def RdC (w : World) (a : Option Addr) (xs : List Value) : Prop :=
  xs = [] ∨ ∃ b off, a = some ⟨b, off, none⟩ ∧ ∀ (i : Nat) (u : Value), xs[i]? = some u → w.cell? ⟨b, off + i, none⟩ = some u
theorem RdC.below {w w' : World} {a : Option Addr} {xs : List Value} (h : RdC w a xs) (hb : Below w.heap.size w w') : RdC w' a xs := by
  rcases h with h | ⟨b, off, e, h⟩
  · exact .inl h
  · refine .inr ⟨b, off, e, fun i u hu => ?_⟩
    rw [hb.cell (World.block_lt_of_cell? _ _ (h i u hu))]
    exact h i u hu
theorem RdC.at {w : World} {a : Option Addr} {xs : List Value} (h : RdC w a xs) (hne : xs ≠ []) : ∃ b off, a = some ⟨b, off, none⟩ ∧ ∀ (i : Nat) (u : Value), xs[i]? = some u → w.cell? ⟨b, off + i, none⟩ = some u := h.resolve_left hne
/-- A literal row. -/
theorem RdC.of_lit {w : World} {g : Nat} {cs : Array Value} {T : TypeId} {fr : Nat × Nat} {xs : List Value} (h : w.heap[g]? = some (.cells cs T fr)) (hx : cs.toList = xs) : RdC w (some ⟨g, 0, none⟩) xs := by
  refine .inr ⟨g, 0, rfl, fun i u hu => ?_⟩
  rw [Nat.zero_add, Lib.cell_of_heap h]
  rw [← hx] at hu
  rw [← Array.getElem?_toList]
  exact hu
theorem RdC.of_own {B : Nat} {E : TypeId} {sz : Nat} {w : World} {v : Value} {n : Nat} {xs : List Value} (h : w.ownsRow B E sz v n xs) : ∃ a c, v = .slice a n c ∧ RdC w a xs ∧ n ≤ c := by
  have h' := h
  rcases h.2 with ⟨rfl, rfl⟩ | ⟨g, cap, cur, rfl, _, hg, hle, _, _, _⟩
  · exact ⟨none, 0, rfl, .inl (List.eq_nil_of_length_eq_zero (by rw [h.1]; simp)), Nat.le_refl _⟩
  · refine ⟨_, _, rfl, .inr ⟨g, 0, rfl, fun i u hu => ?_⟩, hle⟩
    have := World.ownsRow.cells h' (g := g) rfl i u hu
    rw [Addr.add_lit] at this
    exact this
theorem own_below {B : Nat} {E : TypeId} {sz : Nat} {w w' : World} {v : Value} {n : Nat} {xs : List Value} (h : w.ownsRow B E sz v n xs) (hb : Below w.heap.size w w') : w'.ownsRow B E sz v n xs :=
  World.ownsRow.kept (row := none) h ⟨hb.os, hb.tape, hb.output, hb.size, fun k hk _ => hb.block k hk⟩ (by cases v.ownBlock <;> simp)
theorem below_own {B : Nat} {E : TypeId} {sz : Nat} {a w w' : World} {v : Value} {n : Nat} {xs : List Value} (h : Below B a w) (hown : w.ownsRow B E sz v n xs) (hg : w.grownBy w' v.ownBlock) (hB : B ≤ w.heap.size) : Below B a w' :=
  h.grown hg hB (fun k hk => (hown.lt k hk).1)
theorem RdC.grown {w w' : World} {row : Option Nat} {a : Option Addr} {xs : List Value} (h : RdC w a xs) (hg : w.grownBy w' row) (hne : ∀ b off s, a = some ⟨b, off, s⟩ → some b ≠ row) : RdC w' a xs := by
  rcases h with rfl | ⟨b, off, rfl, hc⟩
  · exact .inl rfl
  · exact .inr ⟨b, off, rfl, fun i u hu => hg.cell (hc i u hu) (hne b off none rfl)⟩
/-- Elements of k cells each. -/
theorem flat_get {α : Type} (f : α → List Value) (k : Nat) (hf : ∀ x, (f x).length = k) : ∀ (l : List α) (i j : Nat) (hi : i < l.length), j < k → (l.flatMap f)[i * k + j]? = (f l[i])[j]?
  | [], i, _, hi, _ => by simp at hi
  | x :: l, 0, j, _, hj => by
    rw [List.flatMap_cons, List.getElem?_append_left (by rw [hf]; omega)]
    simp
  | x :: l, i + 1, j, hi, hj => by
    have ih := flat_get f k hf l i j (by simpa using hi) hj
    rw [List.flatMap_cons, List.getElem?_append_right (by rw [hf]; rw [Nat.add_mul]; omega), hf, show (i + 1) * k + j - k = i * k + j by rw [Nat.add_mul]; omega, ih]
    simp
theorem flat_len {α : Type} (f : α → List Value) (k : Nat) (hf : ∀ x, (f x).length = k) : ∀ (l : List α), (l.flatMap f).length = l.length * k
  | [] => by simp
  | x :: l => by rw [List.flatMap_cons, List.length_append, hf, flat_len f k hf l, List.length_cons, Nat.add_mul]; omega
/-- append(own, x): one element, which the call has just put into a block of its own. -/
theorem wpList_append_new {ops : Array Oper} {rest : List Oper} {o : Oper} {a : Act} {w : World} {Q : Exit → Act → World → Prop} (hgd : o.guard = none) (s x : Operand) (t : TypeId)
    (ho : o.op = .call { callee := .builtin .append, args := #[s, x], argTypes := #[t, t] })
    (B : Nat) (e : TypeId) (i : TypeInfo) (z : Value) (size bytes : Nat) (ht : Tryz.prog.underlying t = some (.slice e)) (hi : Tryz.prog.info? e = some i) (hz : i.zero = some z)
    (hsize : i.size = size) (hby : i.bytes = bytes) (hzs : z.cells.size = size) (hsz : 0 < size)
    (v : Value) (n : Nat) (xs : List Value) (hs : a.eval s = v) (hown : w.ownsRow B e size v n xs)
    (g c : Nat) (cs : Array Value) (T : TypeId) (fr : Nat × Nat) (hg : w.heap[g]? = some (.cells cs T fr)) (hx : a.eval x = .slice (some ⟨g, 0, none⟩) 1 c) (hl : cs.size = size) (h1 : ∀ u ∈ cs.toList, u.oneCell' = true)
    (hbytes : (n + 1) * bytes ≤ 140737488355328) (hn : n ≤ 140737488355328) (hB : B ≤ w.heap.size)
    (h : ∀ v' w', w'.ownsRow B e size v' (n + 1) (xs ++ cs.toList) → w.grownBy w' v.ownBlock → wpList Tryz.prog ops Q rest (a.put o.dst v') w') : wpList Tryz.prog ops Q (o :: rest) a w := by
  refine wpList_append_own w hgd s x t ho B e i z size bytes ht hi hz hsize hby hzs hsz v n xs hs hown ⟨g, 0, none⟩ 1 c cs.toList hx (by simpa using hl) (fun j u hu => ?_) h1 (by unfold maxLen; omega) hbytes hB fun v' w' h2 h3 _ => h v' w' h2 h3
  rw [Addr.add_lit, Nat.zero_add, Lib.cell_of_heap hg, ← Array.getElem?_toList]
  exact hu
end Go.Proofs.YtfdijcdpmgkdkaaGreatDoor
set_option linter.unusedVariables false
namespace Go.Proofs.YtfdijcdpmgkdkaaGreatDoor
open Go.RowKit

def strV (t : List UInt8) : Value := .string ⟨t.toArray⟩
/-- The cells of members. -/
def memCells : List (List UInt8 × JV) → List (List Value) → List Value
  | p :: m, r :: cm => strV p.1 :: (r ++ memCells m cm)
  | _, _ => []
/-- Cells lie in a block that may be. -/
def RdO (ok : Nat → Prop) (w : World) (a : Option Addr) (xs : List Value) : Prop :=
  xs = [] ∨ ∃ b off, a = some ⟨b, off, none⟩ ∧ ok b ∧ ∀ (i : Nat) (u : Value), xs[i]? = some u → w.cell? ⟨b, off + i, none⟩ = some u
theorem RdO.rdc {ok : Nat → Prop} {w : World} {a : Option Addr} {xs : List Value} (h : RdO ok w a xs) : RdC w a xs := by
  rcases h with h | ⟨b, off, e, _, h⟩
  · exact .inl h
  · exact .inr ⟨b, off, e, h⟩
theorem RdO.lt {ok : Nat → Prop} {w : World} {a : Option Addr} {xs : List Value} (h : RdO ok w a xs) : RdO (fun b => ok b ∧ b < w.heap.size) w a xs := by
  rcases h with h | ⟨b, off, e, h0, h⟩
  · exact .inl h
  · cases hx : xs with
    | nil => exact .inl rfl
    | cons u r =>
      rw [hx] at h
      refine .inr ⟨b, off, e, ⟨h0, ?_⟩, h⟩
      exact World.block_lt_of_cell? _ _ (h 0 u rfl)
theorem RdO.mono {ok ok' : Nat → Prop} {w : World} {a : Option Addr} {xs : List Value} (h : RdO ok w a xs) (hk : ∀ b, ok b → ok' b) : RdO ok' w a xs := by
  rcases h with h | ⟨b, off, e, h0, h⟩
  · exact .inl h
  · exact .inr ⟨b, off, e, hk b h0, h⟩
theorem RdO.keep {ok : Nat → Prop} {w w' : World} {a : Option Addr} {xs : List Value} (h : RdO ok w a xs) (hk : ∀ b, ok b → b < w.heap.size → w'.heap[b]? = w.heap[b]?) : RdO ok w' a xs := by
  rcases h with h | ⟨b, off, e, h0, h⟩
  · exact .inl h
  · refine .inr ⟨b, off, e, h0, fun i u hu => ?_⟩
    have h1 := h i u hu
    have hlt := World.block_lt_of_cell? _ _ h1
    rw [← h1]
    unfold World.cell?
    rw [hk b h0 hlt]
/-- Five cells are a value, whose rows lie in blocks that may be. -/
inductive Rep (ok : Nat → Prop) (w : World) : List Value → JV → Prop where
  | mk (k : Int) (y : Bool) (t : List UInt8) (l : List JV) (m : List (List UInt8 × JV)) (a : Option Addr) (c : Nat) (a' : Option Addr) (c' : Nat) (cl cm : List (List Value))
    (h1 : RdO ok w a cl.flatten) (h2 : cl.length = l.length) (h3 : ∀ i (hi : i < cl.length) (hj : i < l.length), Rep ok w cl[i] l[i])
    (h4 : RdO ok w a' (memCells m cm)) (h5 : cm.length = m.length) (h6 : ∀ i (hi : i < cm.length) (hj : i < m.length), Rep ok w cm[i] m[i].2)
    (hc : l.length ≤ c) (hc' : m.length ≤ c') :
    Rep ok w [.int .i64 k, .bool y, strV t, .slice a l.length c, .slice a' m.length c'] (.mk k y t l m)
/-- Rows of values. -/
def Reps (ok : Nat → Prop) (w : World) (cl : List (List Value)) (l : List JV) : Prop := cl.length = l.length ∧ ∀ i (hi : i < cl.length) (hj : i < l.length), Rep ok w cl[i] l[i]
def RepsM (ok : Nat → Prop) (w : World) (cm : List (List Value)) (m : List (List UInt8 × JV)) : Prop := cm.length = m.length ∧ ∀ i (hi : i < cm.length) (hj : i < m.length), Rep ok w cm[i] m[i].2
theorem Rep.len {ok : Nat → Prop} {w : World} {cs : List Value} {v : JV} (h : Rep ok w cs v) : cs.length = 5 := by cases h; rfl
theorem Rep.keep {ok : Nat → Prop} {w w' : World} {cs : List Value} {v : JV} (h : Rep ok w cs v) (hk : ∀ b, ok b → b < w.heap.size → w'.heap[b]? = w.heap[b]?) : Rep ok w' cs v := by
  induction h with
  | mk k y t l m a c a' c' cl cm h1 h2 h3 h4 h5 h6 hc hc' i3 i6 => exact .mk k y t l m a c a' c' cl cm (h1.keep hk) h2 i3 (h4.keep hk) h5 i6 hc hc'
theorem Rep.mono {ok ok' : Nat → Prop} {w : World} {cs : List Value} {v : JV} (h : Rep ok w cs v) (hk : ∀ b, ok b → ok' b) : Rep ok' w cs v := by
  induction h with
  | mk k y t l m a c a' c' cl cm h1 h2 h3 h4 h5 h6 hc hc' i3 i6 => exact .mk k y t l m a c a' c' cl cm (h1.mono hk) h2 i3 (h4.mono hk) h5 i6 hc hc'
theorem Rep.lt {ok : Nat → Prop} {w : World} {cs : List Value} {v : JV} (h : Rep ok w cs v) : Rep (fun b => ok b ∧ b < w.heap.size) w cs v := by
  induction h with
  | mk k y t l m a c a' c' cl cm h1 h2 h3 h4 h5 h6 hc hc' i3 i6 => exact .mk k y t l m a c a' c' cl cm h1.lt h2 i3 h4.lt h5 i6 hc hc'
theorem Rep.under {ok : Nat → Prop} {w w' : World} {cs : List Value} {v : JV} (h : Rep ok w cs v) (hb : Below w.heap.size w w') : Rep ok w' cs v := h.keep fun b _ hlt => hb.block b hlt
theorem Reps.keep {ok : Nat → Prop} {w w' : World} {cl : List (List Value)} {l : List JV} (h : Reps ok w cl l) (hk : ∀ b, ok b → b < w.heap.size → w'.heap[b]? = w.heap[b]?) : Reps ok w' cl l := ⟨h.1, fun i hi hj => (h.2 i hi hj).keep hk⟩
theorem RepsM.keep {ok : Nat → Prop} {w w' : World} {cl : List (List Value)} {l : List (List UInt8 × JV)} (h : RepsM ok w cl l) (hk : ∀ b, ok b → b < w.heap.size → w'.heap[b]? = w.heap[b]?) : RepsM ok w' cl l := ⟨h.1, fun i hi hj => (h.2 i hi hj).keep hk⟩
theorem Reps.mono {ok ok' : Nat → Prop} {w : World} {cl : List (List Value)} {l : List JV} (h : Reps ok w cl l) (hk : ∀ b, ok b → ok' b) : Reps ok' w cl l := ⟨h.1, fun i hi hj => (h.2 i hi hj).mono hk⟩
theorem RepsM.mono {ok ok' : Nat → Prop} {w : World} {cl : List (List Value)} {l : List (List UInt8 × JV)} (h : RepsM ok w cl l) (hk : ∀ b, ok b → ok' b) : RepsM ok' w cl l := ⟨h.1, fun i hi hj => (h.2 i hi hj).mono hk⟩
theorem Reps.lt {ok : Nat → Prop} {w : World} {cl : List (List Value)} {l : List JV} (h : Reps ok w cl l) : Reps (fun b => ok b ∧ b < w.heap.size) w cl l := ⟨h.1, fun i hi hj => (h.2 i hi hj).lt⟩
theorem RepsM.lt {ok : Nat → Prop} {w : World} {cl : List (List Value)} {l : List (List UInt8 × JV)} (h : RepsM ok w cl l) : RepsM (fun b => ok b ∧ b < w.heap.size) w cl l := ⟨h.1, fun i hi hj => (h.2 i hi hj).lt⟩
theorem Reps.under {ok : Nat → Prop} {w w' : World} {cl : List (List Value)} {l : List JV} (h : Reps ok w cl l) (hb : Below w.heap.size w w') : Reps ok w' cl l := h.keep fun b _ hlt => hb.block b hlt
theorem RepsM.under {ok : Nat → Prop} {w w' : World} {cl : List (List Value)} {l : List (List UInt8 × JV)} (h : RepsM ok w cl l) (hb : Below w.heap.size w w') : RepsM ok w' cl l := h.keep fun b _ hlt => hb.block b hlt
theorem Reps.nil (ok : Nat → Prop) (w : World) : Reps ok w [] [] := ⟨rfl, fun i hi => by simp at hi⟩
theorem RepsM.nil (ok : Nat → Prop) (w : World) : RepsM ok w [] [] := ⟨rfl, fun i hi => by simp at hi⟩
theorem Reps.snoc {ok : Nat → Prop} {w : World} {cl : List (List Value)} {l : List JV} {cs : List Value} {v : JV} (h : Reps ok w cl l) (hv : Rep ok w cs v) : Reps ok w (cl ++ [cs]) (l ++ [v]) := by
  refine ⟨by simp [h.1], fun i hi hj => ?_⟩
  by_cases e : i < cl.length
  · rw [List.getElem_append_left e, List.getElem_append_left (by rw [← h.1]; exact e)]
    exact h.2 i e _
  · simp only [List.length_append, List.length_cons, List.length_nil] at hi
    obtain rfl : i = cl.length := by omega
    have e2 : cl.length = l.length := h.1
    simp only [List.getElem_concat_length]
    rw [List.getElem_append_right (by omega)]
    simpa [e2] using hv
theorem RepsM.snoc {ok : Nat → Prop} {w : World} {cl : List (List Value)} {l : List (List UInt8 × JV)} {cs : List Value} {n : List UInt8} {v : JV} (h : RepsM ok w cl l) (hv : Rep ok w cs v) : RepsM ok w (cl ++ [cs]) (l ++ [(n, v)]) := by
  refine ⟨by simp [h.1], fun i hi hj => ?_⟩
  by_cases e : i < cl.length
  · rw [List.getElem_append_left e]
    have e2 : (l ++ [(n, v)])[i] = l[i]'(by rw [← h.1]; exact e) := List.getElem_append_left (by rw [← h.1]; exact e)
    rw [e2]
    exact h.2 i e _
  · simp only [List.length_append, List.length_cons, List.length_nil] at hi
    obtain rfl : i = cl.length := by omega
    have e2 : cl.length = l.length := h.1
    simp only [List.getElem_concat_length]
    rw [List.getElem_append_right (by omega)]
    simpa [e2] using hv
theorem memCells_snoc : ∀ (m : List (List UInt8 × JV)) (cm : List (List Value)) (n : List UInt8) (v : JV) (cs : List Value), cm.length = m.length → memCells (m ++ [(n, v)]) (cm ++ [cs]) = memCells m cm ++ (strV n :: cs)
  | [], [], n, v, cs, _ => by simp [memCells]
  | [], _ :: _, _, _, _, h => by simp at h
  | _ :: _, [], _, _, _, h => by simp at h
  | p :: m, r :: cm, n, v, cs, h => by
    simp only [List.cons_append, memCells, List.append_assoc, List.cons.injEq, true_and]
    rw [memCells_snoc m cm n v cs (by simpa using h)]
theorem flat5_len {ok : Nat → Prop} {w : World} {cl : List (List Value)} {l : List JV} (h : Reps ok w cl l) : cl.flatten.length = l.length * 5 := by
  obtain ⟨h1, h2⟩ := h
  induction cl generalizing l with
  | nil =>
    have : l = [] := List.eq_nil_of_length_eq_zero h1.symm
    subst this
    rfl
  | cons c cl ih =>
    cases l with
    | nil => simp at h1
    | cons v l =>
      have h0 := (h2 0 (by simp) (by simp)).len
      simp only [List.getElem_cons_zero] at h0
      have := ih (l := l) (by simpa using h1) (fun i hi hj => by have := h2 (i + 1) (by simp; omega) (by simp; omega); simpa using this)
      simp only [List.flatten_cons, List.length_append, h0, this, List.length_cons]
      omega
theorem mem6_len {ok : Nat → Prop} {w : World} {cm : List (List Value)} {m : List (List UInt8 × JV)} (h : RepsM ok w cm m) : (memCells m cm).length = m.length * 6 := by
  obtain ⟨h1, h2⟩ := h
  induction cm generalizing m with
  | nil => cases m with
    | nil => rfl
    | cons => simp at h1
  | cons c cl ih =>
    cases m with
    | nil => simp at h1
    | cons v l =>
      have h0 := (h2 0 (by simp) (by simp)).len
      simp only [List.getElem_cons_zero] at h0
      have := ih (m := l) (by simpa using h1) (fun i hi hj => by have := h2 (i + 1) (by simp; omega) (by simp; omega); simpa using this)
      simp only [memCells, List.length_append, List.length_cons, h0, this]
      omega
/-- Each element's cells. -/
theorem flat5_get {ok : Nat → Prop} {w : World} {cl : List (List Value)} {l : List JV} (h : Reps ok w cl l) (i : Nat) (hi : i < cl.length) (j : Nat) (hj : j < 5) : cl.flatten[i * 5 + j]? = cl[i][j]? := by
  obtain ⟨h1, h2⟩ := h
  induction cl generalizing l i with
  | nil => simp at hi
  | cons c cl ih =>
    cases l with
    | nil => simp at h1
    | cons v l =>
      have h0 := (h2 0 (by simp) (by simp)).len
      simp only [List.getElem_cons_zero] at h0
      cases i with
      | zero =>
        simp only [Nat.zero_mul, Nat.zero_add, List.flatten_cons, List.getElem_cons_zero]
        rw [List.getElem?_append_left (by omega)]
      | succ i =>
        simp only [List.flatten_cons, List.getElem_cons_succ]
        rw [List.getElem?_append_right (by omega), h0, show (i + 1) * 5 + j - 5 = i * 5 + j by omega]
        exact ih (l := l) i (by simpa using hi) (by simpa using h1) (fun i hi hj => by have := h2 (i + 1) (by simp; omega) (by simp; omega); simpa using this)
theorem mem6_get {ok : Nat → Prop} {w : World} {cm : List (List Value)} {m : List (List UInt8 × JV)} (h : RepsM ok w cm m) (i : Nat) (hi : i < cm.length) (hm : i < m.length) (j : Nat) (hj : j < 6) : (memCells m cm)[i * 6 + j]? = (strV m[i].1 :: cm[i])[j]? := by
  obtain ⟨h1, h2⟩ := h
  induction cm generalizing m i with
  | nil => simp at hi
  | cons c cl ih =>
    cases m with
    | nil => simp at h1
    | cons v l =>
      have h0 := (h2 0 (by simp) (by simp)).len
      simp only [List.getElem_cons_zero] at h0
      cases i with
      | zero =>
        simp only [Nat.zero_mul, Nat.zero_add, memCells, List.getElem_cons_zero]
        rw [← List.cons_append, List.getElem?_append_left (by simp [h0]; omega)]
      | succ i =>
        simp only [memCells, List.getElem_cons_succ]
        rw [← List.cons_append, List.getElem?_append_right (by simp [h0]; omega)]
        simp only [List.length_cons, h0]
        rw [show (i + 1) * 6 + j - (5 + 1) = i * 6 + j by omega]
        exact ih (m := l) i (by simpa using hi) (by simpa using hm) (by simpa using h1) (fun i hi hj => by have := h2 (i + 1) (by simp; omega) (by simp; omega); simpa using this)
theorem rep_of {ok : Nat → Prop} {w : World} {k : Int} {y : Bool} {t : List UInt8} {l : List JV} {m : List (List UInt8 × JV)} {a a' : Option Addr} {c c' : Nat} {cl cm : List (List Value)} (h1 : RdO ok w a cl.flatten) (h2 : Reps ok w cl l) (h3 : RdO ok w a' (memCells m cm)) (h4 : RepsM ok w cm m) (hc : l.length ≤ c) (hc' : m.length ≤ c') :
    Rep ok w [.int .i64 k, .bool y, strV t, .slice a l.length c, .slice a' m.length c'] (.mk k y t l m) := .mk k y t l m a c a' c' cl cm h1 h2.1 h2.2 h3 h4.1 h4.2 hc hc'
theorem Rep.leaf (ok : Nat → Prop) (w : World) (k : Int) (y : Bool) (t : List UInt8) : Rep ok w [.int .i64 k, .bool y, strV t, .slice none 0 0, .slice none 0 0] (.mk k y t [] []) :=
  rep_of (l := []) (m := []) (cl := []) (cm := []) (.inl rfl) (Reps.nil ok w) (.inl rfl) (RepsM.nil ok w) (Nat.le_refl _) (Nat.le_refl _)
theorem Rep.parts {ok : Nat → Prop} {w : World} {cs : List Value} {v : JV} (h : Rep ok w cs v) : ∃ a c a' c' cl cm, cs = [.int .i64 v.kind, .bool v.yes, strV v.text, .slice a v.list.length c, .slice a' v.mem.length c'] ∧ RdO ok w a cl.flatten ∧ Reps ok w cl v.list ∧ RdO ok w a' (memCells v.mem cm) ∧ RepsM ok w cm v.mem ∧ v.list.length ≤ c ∧ v.mem.length ≤ c' := by
  cases h with
  | mk k y t l m a c a' c' cl cm h1 h2 h3 h4 h5 h6 hc hc' => exact ⟨a, c, a', c', cl, cm, rfl, h1, ⟨h2, h3⟩, h4, ⟨h5, h6⟩, hc, hc'⟩
end Go.Proofs.YtfdijcdpmgkdkaaGreatDoor
set_option linter.unusedVariables false
namespace Go.Proofs.YtfdijcdpmgkdkaaGreatDoor
open Go.RowKit

theorem right_strB (S : List UInt8) : rightJ (jstr S) = toldB S := by
  unfold jstr
  rw [rightJ]
  cases toldB S <;> rfl
theorem plain_str (S : List UInt8) : plainJ (jstr S) = quoteL S := by
  unfold jstr
  rw [plainJ]
  rfl
theorem size_str (S : List UInt8) : sizeJ (jstr S) = 1 + S.length := by
  unfold jstr
  rw [sizeJ]
  rfl
end Go.Proofs.YtfdijcdpmgkdkaaGreatDoor
set_option linter.unusedVariables false
namespace Go.Proofs.YtfdijcdpmgkdkaaGreatDoor

theorem getM_none (n : List UInt8) : ∀ m : List (List UInt8 × JV), (getM n m).isNone = decide (n ∉ m.map Prod.fst)
  | [] => by simp [getM]
  | p :: m => by
    have ih := getM_none n m
    rw [getM]
    by_cases h : p.1 = n
    · simp [h]
    · have h' : ¬ n = p.1 := fun e => h e.symm
      simp only [h, if_false, ih, List.map_cons, List.mem_cons, h', false_or]
theorem rightM_eq : ∀ m : List (List UInt8 × JV), rightM m = (m.all (fun p => toldB p.1 && rightJ p.2) && decide (m.map Prod.fst).Nodup)
  | [] => rfl
  | (n, v) :: m => by
    have ih := rightM_eq m
    rw [rightM, ih, getM_none]
    simp only [List.all_cons, List.map_cons, List.nodup_cons]
    cases toldB n <;> cases rightJ v <;> cases (m.all fun p => toldB p.1 && rightJ p.2) <;> simp
def leL (x y : List UInt8) : Bool := decide (x ≤ y)
theorem leL_trans (a b c : List UInt8) (h1 : leL a b = true) (h2 : leL b c = true) : leL a c = true := by
  unfold leL at *
  simp only [decide_eq_true_eq] at *
  exact List.le_trans h1 h2
theorem leL_total (a b : List UInt8) : (leL a b || leL b a) = true := by
  unfold leL
  simp only [Bool.or_eq_true, decide_eq_true_eq]
  exact List.le_total a b
theorem keeps_lt {zs : List (List UInt8)} (h : (Lib.compact zs).length = zs.length) (j : Nat) (hj : j < zs.length) : Lib.keeps zs.toArray j = true := by
  unfold Lib.compact Lib.compactUpTo at h
  rw [List.length_map] at h
  have h2 : ((List.range zs.length).filter (Lib.keeps zs.toArray)).length = (List.range zs.length).length := by rw [h]; simp
  have h3 := List.length_filter_eq_length_iff.1 h2
  exact h3 j (List.mem_range.2 hj)
theorem compact_nodup (l : List (List UInt8)) : decide ((Lib.compact (l.mergeSort leL)).length = l.length) = decide l.Nodup := by
  have hp := List.mergeSort_perm l leL
  have hl : (l.mergeSort leL).length = l.length := hp.length_eq
  have hs := List.pairwise_mergeSort leL_trans leL_total l
  have hn : (l.mergeSort leL).Nodup ↔ l.Nodup := hp.nodup_iff
  rw [← hl]
  rw [decide_eq_decide, ← hn]
  generalize l.mergeSort leL = s at *
  constructor
  · intro h
    have hk := keeps_lt h
    unfold List.Nodup
    rw [List.pairwise_iff_getElem] at hs ⊢
    intro i j hi hj hij
    have h1 := hk (i + 1) (by omega)
    have h2 : s[i + 1]'(by omega) ≠ s[i] := by
      unfold Lib.keeps at h1
      intro e
      have e1 : s.toArray[i + 1]! = s[i + 1]'(by omega) := by rw [getElem!_pos _ _ (by simp; omega)]; simp
      have e2 : s.toArray[i + 1 - 1]! = s[i] := by
        rw [show i + 1 - 1 = i by omega, getElem!_pos _ _ (by simpa using hi)]; simp
      rw [e1, e2] at h1
      simp [e] at h1
    have h3 := hs i (i + 1) hi (by omega) (by omega)
    intro e
    by_cases h5 : j = i + 1
    · subst h5
      exact h2 e.symm
    · have h4 := hs (i + 1) j (by omega) hj (by omega)
      unfold leL at h3 h4
      simp only [decide_eq_true_eq] at h3 h4
      rw [← e] at h4
      exact h2 (List.le_antisymm h4 h3)
  · intro h
    rw [Lib.compact_all]
    intro j hj
    by_cases h0 : j = 0
    · subst h0
      simp [Lib.keeps]
    · apply Lib.keeps_pos
      rw [getElem!_pos _ _ (by simpa using hj), getElem!_pos _ _ (by simp; omega)]
      simp only [List.getElem_toArray]
      intro e
      unfold List.Nodup at h
      rw [List.pairwise_iff_getElem] at h
      exact h (j - 1) j (by omega) hj (by omega) e.symm
end Go.Proofs.YtfdijcdpmgkdkaaGreatDoor
set_option linter.unusedVariables false
namespace Go.Proofs.YtfdijcdpmgkdkaaGreatDoor

/-- What stands between the signs of a text, so deep. -/
structure Sty where
  opn : Nat → List UInt8
  cls : Nat → List UInt8
  com : Nat → List UInt8
  col : List UInt8
structure Sty.blank (S : Sty) : Prop where
  opn : ∀ n, ∀ c ∈ S.opn n, blankB c = true
  cls : ∀ n, ∀ c ∈ S.cls n, blankB c = true
  com : ∀ n, ∀ c ∈ S.com n, blankB c = true
  col : ∀ c ∈ S.col, blankB c = true
mutual
/-- A value's text. -/
def styJ (S : Sty) (n : Nat) : JV → List UInt8
  | .mk k y t l m => if k = 1 then [110, 117, 108, 108] else if k = 2 then (if y then [116, 114, 117, 101] else [102, 97, 108, 115, 101]) else if k = 3 then t else if k = 4 then quoteL t
    else if k = 5 then 91 :: (styL S n (S.opn n) (S.cls n) l ++ [93]) else if k = 6 then 123 :: (styM S n (S.opn n) (S.cls n) m ++ [125]) else []
/-- .. elements, behind what stands ahead of the first. -/
def styL (S : Sty) (n : Nat) (b e : List UInt8) : List JV → List UInt8
  | [] => []
  | v :: l => b ++ (styJ S (n + 1) v ++ (if l.isEmpty then e else styL S n (44 :: S.com n) e l))
def styM (S : Sty) (n : Nat) (b e : List UInt8) : List (List UInt8 × JV) → List UInt8
  | [] => []
  | p :: m => b ++ (quoteL p.1 ++ (58 :: (S.col ++ (styJ S (n + 1) p.2 ++ (if m.isEmpty then e else styM S n (44 :: S.com n) e m)))))
end
mutual
/-- How many arrays and objects stand open at most. -/
def openJ : JV → Nat
  | .mk k y t l m => if k = 5 then openL l + 1 else if k = 6 then openM m + 1 else 0
def openL : List JV → Nat
  | [] => 0
  | v :: l => max (openJ v) (openL l)
def openM : List (List UInt8 × JV) → Nat
  | [] => 0
  | p :: m => max (openJ p.2) (openM m)
end
theorem blank_eat : ∀ (b r : List UInt8), (∀ c ∈ b, blankB c = true) → blankL (b ++ r) = blankL r
  | [], r, _ => rfl
  | c :: b, r, h => by
    have := blank_eat b r (fun d hd => h d (by simp [hd]))
    unfold blankL at this ⊢
    rw [List.cons_append, List.dropWhile_cons, if_pos (h c (by simp))]
    exact this
theorem blank_stop {c : UInt8} (r : List UInt8) (h : blankB c = false) : blankL (c :: r) = c :: r := by
  unfold blankL
  rw [List.dropWhile_cons, if_neg (by simp [h])]
theorem blank_noNum : ∀ c, blankB c = true → digB c = false ∧ c ≠ 46 ∧ c ≠ 101 ∧ c ≠ 69 := u8_all _ (by decide +kernel)
theorem numEnd_app {b r : List UInt8} (h : ∀ c ∈ b, blankB c = true) (hr : numEnd r) : numEnd (b ++ r) := by
  cases b with
  | nil => exact hr
  | cons c b => exact numEnd_cons (blank_noNum c (h c (by simp)))
/-- A right value's text begins with a byte that is no blank. -/
theorem sty_head (S : Sty) (n : Nat) (v : JV) (h : rightJ v = true) : ∃ c q, styJ S n v = c :: q ∧ blankB c = false ∧ c ≠ 93 ∧ c ≠ 125 := by
  cases v with
  | mk k y t l m =>
    simp only [rightJ, Bool.and_eq_true, Bool.or_eq_true, beq_iff_eq] at h
    obtain ⟨_, h⟩ := h
    unfold styJ
    by_cases h1 : k = 1
    · rw [if_pos h1]; exact ⟨_, _, rfl, by decide, by decide, by decide⟩
    rw [if_neg h1]
    by_cases h2 : k = 2
    · rw [if_pos h2]; cases y <;> exact ⟨_, _, rfl, by decide, by decide, by decide⟩
    rw [if_neg h2]
    by_cases h3 : k = 3
    · rw [if_pos h3]
      have hn : numericB t = true := by
        subst h3
        simpa using h
      obtain ⟨c, q, rfl, hc⟩ := num_head hn
      refine ⟨c, q, rfl, ?_⟩
      have := u8_all (fun c => (c = 45 ∨ digB c = true) → blankB c = false ∧ c ≠ 93 ∧ c ≠ 125) (by decide +kernel) c hc
      exact this
    rw [if_neg h3]
    by_cases h4 : k = 4
    · rw [if_pos h4]; exact ⟨_, _, rfl, by decide, by decide, by decide⟩
    rw [if_neg h4]
    by_cases h5 : k = 5
    · rw [if_pos h5]; exact ⟨_, _, rfl, by decide, by decide, by decide⟩
    rw [if_neg h5]
    by_cases h6 : k = 6
    · rw [if_pos h6]; exact ⟨_, _, rfl, by decide, by decide, by decide⟩
    · exfalso
      simp [h1, h2, h3, h4, h5, h6] at h
theorem rowN_succ {α : Type} (one : α → List UInt8 → PR α) (e : UInt8) (k : Nat) (x : α) (r : List UInt8) : rowN one e (k + 1) x r = (one x r).bind fun x r =>
    if (blankL r).head? = some e then .ok x (blankL r).tail
    else (mustL 44 (blankL r)).bind fun _ r => rowN one e k x (blankL r) := rfl
theorem must_hit (c : UInt8) (r : List UInt8) : mustL c (c :: r) = .ok () r := by simp [mustL]
theorem arrR_eq (val : List UInt8 → PR JV) (l : List JV) (r : List UInt8) : arrR val l r = (val r).bind fun v r => .ok (l ++ [v]) r := rfl
/-- A round's end: the last thing. -/
theorem row_last {α : Type} (one : α → List UInt8 → PR α) (e : UInt8) (k : Nat) (x : α) (b r : List UInt8) (hb : ∀ c ∈ b, blankB c = true) (he : blankB e = false) :
    (if (blankL (b ++ (e :: r))).head? = some e then PR.ok x (blankL (b ++ (e :: r))).tail else (mustL 44 (blankL (b ++ (e :: r)))).bind fun _ r => rowN one e k x (blankL r)) = .ok x r := by
  rw [blank_eat _ _ hb, blank_stop _ he, if_pos (show (e :: r).head? = some e from rfl)]
  rfl
/-- .. a comma. -/
theorem row_more {α : Type} (one : α → List UInt8 → PR α) (e : UInt8) (k : Nat) (x : α) (b r : List UInt8) (hb : ∀ c ∈ b, blankB c = true) (he : e ≠ 44) (hr : blankL r = r) :
    (if (blankL (44 :: (b ++ r))).head? = some e then PR.ok x (blankL (44 :: (b ++ r))).tail else (mustL 44 (blankL (44 :: (b ++ r)))).bind fun _ r => rowN one e k x (blankL r)) = rowN one e k x r := by
  rw [blank_stop _ (by decide), if_neg (by simpa using fun h => he h.symm), must_hit, PR.bind_ok, blank_eat _ _ hb, hr]
theorem sty_noblank (S : Sty) (n : Nat) (v : JV) (h : rightJ v = true) (z : List UInt8) : blankL (styJ S n v ++ z) = styJ S n v ++ z := by
  obtain ⟨c, q, hc, hb, _, _⟩ := sty_head S n v h
  rw [hc, List.cons_append, blank_stop _ hb]
theorem quote_noblank (s z : List UInt8) : blankL (quoteL s ++ z) = quoteL s ++ z := by
  unfold quoteL
  rw [List.cons_append, blank_stop _ (by decide)]
theorem rowN_arr (S : Sty) (hS : S.blank) (n d : Nat) (r : List UInt8) :
    ∀ (l : List JV) (v : JV) (acc : List JV) (k : Nat), (∀ x ∈ v :: l, rightJ x = true) → l.length < k →
      (∀ x ∈ v :: l, ∀ q, numEnd q → valR d (styJ S (n + 1) x ++ q) = if openJ x ≤ d then .ok x q else .bad 32) →
      rowN (arrR (valR d)) 93 k acc (styJ S (n + 1) v ++ ((if l.isEmpty then S.cls n else styL S n (44 :: S.com n) (S.cls n) l) ++ (93 :: r))) = if openL (v :: l) ≤ d then .ok (acc ++ v :: l) r else .bad 32
  | [], v, acc, k, hr, hk, ih => by
    obtain ⟨k, rfl⟩ : ∃ q, k = q + 1 := ⟨k - 1, by omega⟩
    simp only [List.isEmpty_nil, if_true]
    rw [rowN_succ, arrR_eq, ih v (by simp) _ (numEnd_app (hS.cls n) (numEnd_cons (by decide)))]
    have e : openL [v] = openJ v := by simp [openL]
    rw [e]
    by_cases hd : openJ v ≤ d
    · rw [if_pos hd, if_pos hd, PR.bind_ok, PR.bind_ok, row_last _ _ _ _ _ _ (hS.cls n) (by decide)]
    · rw [if_neg hd, if_neg hd]
      rfl
  | x :: l, v, acc, k, hr, hk, ih => by
    obtain ⟨k, rfl⟩ : ∃ q, k = q + 1 := ⟨k - 1, by omega⟩
    simp only [List.isEmpty_cons, Bool.false_eq_true, if_false]
    simp only [List.length_cons] at hk
    have e1 : styL S n (44 :: S.com n) (S.cls n) (x :: l) ++ 93 :: r = 44 :: (S.com n ++ (styJ S (n + 1) x ++ ((if l.isEmpty then S.cls n else styL S n (44 :: S.com n) (S.cls n) l) ++ (93 :: r)))) := by
      simp only [styL, List.cons_append, List.append_assoc]
    rw [e1, rowN_succ, arrR_eq, ih v (by simp) _ (numEnd_cons (by decide))]
    have e : openL (v :: x :: l) = max (openJ v) (openL (x :: l)) := by simp [openL]
    rw [e]
    by_cases hd : openJ v ≤ d
    · rw [if_pos hd, PR.bind_ok, PR.bind_ok, row_more _ _ _ _ _ _ (hS.com n) (by decide) (sty_noblank S (n + 1) x (hr x (by simp)) _)]
      rw [rowN_arr S hS n d r l x (acc ++ [v]) k (fun y hy => hr y (by simp only [List.mem_cons] at hy ⊢; exact .inr hy)) (by omega) (fun y hy => ih y (by simp only [List.mem_cons] at hy ⊢; exact .inr hy))]
      by_cases h2 : openL (x :: l) ≤ d
      · rw [if_pos h2, if_pos (by omega)]
        simp
      · rw [if_neg h2, if_neg (by omega)]
    · rw [if_neg hd, if_neg (by omega)]
      rfl
theorem getM_app (n : List UInt8) : ∀ (a b : List (List UInt8 × JV)), (getM n (a ++ b)).isSome = ((getM n a).isSome || (getM n b).isSome)
  | [], b => by simp [getM]
  | p :: a, b => by
    simp only [List.cons_append, getM]
    split
    · simp
    · exact getM_app n a b
/-- No name twice. -/
def unlikeM : List (List UInt8 × JV) → Bool
  | [] => true
  | p :: m => (getM p.1 m).isNone && unlikeM m
theorem getM_isSome (n : List UInt8) : ∀ (m : List (List UInt8 × JV)), (getM n m).isSome = true ↔ ∃ p ∈ m, p.1 = n
  | [] => by simp [getM]
  | p :: m => by
    simp only [getM]
    split
    · rename_i h; simp [h]
    · rename_i h
      rw [getM_isSome n m]
      simp [h]
theorem memR_hit (val : List UInt8 → PR JV) (n : List UInt8) (acc : List (List UInt8 × JV)) (b z : List UInt8) (ha : (getM n acc).isSome = false) (hb : ∀ c ∈ b, blankB c = true) (hz : blankL z = z) :
    memR val acc (quoteL n ++ (58 :: (b ++ z))) = (val z).bind fun v r => .ok (acc ++ [(n, v)]) r := by
  unfold memR
  rw [text_quote, PR.bind_ok, if_neg (by rw [ha]; decide), blank_stop _ (by decide), must_hit, PR.bind_ok, blank_eat _ _ hb, hz]
theorem rowN_obj (S : Sty) (hS : S.blank) (n d : Nat) (r : List UInt8) :
    ∀ (m : List (List UInt8 × JV)) (p : List UInt8 × JV) (acc : List (List UInt8 × JV)) (k : Nat), (∀ x ∈ p :: m, rightJ x.2 = true) → m.length < k → unlikeM (p :: m) = true → (∀ x ∈ p :: m, (getM x.1 acc).isSome = false) →
      (∀ x ∈ p :: m, ∀ q, numEnd q → valR d (styJ S (n + 1) x.2 ++ q) = if openJ x.2 ≤ d then .ok x.2 q else .bad 32) →
      rowN (memR (valR d)) 125 k acc (quoteL p.1 ++ (58 :: (S.col ++ (styJ S (n + 1) p.2 ++ ((if m.isEmpty then S.cls n else styM S n (44 :: S.com n) (S.cls n) m) ++ (125 :: r)))))) = if openM (p :: m) ≤ d then .ok (acc ++ p :: m) r else .bad 32
  | [], p, acc, k, hr, hk, hu, ha, ih => by
    obtain ⟨k, rfl⟩ : ∃ q, k = q + 1 := ⟨k - 1, by omega⟩
    simp only [List.isEmpty_nil, if_true]
    rw [rowN_succ, memR_hit _ _ _ _ _ (ha p (by simp)) hS.col (sty_noblank S (n + 1) p.2 (hr p (by simp)) _), ih p (by simp) _ (numEnd_app (hS.cls n) (numEnd_cons (by decide)))]
    have e : openM [p] = openJ p.2 := by simp [openM]
    rw [e]
    by_cases hd : openJ p.2 ≤ d
    · rw [if_pos hd, if_pos hd, PR.bind_ok, PR.bind_ok, row_last _ _ _ _ _ _ (hS.cls n) (by decide)]
    · rw [if_neg hd, if_neg hd]
      rfl
  | x :: m, p, acc, k, hr, hk, hu, ha, ih => by
    obtain ⟨k, rfl⟩ : ∃ q, k = q + 1 := ⟨k - 1, by omega⟩
    simp only [List.isEmpty_cons, Bool.false_eq_true, if_false]
    simp only [List.length_cons] at hk
    rw [unlikeM, Bool.and_eq_true] at hu
    obtain ⟨hu1, hu2⟩ := hu
    have e1 : styM S n (44 :: S.com n) (S.cls n) (x :: m) ++ 125 :: r = 44 :: (S.com n ++ (quoteL x.1 ++ (58 :: (S.col ++ (styJ S (n + 1) x.2 ++ ((if m.isEmpty then S.cls n else styM S n (44 :: S.com n) (S.cls n) m) ++ (125 :: r))))))) := by
      simp only [styM, List.cons_append, List.append_assoc]
    rw [e1, rowN_succ, memR_hit _ _ _ _ _ (ha p (by simp)) hS.col (sty_noblank S (n + 1) p.2 (hr p (by simp)) _), ih p (by simp) _ (numEnd_cons (by decide))]
    have e : openM (p :: x :: m) = max (openJ p.2) (openM (x :: m)) := by simp [openM]
    rw [e]
    by_cases hd : openJ p.2 ≤ d
    · rw [if_pos hd, PR.bind_ok, PR.bind_ok, row_more _ _ _ _ _ _ (hS.com n) (by decide) (quote_noblank _ _)]
      have ha2 : ∀ y ∈ x :: m, (getM y.1 (acc ++ [(p.1, p.2)])).isSome = false := by
        intro y hy
        rw [getM_app, ha y (by simp only [List.mem_cons] at hy ⊢; exact .inr hy)]
        cases hg : (getM y.1 [(p.1, p.2)]).isSome with
        | false => rfl
        | true =>
          exfalso
          obtain ⟨z, hz, hz2⟩ := (getM_isSome _ _).1 hg
          simp only [List.mem_singleton] at hz
          subst hz
          have : (getM p.1 (x :: m)).isSome = true := (getM_isSome _ _).2 ⟨y, hy, hz2.symm⟩
          rw [Option.isNone_iff_eq_none] at hu1
          rw [hu1] at this
          cases this
      rw [rowN_obj S hS n d r m x (acc ++ [(p.1, p.2)]) k (fun y hy => hr y (by simp only [List.mem_cons] at hy ⊢; exact .inr hy)) (by omega) hu2 ha2 (fun y hy => ih y (by simp only [List.mem_cons] at hy ⊢; exact .inr hy))]
      by_cases h2 : openM (x :: m) ≤ d
      · rw [if_pos h2, if_pos (by omega)]
        simp
      · rw [if_neg h2, if_neg (by omega)]
    · rw [if_neg hd, if_neg (by omega)]
      rfl
theorem rightL_all : ∀ l : List JV, rightL l = true ↔ ∀ x ∈ l, rightJ x = true
  | [] => by simp [rightL]
  | v :: l => by simp [rightL, rightL_all l]
theorem rightM_all : ∀ m : List (List UInt8 × JV), rightM m = true ↔ (∀ x ∈ m, toldB x.1 = true ∧ rightJ x.2 = true) ∧ unlikeM m = true
  | [] => by simp [rightM, unlikeM]
  | (n, v) :: m => by
    rw [rightM, unlikeM]
    simp only [Bool.and_eq_true, rightM_all m, List.mem_cons, forall_eq_or_imp]
    constructor
    · rintro ⟨⟨⟨h1, h2⟩, h3⟩, h4, h5⟩; exact ⟨⟨⟨h1, h2⟩, h4⟩, h3, h5⟩
    · rintro ⟨⟨⟨h1, h2⟩, h4⟩, h3, h5⟩; exact ⟨⟨⟨h1, h2⟩, h3⟩, h4, h5⟩
theorem styL_len (S : Sty) (n : Nat) (e : List UInt8) : ∀ (l : List JV) (b : List UInt8), (∀ x ∈ l, rightJ x = true) → l.length ≤ (styL S n b e l).length
  | [], b, h => by simp
  | v :: l, b, h => by
    have ih := styL_len S n e l (44 :: S.com n) (fun x hx => h x (by simp [hx]))
    obtain ⟨c, q, hc, _⟩ := sty_head S (n + 1) v (h v (by simp))
    rw [styL, hc]
    cases l with
    | nil => simp; omega
    | cons x l =>
      simp only [List.isEmpty_cons, Bool.false_eq_true, if_false, List.length_append, List.length_cons] at ih ⊢
      omega
theorem styM_len (S : Sty) (n : Nat) (e : List UInt8) : ∀ (m : List (List UInt8 × JV)) (b : List UInt8), m.length ≤ (styM S n b e m).length
  | [], b => by simp
  | v :: l, b => by
    have ih := styM_len S n e l (44 :: S.com n)
    rw [styM]
    cases l with
    | nil => simp [quoteL]; omega
    | cons x l =>
      simp only [List.isEmpty_cons, Bool.false_eq_true, if_false, List.length_append, List.length_cons] at ih ⊢
      omega
/-- What right values there are. -/
theorem right_cases {v : JV} (h : rightJ v = true) : v = jnull ∨ (∃ y, v = jbool y) ∨ (∃ t, v = jnum t ∧ numericB t = true) ∨ (∃ t, v = jstr t ∧ toldB t = true) ∨ (∃ l, v = jarr l ∧ rightL l = true) ∨ ∃ m, v = jobj m ∧ rightM m = true := by
  cases v with
  | mk k y t l m =>
    simp only [rightJ, Bool.and_eq_true, Bool.or_eq_true, beq_iff_eq, Bool.not_eq_true', List.isEmpty_iff] at h
    obtain ⟨⟨⟨⟨hy, ht⟩, hl⟩, hm⟩, h⟩ := h
    rcases h with ((((rfl | rfl) | ⟨rfl, h⟩) | ⟨rfl, h⟩) | ⟨rfl, h⟩) | ⟨rfl, h⟩
    · left; simp at hy ht hl hm; rw [hy, ht, hl, hm]; rfl
    · right; left; simp at ht hl hm; exact ⟨y, by rw [ht, hl, hm]; rfl⟩
    · right; right; left; simp at hy hl hm; exact ⟨t, by rw [hy, hl, hm]; rfl, h⟩
    · right; right; right; left; simp at hy hl hm; exact ⟨t, by rw [hy, hl, hm]; rfl, h⟩
    · right; right; right; right; left; simp at hy ht hm; exact ⟨l, by rw [hy, ht, hm]; rfl, h⟩
    · right; right; right; right; right; simp at hy ht hl; exact ⟨m, by rw [hy, ht, hl]; rfl, h⟩
theorem val_str (d : Nat) (r : List UInt8) : valR d (34 :: r) = (textR (34 :: r)).bind fun t r => .ok (jstr t) r := by unfold valR; rfl
theorem val_arr0 (r : List UInt8) : valR 0 (91 :: r) = .bad 32 := by unfold valR; rfl
theorem val_arr (d : Nat) (r : List UInt8) : valR (d + 1) (91 :: r) = (rowR (arrR (valR d)) 93 [] (blankL r)).bind fun l r => .ok (jarr l) r := by rw [valR]; rfl
theorem val_obj0 (r : List UInt8) : valR 0 (123 :: r) = .bad 32 := by unfold valR; rfl
theorem val_obj (d : Nat) (r : List UInt8) : valR (d + 1) (123 :: r) = (rowR (memR (valR d)) 125 [] (blankL r)).bind fun l r => .ok (jobj l) r := by rw [valR]; rfl
theorem val_num (d : Nat) (c : UInt8) (r : List UInt8) (h : c = 45 ∨ digB c = true) : valR d (c :: r) = (numberL (c :: r)).bind fun t r => .ok (jnum t) r := by
  have hc := u8_all (fun c => (c = 45 ∨ digB c = true) → c ≠ 110 ∧ c ≠ 116 ∧ c ≠ 102 ∧ c ≠ 34 ∧ c ≠ 91 ∧ c ≠ 123) (by decide +kernel) c h
  unfold valR
  have e : peekL (c :: r) = c := rfl
  rw [e, if_neg hc.1, if_neg hc.2.1, if_neg hc.2.2.1, if_neg hc.2.2.2.1, if_neg hc.2.2.2.2.1, if_neg hc.2.2.2.2.2, if_pos h]
theorem row_empty {α : Type} (one : α → List UInt8 → PR α) (e : UInt8) (x : α) (r : List UInt8) : rowR one e x (e :: r) = .ok x r := by simp [rowR]
theorem row_some {α : Type} (one : α → List UInt8 → PR α) (e : UInt8) (x : α) (r : List UInt8) (h : r.head? ≠ some e) : rowR one e x r = rowN one e (r.length + 1) x r := by
  unfold rowR
  rw [if_neg h]
theorem sizeOf_list {l : List JV} {x : JV} (h : x ∈ l) : SizeOf.sizeOf x < SizeOf.sizeOf l := List.sizeOf_lt_of_mem h
theorem sizeOf_mem {m : List (List UInt8 × JV)} {x : List UInt8 × JV} (h : x ∈ m) : SizeOf.sizeOf x.2 < SizeOf.sizeOf m := by
  have h1 := List.sizeOf_lt_of_mem h
  have h2 : SizeOf.sizeOf x.2 < SizeOf.sizeOf x := by cases x; simp; omega
  omega
theorem openJ_arr (l : List JV) : openJ (jarr l) = openL l + 1 := by simp [jarr, openJ]
theorem openJ_obj (m : List (List UInt8 × JV)) : openJ (jobj m) = openM m + 1 := by simp [jobj, openJ]
/-- A right value's text is read as the value, just if enough may be opened. -/
theorem val_sty (S : Sty) (hS : S.blank) : ∀ (N : Nat) (v : JV), SizeOf.sizeOf v ≤ N → rightJ v = true → ∀ (n d : Nat) (r : List UInt8), numEnd r → valR d (styJ S n v ++ r) = if openJ v ≤ d then .ok v r else .bad 32 := by
  intro N
  induction N with
  | zero =>
    intro v hv
    cases v
    simp at hv
  | succ N ih =>
    intro v hv h n d r hr
    rcases right_cases h with rfl | ⟨y, rfl⟩ | ⟨t, rfl, ht⟩ | ⟨t, rfl, ht⟩ | ⟨l, rfl, hl⟩ | ⟨m, rfl, hm⟩
    · have e : openJ jnull = 0 := by simp [jnull, openJ]
      rw [e, if_pos (Nat.zero_le _)]
      unfold valR
      rfl
    · have e : openJ (jbool y) = 0 := by simp [jbool, openJ]
      rw [e, if_pos (Nat.zero_le _)]
      cases y <;> (unfold valR; rfl)
    · have e : openJ (jnum t) = 0 := by simp [jnum, openJ]
      have e2 : styJ S n (jnum t) = t := by simp [jnum, styJ]
      rw [e, if_pos (Nat.zero_le _), e2]
      obtain ⟨c, q, rfl, hc⟩ := num_head ht
      rw [List.cons_append, val_num _ _ _ hc, ← List.cons_append, number_ext ht hr]
      rfl
    · have e : openJ (jstr t) = 0 := by simp [jstr, openJ]
      have e2 : styJ S n (jstr t) = quoteL t := by simp [jstr, styJ]
      rw [e, if_pos (Nat.zero_le _), e2]
      have h1 := text_quote t r
      have e3 : quoteL t ++ r = 34 :: ((t.flatMap quoteC ++ [34]) ++ r) := rfl
      rw [e3] at h1 ⊢
      rw [val_str, h1]
      rfl
    · have e2 : styJ S n (jarr l) = 91 :: (styL S n (S.opn n) (S.cls n) l ++ [93]) := by simp [jarr, styJ]
      rw [openJ_arr, e2]
      have hall := (rightL_all l).1 hl
      cases d with
      | zero => rw [List.cons_append, val_arr0, if_neg (by omega)]
      | succ d =>
        rw [List.cons_append, val_arr, List.append_assoc]
        cases l with
        | nil =>
          simp only [styL, List.nil_append, List.cons_append]
          rw [blank_stop _ (by decide), row_empty, PR.bind_ok, if_pos (by simp [openL])]
        | cons v l =>
          have hsz : ∀ x ∈ v :: l, SizeOf.sizeOf x ≤ N := by
            intro x hx
            have h1 := sizeOf_list hx
            have h2 : SizeOf.sizeOf (jarr (v :: l)) = 1 + SizeOf.sizeOf (5 : Int) + SizeOf.sizeOf false + SizeOf.sizeOf ([] : List UInt8) + SizeOf.sizeOf (v :: l) + SizeOf.sizeOf ([] : List (List UInt8 × JV)) := by rw [jarr, JV.mk.sizeOf_spec]
            omega
          have e3 : styL S n (S.opn n) (S.cls n) (v :: l) ++ ([93] ++ r) = S.opn n ++ (styJ S (n + 1) v ++ ((if l.isEmpty then S.cls n else styL S n (44 :: S.com n) (S.cls n) l) ++ (93 :: r))) := by
            simp only [styL, List.append_assoc, List.singleton_append]
          rw [e3, blank_eat _ _ (hS.opn n), sty_noblank S (n + 1) v (hall v (by simp)), row_some]
          · rw [rowN_arr S hS n d r l v [] _ hall ?_ (fun x hx q hq => ih x (hsz x hx) (hall x hx) (n + 1) d q hq)]
            · by_cases h2 : openL (v :: l) ≤ d
              · rw [if_pos h2, if_pos (by omega)]
                rfl
              · rw [if_neg h2, if_neg (by omega)]
                rfl
            · have h1 := styL_len S n (S.cls n) l (44 :: S.com n) (fun x hx => hall x (by simp [hx]))
              split
              · rename_i hnil
                simp only [List.isEmpty_iff] at hnil
                subst hnil
                simp
              · simp only [List.length_append, List.length_cons] at h1 ⊢
                omega
          · obtain ⟨c, q, hc, _, h93, _⟩ := sty_head S (n + 1) v (hall v (by simp))
            rw [hc]
            simpa using h93
    · have e2 : styJ S n (jobj m) = 123 :: (styM S n (S.opn n) (S.cls n) m ++ [125]) := by simp [jobj, styJ]
      rw [openJ_obj, e2]
      obtain ⟨hall, hun⟩ := (rightM_all m).1 hm
      cases d with
      | zero => rw [List.cons_append, val_obj0, if_neg (by omega)]
      | succ d =>
        rw [List.cons_append, val_obj, List.append_assoc]
        cases m with
        | nil =>
          simp only [styM, List.nil_append, List.cons_append]
          rw [blank_stop _ (by decide), row_empty, PR.bind_ok, if_pos (by simp [openM])]
        | cons p m =>
          have hsz : ∀ x ∈ p :: m, SizeOf.sizeOf x.2 ≤ N := by
            intro x hx
            have h1 := sizeOf_mem hx
            have h2 : SizeOf.sizeOf (jobj (p :: m)) = 1 + SizeOf.sizeOf (6 : Int) + SizeOf.sizeOf false + SizeOf.sizeOf ([] : List UInt8) + SizeOf.sizeOf ([] : List JV) + SizeOf.sizeOf (p :: m) := by rw [jobj, JV.mk.sizeOf_spec]
            omega
          have e3 : styM S n (S.opn n) (S.cls n) (p :: m) ++ ([125] ++ r) = S.opn n ++ (quoteL p.1 ++ (58 :: (S.col ++ (styJ S (n + 1) p.2 ++ ((if m.isEmpty then S.cls n else styM S n (44 :: S.com n) (S.cls n) m) ++ (125 :: r)))))) := by
            simp only [styM, List.append_assoc, List.cons_append, List.nil_append]
          rw [e3, blank_eat _ _ (hS.opn n), quote_noblank, row_some]
          · rw [rowN_obj S hS n d r m p [] _ (fun x hx => (hall x hx).2) ?_ hun (fun x hx => rfl) (fun x hx q hq => ih x.2 (hsz x hx) (hall x hx).2 (n + 1) d q hq)]
            · by_cases h2 : openM (p :: m) ≤ d
              · rw [if_pos h2, if_pos (by omega)]
                rfl
              · rw [if_neg h2, if_neg (by omega)]
                rfl
            · have h1 := styM_len S n (S.cls n) m (44 :: S.com n)
              split
              · rename_i hnil
                simp only [List.isEmpty_iff] at hnil
                subst hnil
                simp
              · simp only [List.length_append, List.length_cons] at h1 ⊢
                omega
          · unfold quoteL
            simp
/-- .. the whole text. -/
theorem whole_sty (S : Sty) (hS : S.blank) (v : JV) (h : rightJ v = true) (n d : Nat) (e : List UInt8) (he : ∀ c ∈ e, blankB c = true) : wholeR d (styJ S n v ++ e) = if openJ v ≤ d then .ok v [] else .bad 32 := by
  unfold wholeR
  rw [sty_noblank S n v h, val_sty S hS _ v (Nat.le_refl _) h n d e ?_]
  · by_cases h2 : openJ v ≤ d
    · rw [if_pos h2, if_pos h2, PR.bind_ok]
      have := blank_eat e [] he
      rw [List.append_nil] at this
      rw [this]
      rfl
    · rw [if_neg h2, if_neg h2]
      rfl
  · have := numEnd_app he numEnd_nil
    rwa [List.append_nil] at this
end Go.Proofs.YtfdijcdpmgkdkaaGreatDoor
set_option linter.unusedVariables false
namespace Go.Proofs.YtfdijcdpmgkdkaaGreatDoor

end Go.Proofs.YtfdijcdpmgkdkaaGreatDoor
set_option linter.unusedVariables false
namespace Go.Proofs.YtfdijcdpmgkdkaaGreatDoor
open Go.Lib

end Go.Proofs.YtfdijcdpmgkdkaaGreatDoor
set_option linter.unusedVariables false
namespace Go.Proofs.YtfdijcdpmgkdkaaGreatDoor
open Go.Lib

/-- A text's parts, with a byte between them. -/
def partsL (c : UInt8) : List UInt8 → List (List UInt8)
  | [] => [[]]
  | b :: r => if b = c then [] :: partsL c r else match partsL c r with
    | p :: q => (b :: p) :: q
    | [] => [[b]]
theorem partsL_cons (c b : UInt8) (r : List UInt8) : partsL c (b :: r) = if b = c then [] :: partsL c r else match partsL c r with
    | p :: q => (b :: p) :: q
    | [] => [[b]] := rfl
theorem partsL_ne (c : UInt8) : ∀ (s : List UInt8), partsL c s ≠ []
  | [] => by simp [partsL]
  | b :: r => by
    rw [partsL_cons]
    split
    · simp
    · split <;> simp
theorem partsL_none (c : UInt8) : ∀ (s : List UInt8), c ∉ s → partsL c s = [s]
  | [], _ => rfl
  | b :: r, h => by
    simp only [List.mem_cons, not_or] at h
    rw [partsL_cons, if_neg (fun e => h.1 e.symm), partsL_none c r h.2]
theorem partsL_hit (c : UInt8) : ∀ (a r : List UInt8), c ∉ a → partsL c (a ++ c :: r) = a :: partsL c r
  | [], r, _ => by rw [List.nil_append, partsL_cons, if_pos rfl]
  | b :: a, r, h => by
    simp only [List.mem_cons, not_or] at h
    rw [List.cons_append, partsL_cons, if_neg (fun e => h.1 e.symm), partsL_hit c a r h.2]
theorem first_at (c : UInt8) : ∀ (s : List UInt8), c ∈ s → ∃ a r, s = a ++ c :: r ∧ c ∉ a
  | [], h => by cases h
  | b :: s, h => by
    by_cases e : b = c
    · subst e; exact ⟨[], s, rfl, by simp⟩
    · have h' : c ∈ s := by
        rcases List.mem_cons.1 h with h | h
        · exact absurd h.symm e
        · exact h
      obtain ⟨a, r, h1, h2⟩ := first_at c s h'
      exact ⟨b :: a, r, by rw [h1]; rfl, by simp only [List.mem_cons, not_or]; exact ⟨fun e' => e e'.symm, h2⟩⟩
theorem idx_hit (c : UInt8) : ∀ (a r : List UInt8), c ∉ a → indexByte (a ++ c :: r) c = a.length
  | [], r, _ => by
    show (if (c == c) = true then (0 : Int) else _) = _
    simp
  | b :: a, r, h => by
    simp only [List.mem_cons, not_or] at h
    have ih := idx_hit c a r h.2
    have e : (b == c) = false := by simp only [beq_eq_false_iff_ne, ne_eq]; exact fun e => h.1 e.symm
    show indexByte (b :: (a ++ c :: r)) c = _
    unfold indexByte
    rw [e, ih]
    have e2 : (((a.length : Nat) : Int) == -1) = false := by simp only [beq_eq_false_iff_ne, ne_eq]; omega
    rw [e2]
    simp
theorem splitK_parts (c : UInt8) : ∀ (n : Nat) (s : List UInt8), s.length ≤ n → splitK [c] 0 (s.count c) s = partsL c s := by
  intro n
  induction n with
  | zero =>
    intro s h
    have : s = [] := List.eq_nil_of_length_eq_zero (by omega)
    subst this
    rfl
  | succ n ih =>
    intro s h
    by_cases hm : c ∈ s
    · obtain ⟨a, r, rfl, ha⟩ := first_at c s hm
      have hcount : (a ++ c :: r).count c = r.count c + 1 := by
        rw [List.count_append, List.count_cons_self, List.count_eq_zero_of_not_mem ha]
        omega
      rw [hcount, partsL_hit c a r ha]
      unfold splitK
      rw [index_one, idx_hit c a r ha]
      have e2 : (((a.length : Nat) : Int) == -1) = false := by simp only [beq_eq_false_iff_ne, ne_eq]; omega
      rw [e2]
      have e3 : ((a.length : Nat) : Int).toNat = a.length := by omega
      simp only [Bool.false_eq_true, if_false, e3, Nat.add_zero, List.take_left, List.length_cons, List.length_nil]
      have e4 : (a ++ c :: r).drop (a.length + (0 + 1)) = r := by
        rw [Nat.zero_add, ← List.drop_drop, List.drop_left]
        rfl
      rw [e4, ih r (by simp at h; omega)]
    · rw [List.count_eq_zero_of_not_mem hm, partsL_none c s hm]
      rfl
theorem splitB_parts (c : UInt8) (s : List UInt8) : splitB ⟨#[c]⟩ 0 (countB ⟨s.toArray⟩ ⟨#[c]⟩) ⟨s.toArray⟩ = (partsL c s).map fun p => ⟨p.toArray⟩ := by
  have h1 := splitB_data ⟨#[c]⟩ 0 (countB ⟨s.toArray⟩ ⟨#[c]⟩) ⟨s.toArray⟩
  have h2 : countB ⟨s.toArray⟩ ⟨#[c]⟩ = s.count c := count_one c s
  rw [h2] at h1 ⊢
  have h3 : splitK (⟨#[c]⟩ : ByteArray).data.toList 0 (s.count c) (⟨s.toArray⟩ : ByteArray).data.toList = partsL c s := splitK_parts c s.length s (Nat.le_refl _)
  rw [h3] at h1
  rw [← h1, List.map_map]
  conv => lhs; rw [← List.map_id (splitB _ _ _ _)]
  apply List.map_congr_left
  intro x _
  cases x
  rfl
theorem countB_parts (c : UInt8) (s : List UInt8) : countB ⟨s.toArray⟩ ⟨#[c]⟩ + 1 = (partsL c s).length := by
  have h2 : countB ⟨s.toArray⟩ ⟨#[c]⟩ = s.count c := count_one c s
  rw [h2]
  have go : ∀ (n : Nat) (s : List UInt8), s.length ≤ n → s.count c + 1 = (partsL c s).length := by
    intro n
    induction n with
    | zero =>
      intro s h
      have : s = [] := List.eq_nil_of_length_eq_zero (by omega)
      subst this
      rfl
    | succ n ih =>
      intro s h
      by_cases hm : c ∈ s
      · obtain ⟨a, r, rfl, ha⟩ := first_at c s hm
        rw [partsL_hit c a r ha, List.length_cons, ← ih r (by simp at h; omega), List.count_append, List.count_cons_self, List.count_eq_zero_of_not_mem ha]
        omega
      · rw [List.count_eq_zero_of_not_mem hm, partsL_none c s hm]
        rfl
  exact go s.length s (Nat.le_refl _)
theorem partsL_len (c : UInt8) : ∀ (s p : List UInt8), p ∈ partsL c s → p.length ≤ s.length := by
  have go : ∀ (n : Nat) (s p : List UInt8), s.length ≤ n → p ∈ partsL c s → p.length ≤ s.length := by
    intro n
    induction n with
    | zero =>
      intro s p h hp
      have : s = [] := List.eq_nil_of_length_eq_zero (by omega)
      subst this
      simp [partsL] at hp
      subst hp
      exact Nat.le_refl _
    | succ n ih =>
      intro s p h hp
      by_cases hm : c ∈ s
      · obtain ⟨a, r, rfl, ha⟩ := first_at c s hm
        rw [partsL_hit c a r ha] at hp
        rcases List.mem_cons.1 hp with rfl | hp
        · simp
        · have := ih r p (by simp at h; omega) hp
          simp
          omega
      · rw [partsL_none c s hm] at hp
        simp only [List.mem_singleton] at hp
        subst hp
        exact Nat.le_refl _
  exact fun s p => go s.length s p (Nat.le_refl _)

abbrev PairL := List UInt8 × List UInt8
def hasName (l : List PairL) (n : List UInt8) : Bool := l.any fun p => decide (p.1 = n)
/-- Names are unlike, and none is empty. -/
def Unlike (l : List PairL) : Prop := (l.map (·.1)).Nodup ∧ ∀ p ∈ l, p.1 ≠ []
theorem Unlike.nil : Unlike [] := ⟨List.nodup_nil, by simp⟩
theorem hasName_false {l : List PairL} {n : List UInt8} (h : hasName l n = false) : n ∉ l.map (·.1) := by
  intro hm
  obtain ⟨p, hp, e⟩ := List.mem_map.1 hm
  have : hasName l n = true := by
    unfold hasName
    rw [List.any_eq_true]
    exact ⟨p, hp, by simpa using e⟩
  rw [h] at this
  cases this
theorem Unlike.snoc {l : List PairL} {p : PairL} (h : Unlike l) (h1 : hasName l p.1 = false) (h2 : p.1 ≠ []) : Unlike (l ++ [p]) := by
  refine ⟨?_, ?_⟩
  · rw [List.map_append, List.nodup_append]
    refine ⟨h.1, by simp, fun a ha b hb e => ?_⟩
    simp only [List.map_cons, List.map_nil, List.mem_singleton] at hb
    subst hb e
    exact hasName_false h1 ha
  · intro q hq
    rcases List.mem_append.1 hq with hq | hq
    · exact h.2 q hq
    · simp only [List.mem_singleton] at hq; subst hq; exact h2
end Go.Proofs.YtfdijcdpmgkdkaaGreatDoor
set_option linter.unusedVariables false
namespace Go.Proofs.YtfdijcdpmgkdkaaGreatDoor
open Go.RowKit

/-- A member's text, and whether it is a string. -/
def strM (n : List UInt8) (v : JV) : List UInt8 × Bool := match getJ n v with
  | some x => (x.text, x.kind == 4)
  | none => ([], false)
end Go.Proofs.YtfdijcdpmgkdkaaGreatDoor
set_option linter.unusedVariables false
namespace Go.Proofs.YtfdijcdpmgkdkaaGreatDoor

def plainS : Sty := ⟨fun _ => [], fun _ => [], fun _ => [], []⟩
theorem plainS_blank : plainS.blank := ⟨fun _ c hc => by simp [plainS] at hc, fun _ c hc => by simp [plainS] at hc, fun _ c hc => by simp [plainS] at hc, fun c hc => by simp [plainS] at hc⟩
/-- How many signs stand at a text's end. -/
def signs (p : List UInt8) : Nat := (p.reverse.takeWhile (· == 92)).length
/-- A byte that is written as it is, outside strings. -/
def mild (c : UInt8) : Prop := c ≠ 34 ∧ c ≠ 91 ∧ c ≠ 123 ∧ c ≠ 93 ∧ c ≠ 125 ∧ c ≠ 44 ∧ c ≠ 58
end Go.Proofs.YtfdijcdpmgkdkaaGreatDoor
set_option linter.unusedVariables false
namespace Go.Proofs.YtfdijcdpmgkdkaaGreatDoor

theorem inB_app (s t : List UInt8) (i lo hi : Nat) (h : inB s i lo hi = true) : inB (s ++ t) i lo hi = true := by
  unfold inB at h ⊢
  simp only [Bool.and_eq_true, decide_eq_true_eq] at h ⊢
  obtain ⟨h1, h2, h3⟩ := h
  have e : (s ++ t).getD i 0 = s.getD i 0 := by
    simp [List.getD_eq_getElem?_getD, List.getElem?_append_left h1]
  rw [e]
  exact ⟨by rw [List.length_append]; omega, h2, h3⟩
theorem chr_app (s t : List UInt8) (hne : s ≠ []) (h : chr s ≠ 0) : chr (s ++ t) = chr s := by
  have e : (s ++ t).getD 0 0 = s.getD 0 0 := by
    cases s with
    | nil => exact absurd rfl hne
    | cons c s => rfl
  unfold chr at h ⊢
  rw [e]
  generalize (s.getD 0 0).toNat = c at *
  unfold chrC at h ⊢
  by_cases c1 : c < 128
  · rw [if_pos c1, if_pos c1]
  rw [if_neg c1] at h ⊢
  rw [if_neg c1]
  by_cases c2 : c < 194
  · rw [if_pos c2] at h; exact absurd rfl h
  rw [if_neg c2] at h ⊢
  rw [if_neg c2]
  by_cases c3 : c < 224
  · rw [if_pos c3] at h ⊢
    rw [if_pos c3]
    cases hx : inB s 1 128 191 with
    | true => rw [inB_app _ _ _ _ _ hx]
    | false => rw [hx] at h; exact absurd rfl h
  rw [if_neg c3] at h ⊢
  rw [if_neg c3]
  by_cases c4 : c < 240
  · rw [if_pos c4] at h ⊢
    rw [if_pos c4]
    cases hx : inB s 1 (lo3 c) (hi3 c) with
    | false => rw [hx] at h; exact absurd rfl h
    | true =>
      cases hy : inB s 2 128 191 with
      | false => rw [hx, hy] at h; exact absurd rfl h
      | true => rw [inB_app _ _ _ _ _ hx, inB_app _ _ _ _ _ hy]
  rw [if_neg c4] at h ⊢
  rw [if_neg c4]
  by_cases c5 : c < 245
  · rw [if_pos c5] at h ⊢
    rw [if_pos c5]
    cases hx : inB s 1 (lo4 c) (hi4 c) with
    | false => rw [hx] at h; exact absurd rfl h
    | true =>
      cases hy : inB s 2 128 191 with
      | false => rw [hx, hy] at h; exact absurd rfl h
      | true =>
        cases hz : inB s 3 128 191 with
        | false => rw [hx, hy, hz] at h; exact absurd rfl h
        | true => rw [inB_app _ _ _ _ _ hx, inB_app _ _ _ _ _ hy, inB_app _ _ _ _ _ hz]
  · rw [if_neg c5] at h; exact absurd rfl h
theorem told_ne (s : List UInt8) (h : s ≠ []) : toldB s = (decide (chr s ≠ 0) && toldB (s.drop (chr s))) := by
  unfold toldB
  rw [wrongL_ne s h]
  by_cases hc : chr s = 0
  · rw [if_pos hc]; simp [hc]
  · rw [if_neg hc]; simp [hc]
theorem told_app : ∀ (n : Nat) (a b : List UInt8), a.length ≤ n → toldB a = true → toldB (a ++ b) = toldB b
  | 0, a, b, hn, _ => by
    have : a = [] := List.eq_nil_of_length_eq_zero (by omega)
    subst this
    rfl
  | n + 1, a, b, hn, ha => by
    by_cases hne : a = []
    · subst hne; rfl
    rw [told_ne a hne] at ha
    simp only [Bool.and_eq_true, decide_eq_true_eq] at ha
    obtain ⟨h1, h2⟩ := ha
    have hl := chr_len a hne
    rw [told_ne (a ++ b) (by simp [hne]), chr_app a b hne h1, List.drop_append_of_le_length hl, told_app n (a.drop (chr a)) b (by rw [List.length_drop]; omega) h2]
    simp [h1]
theorem told_cat {a b : List UInt8} (ha : toldB a = true) (hb : toldB b = true) : toldB (a ++ b) = true := by rw [told_app a.length a b (Nat.le_refl _) ha, hb]
theorem told_low {c : UInt8} (h : c.toNat < 128) : toldB [c] = true := by
  have e : chr [c] = 1 := by
    unfold chr chrC
    rw [if_pos (by simpa using h)]
  rw [told_ne _ (by simp), e]
  rfl
theorem told_lows : ∀ (l : List UInt8), (∀ c ∈ l, c.toNat < 128) → toldB l = true
  | [], _ => rfl
  | c :: l, h => by
    have := told_cat (told_low (h c (by simp))) (told_lows l (fun x hx => h x (by simp [hx])))
    simpa using this
theorem quoteC_low : ∀ c : UInt8, c.toNat < 128 → ∀ x ∈ quoteC c, x.toNat < 128 := by
  have := u8_all (fun c => (decide (c.toNat < 128) && !(quoteC c).all (fun x => decide (x.toNat < 128))) = false) (by decide +kernel)
  intro c hc x hx
  have h := this c
  rw [decide_eq_true hc, Bool.true_and, Bool.not_eq_false'] at h
  simpa using List.all_eq_true.1 h x hx
theorem quoteC_high : ∀ c : UInt8, 128 ≤ c.toNat → quoteC c = [c] := by
  have := u8_all (fun c => (decide (128 ≤ c.toNat) && !(quoteC c == [c])) = false) (by decide +kernel)
  intro c hc
  have h := this c
  rw [decide_eq_true hc, Bool.true_and, Bool.not_eq_false'] at h
  simpa using h
theorem flat_high : ∀ (l : List UInt8), (∀ c ∈ l, 128 ≤ c.toNat) → l.flatMap quoteC = l
  | [], _ => rfl
  | c :: l, h => by rw [List.flatMap_cons, quoteC_high c (h c (by simp)), flat_high l (fun x hx => h x (by simp [hx]))]; rfl
theorem inB_ge {s : List UInt8} {i lo hi : Nat} (h : inB s i lo hi = true) : i < s.length ∧ lo ≤ (s.getD i 0).toNat := by
  unfold inB at h
  simp only [Bool.and_eq_true, decide_eq_true_eq] at h
  exact ⟨h.1, h.2.1⟩
theorem lo3_ge (c : Nat) : 128 ≤ lo3 c := by unfold lo3; split <;> omega
theorem lo4_ge (c : Nat) : 128 ≤ lo4 c := by unfold lo4; split <;> omega
/-- All bytes of a character of more than one are high. -/
theorem chr_high (s : List UInt8) (hne : s ≠ []) (h0 : chr s ≠ 0) (h : ¬ (s.getD 0 0).toNat < 128) : ∀ i, i < chr s → i < s.length ∧ 128 ≤ (s.getD i 0).toNat := by
  have hl : 0 < s.length := List.length_pos_iff.2 hne
  unfold chr chrC at h0 ⊢
  rw [if_neg h] at h0 ⊢
  intro i hi
  rcases Nat.eq_zero_or_pos i with rfl | hi0
  · exact ⟨hl, by omega⟩
  split at hi
  · omega
  split at hi
  · split at hi
    · rename_i hx
      have := inB_ge hx
      obtain rfl : i = 1 := by omega
      exact ⟨this.1, this.2⟩
    · omega
  split at hi
  · split at hi
    · rename_i hx
      simp only [Bool.and_eq_true] at hx
      have a1 := inB_ge hx.1
      have a2 := inB_ge hx.2
      have := lo3_ge (s.getD 0 0).toNat
      rcases Nat.lt_or_ge i 2 with h2 | h2
      · obtain rfl : i = 1 := by omega
        exact ⟨a1.1, by omega⟩
      · obtain rfl : i = 2 := by omega
        exact ⟨a2.1, by omega⟩
    · omega
  split at hi
  · split at hi
    · rename_i hx
      simp only [Bool.and_eq_true] at hx
      have a1 := inB_ge hx.1.1
      have a2 := inB_ge hx.1.2
      have a3 := inB_ge hx.2
      have := lo4_ge (s.getD 0 0).toNat
      rcases Nat.lt_or_ge i 2 with h2 | h2
      · obtain rfl : i = 1 := by omega
        exact ⟨a1.1, by omega⟩
      rcases Nat.lt_or_ge i 3 with h3 | h3
      · obtain rfl : i = 2 := by omega
        exact ⟨a2.1, by omega⟩
      · obtain rfl : i = 3 := by omega
        exact ⟨a3.1, by omega⟩
    · omega
  · omega
theorem chr_one {s : List UInt8} (h : (s.getD 0 0).toNat < 128) : chr s = 1 := by
  unfold chr chrC
  rw [if_pos h]
theorem told_quotes : ∀ (n : Nat) (s : List UInt8), s.length ≤ n → toldB s = true → toldB (s.flatMap quoteC) = true
  | 0, s, hn, _ => by
    have : s = [] := List.eq_nil_of_length_eq_zero (by omega)
    subst this
    rfl
  | n + 1, s, hn, hs => by
    by_cases hne : s = []
    · subst hne; rfl
    rw [told_ne s hne] at hs
    simp only [Bool.and_eq_true, decide_eq_true_eq] at hs
    obtain ⟨h1, h2⟩ := hs
    have ih := told_quotes n (s.drop (chr s)) (by rw [List.length_drop]; omega) h2
    have e : s.flatMap quoteC = (s.take (chr s)).flatMap quoteC ++ (s.drop (chr s)).flatMap quoteC := by
      rw [← List.flatMap_append, List.take_append_drop]
    rw [e]
    refine told_cat ?_ ih
    by_cases h : (s.getD 0 0).toNat < 128
    · rw [chr_one h]
      cases s with
      | nil => exact absurd rfl hne
      | cons c s =>
        simp only [List.take_succ_cons, List.take_zero, List.flatMap_cons, List.flatMap_nil, List.append_nil]
        exact told_lows _ (quoteC_low c (by simpa using h))
    · have hh := chr_high s hne h1 h
      have hl := chr_len s hne
      have hall : ∀ c ∈ s.take (chr s), 128 ≤ c.toNat := by
        intro c hc
        obtain ⟨i, hi, rfl⟩ := List.getElem_of_mem hc
        simp only [List.length_take] at hi
        have := (hh i (by omega)).2
        rw [List.getD_eq_getElem?_getD, List.getElem?_eq_getElem (by omega), Option.getD_some] at this
        simpa using this
      rw [flat_high _ hall]
      -- the character alone is told
      have hne2 : s.take (chr s) ≠ [] := by
        intro e2
        have := congrArg List.length e2
        simp only [List.length_take, List.length_nil] at this
        have := List.length_pos_iff.2 hne
        omega
      have hts : toldB s = true := by rw [told_ne s hne]; simp [h1, h2]
      have hk : chr (s.take (chr s)) = chr s := by
        have hg : ∀ i, i < chr s → (s.take (chr s)).getD i 0 = s.getD i 0 := by
          intro i hi
          simp [List.getD_eq_getElem?_getD, hi]
        have hin : ∀ i lo hi, i < chr s → inB (s.take (chr s)) i lo hi = inB s i lo hi := by
          intro i lo hi hlt
          unfold inB
          rw [hg i hlt, List.length_take]
          congr 1
          rw [Bool.eq_iff_iff]
          simp only [decide_eq_true_eq]
          omega
        generalize hK : chr s = K at *
        have hK' := hK
        unfold chr chrC at hK ⊢
        rw [hg 0 (by omega)]
        rw [if_neg h] at hK ⊢
        by_cases c1 : (s.getD 0 0).toNat < 194
        · rw [if_pos c1] at hK; omega
        rw [if_neg c1] at hK ⊢
        by_cases c2 : (s.getD 0 0).toNat < 224
        · rw [if_pos c2] at hK ⊢
          split at hK
          · rename_i hx
            rw [hin 1 _ _ (by omega), if_pos hx]; exact hK
          · omega
        rw [if_neg c2] at hK ⊢
        by_cases c3 : (s.getD 0 0).toNat < 240
        · rw [if_pos c3] at hK ⊢
          split at hK
          · rename_i hx
            rw [hin 1 _ _ (by omega), hin 2 _ _ (by omega), if_pos hx]; exact hK
          · omega
        rw [if_neg c3] at hK ⊢
        by_cases c4 : (s.getD 0 0).toNat < 245
        · rw [if_pos c4] at hK ⊢
          split at hK
          · rename_i hx
            rw [hin 1 _ _ (by omega), hin 2 _ _ (by omega), hin 3 _ _ (by omega), if_pos hx]; exact hK
          · omega
        · rw [if_neg c4] at hK; omega
      rw [told_ne _ hne2, hk]
      simp only [Bool.and_eq_true, decide_eq_true_eq]
      refine ⟨h1, ?_⟩
      have : (s.take (chr s)).drop (chr s) = [] := by simp
      rw [this]
      rfl
theorem told_quote {s : List UInt8} (h : toldB s = true) : toldB (quoteL s) = true := by
  unfold quoteL
  have h1 : toldB ([34] : List UInt8) = true := told_low (by decide)
  have := told_cat h1 (told_cat (told_quotes _ s (Nat.le_refl _) h) h1)
  simpa using this
/-- The bytes that a number's text may have. -/
def numC (c : UInt8) : Bool := digB c || c == 43 || c == 45 || c == 46 || c == 101 || c == 69
theorem digits_pre {t t' : List UInt8} (h : digitsL t = .ok () t') : ∃ p, t = p ++ t' ∧ ∀ c ∈ p, numC c = true := by
  unfold digitsL at h
  split at h
  · simp only [PR.ok.injEq, true_and] at h
    refine ⟨t.takeWhile digB, by rw [← h, List.takeWhile_append_dropWhile], fun c hc => ?_⟩
    have : digB c = true := by
      have hall := List.all_takeWhile (p := digB) (l := t)
      exact List.all_eq_true.1 hall c hc
    unfold numC
    rw [this]
    rfl
  · cases h
theorem skip_pre (c : UInt8) (t : List UInt8) (hc : numC c = true) : ∃ p, t = p ++ skipL c t ∧ ∀ x ∈ p, numC x = true := by
  unfold skipL
  split
  · rename_i h
    cases t with
    | nil => simp at h
    | cons b t =>
      simp only [List.head?_cons, Option.some.injEq] at h
      subst h
      exact ⟨[b], rfl, fun x hx => by rw [List.mem_singleton.1 hx]; exact hc⟩
  · exact ⟨[], rfl, fun x hx => by simp at hx⟩
theorem pre_trans {t u v : List UInt8} (h1 : ∃ p, t = p ++ u ∧ ∀ c ∈ p, numC c = true) (h2 : ∃ p, u = p ++ v ∧ ∀ c ∈ p, numC c = true) : ∃ p, t = p ++ v ∧ ∀ c ∈ p, numC c = true := by
  obtain ⟨p, rfl, hp⟩ := h1
  obtain ⟨q, rfl, hq⟩ := h2
  refine ⟨p ++ q, by simp, fun c hc => ?_⟩
  rcases List.mem_append.1 hc with h | h
  · exact hp c h
  · exact hq c h
theorem head_pre {c : UInt8} {t : List UInt8} (h : t.head? = some c) (hc : numC c = true) : ∃ p, t = p ++ t.tail ∧ ∀ x ∈ p, numC x = true := by
  cases t with
  | nil => simp at h
  | cons b t =>
    simp only [List.head?_cons, Option.some.injEq] at h
    subst h
    exact ⟨[b], rfl, fun x hx => by rw [List.mem_singleton.1 hx]; exact hc⟩
theorem tail_pre {t t' : List UInt8} (h : numTail t = .ok () t') : ∃ p, t = p ++ t' ∧ ∀ c ∈ p, numC c = true := by
  unfold numTail at h
  split at h
  · rename_i he
    have h1 : ∃ p, t = p ++ t.tail ∧ ∀ x ∈ p, numC x = true := by
      rcases he with he | he <;> exact head_pre he (by decide)
    refine pre_trans h1 ?_
    split at h
    · rename_i h2
      exact pre_trans (head_pre h2 (by decide)) (digits_pre h)
    · exact pre_trans (skip_pre 45 _ (by decide)) (digits_pre h)
  · simp only [PR.ok.injEq, true_and] at h
    exact ⟨[], by rw [h]; rfl, fun x hx => by simp at hx⟩
theorem frac_pre {t t' : List UInt8} (h : numFrac t = .ok () t') : ∃ p, t = p ++ t' ∧ ∀ c ∈ p, numC c = true := by
  unfold numFrac at h
  split at h
  · rename_i he
    obtain ⟨x, q, h1, h2⟩ := bind_ok_iff h
    exact pre_trans (head_pre he (by decide)) (pre_trans (digits_pre h1) (tail_pre h2))
  · exact tail_pre h
theorem num_pre {t t' : List UInt8} (h : numR t = .ok () t') : ∃ p, t = p ++ t' ∧ ∀ c ∈ p, numC c = true := by
  unfold numR at h
  split at h
  · rename_i he
    exact pre_trans (skip_pre 45 _ (by decide)) (pre_trans (head_pre he (by decide)) (frac_pre h))
  · obtain ⟨x, q, h1, h2⟩ := bind_ok_iff h
    exact pre_trans (skip_pre 45 _ (by decide)) (pre_trans (digits_pre h1) (frac_pre h2))
theorem num_chars {t : List UInt8} (h : numericB t = true) : ∀ c ∈ t, numC c = true := by
  obtain ⟨p, e, hp⟩ := num_pre (numeric_spec h)
  rw [List.append_nil] at e
  rw [e]
  exact hp
theorem numC_low : ∀ c : UInt8, numC c = true → c.toNat < 128 ∧ mild c := by
  have := u8_all (fun c => (numC c && !(decide (c.toNat < 128) && c != 34 && c != 91 && c != 123 && c != 93 && c != 125 && c != 44 && c != 58)) = false) (by decide +kernel)
  intro c hc
  have h := this c
  rw [hc, Bool.true_and, Bool.not_eq_false'] at h
  simp only [Bool.and_eq_true, decide_eq_true_eq, bne_iff_ne, ne_eq] at h
  obtain ⟨⟨⟨⟨⟨⟨⟨h1, h2⟩, h3⟩, h4⟩, h5⟩, h6⟩, h7⟩, h8⟩ := h
  exact ⟨h1, h2, h3, h4, h5, h6, h7, h8⟩
theorem blank_low : ∀ c : UInt8, blankB c = true → c.toNat < 128 := by
  have := u8_all (fun c => (blankB c && !decide (c.toNat < 128)) = false) (by decide +kernel)
  intro c hc
  have h := this c
  rw [hc, Bool.true_and, Bool.not_eq_false'] at h
  simpa using h
theorem told_blank {b : List UInt8} (h : ∀ c ∈ b, blankB c = true) : toldB b = true := told_lows b fun c hc => blank_low c (h c hc)
theorem told_cons {c : UInt8} {l : List UInt8} (hc : c.toNat < 128) (hl : toldB l = true) : toldB (c :: l) = true := by
  have := told_cat (told_low hc) hl
  simpa using this
mutual
theorem told_sty (S : Sty) (hS : S.blank) : ∀ (v : JV) (n : Nat), rightJ v = true → toldB (styJ S n v) = true
  | .mk k y t l m, n, h => by
    have h' := h
    simp only [rightJ, Bool.and_eq_true, Bool.or_eq_true, beq_iff_eq] at h'
    obtain ⟨_, h'⟩ := h'
    unfold styJ
    by_cases h1 : k = 1
    · rw [if_pos h1]; decide
    rw [if_neg h1]
    by_cases h2 : k = 2
    · rw [if_pos h2]; cases y <;> decide
    rw [if_neg h2]
    by_cases h3 : k = 3
    · rw [if_pos h3]
      have hn : numericB t = true := by
        subst h3
        simpa using h'
      exact told_lows t fun c hc => (numC_low c (num_chars hn c hc)).1
    rw [if_neg h3]
    by_cases h4 : k = 4
    · rw [if_pos h4]
      have hn : toldB t = true := by
        subst h4
        simpa using h'
      exact told_quote hn
    rw [if_neg h4]
    by_cases h5 : k = 5
    · rw [if_pos h5]
      have hn : rightL l = true := by
        subst h5
        simpa using h'
      exact told_cons (by decide) (told_cat (told_styL S hS l n (S.opn n) (S.cls n) hn (told_blank (hS.opn n)) (told_blank (hS.cls n))) (by decide))
    rw [if_neg h5]
    by_cases h6 : k = 6
    · rw [if_pos h6]
      have hn : rightM m = true := by
        subst h6
        simpa using h'
      exact told_cons (by decide) (told_cat (told_styM S hS m n (S.opn n) (S.cls n) hn (told_blank (hS.opn n)) (told_blank (hS.cls n))) (by decide))
    · rw [if_neg h6]; rfl
theorem told_styL (S : Sty) (hS : S.blank) : ∀ (l : List JV) (n : Nat) (b e : List UInt8), rightL l = true → toldB b = true → toldB e = true → toldB (styL S n b e l) = true
  | [], n, b, e, _, _, _ => rfl
  | v :: l, n, b, e, h, hb, he => by
    simp only [rightL, Bool.and_eq_true] at h
    unfold styL
    refine told_cat hb (told_cat (told_sty S hS v (n + 1) h.1) ?_)
    split
    · exact he
    · exact told_styL S hS l n (44 :: S.com n) e h.2 (told_cons (by decide) (told_blank (hS.com n))) he
theorem told_styM (S : Sty) (hS : S.blank) : ∀ (m : List (List UInt8 × JV)) (n : Nat) (b e : List UInt8), rightM m = true → toldB b = true → toldB e = true → toldB (styM S n b e m) = true
  | [], n, b, e, _, _, _ => rfl
  | (x, v) :: m, n, b, e, h, hb, he => by
    simp only [rightM, Bool.and_eq_true] at h
    unfold styM
    refine told_cat hb (told_cat (told_quote h.1.1.1) (told_cons (by decide) (told_cat (told_blank hS.col) (told_cat (told_sty S hS v (n + 1) h.1.1.2) ?_))))
    split
    · exact he
    · exact told_styM S hS m n (44 :: S.com n) e h.2 (told_cons (by decide) (told_blank (hS.com n))) he
end
end Go.Proofs.YtfdijcdpmgkdkaaGreatDoor
set_option linter.unusedVariables false
namespace Go.Proofs.YtfdijcdpmgkdkaaGreatDoor

mutual
theorem plain_sty : ∀ (v : JV) (n : Nat), styJ plainS n v = plainJ v
  | .mk k y t l m, n => by
    have h1 := plainL_sty l n
    have h2 := plainM_sty m n
    rw [styJ, plainJ]
    have e1 : plainS.opn n = [] := rfl
    have e2 : plainS.cls n = [] := rfl
    rw [e1, e2, h1.1, h2.1]
theorem plainL_sty : ∀ (l : List JV) (n : Nat), styL plainS n [] [] l = plainL true l ∧ styL plainS n [44] [] l = plainL false l
  | [], n => ⟨rfl, rfl⟩
  | v :: l, n => by
    have h1 := plain_sty v (n + 1)
    have h2 := (plainL_sty l n).2
    have e3 : plainS.com n = [] := rfl
    have e4 : (if l.isEmpty then ([] : List UInt8) else styL plainS n (44 :: plainS.com n) [] l) = plainL false l := by
      cases l with
      | nil => rfl
      | cons x r => rw [e3]; exact h2
    constructor
    · rw [styL, plainL, h1, e4]; rfl
    · rw [styL, plainL, h1, e4]; rfl
theorem plainM_sty : ∀ (l : List (List UInt8 × JV)) (n : Nat), styM plainS n [] [] l = plainM true l ∧ styM plainS n [44] [] l = plainM false l
  | [], n => ⟨rfl, rfl⟩
  | (x, v) :: l, n => by
    have h1 := plain_sty v (n + 1)
    have h2 := (plainM_sty l n).2
    have e3 : plainS.com n = [] := rfl
    have e5 : plainS.col = [] := rfl
    have e4 : (if l.isEmpty then ([] : List UInt8) else styM plainS n (44 :: plainS.com n) [] l) = plainM false l := by
      cases l with
      | nil => rfl
      | cons x r => rw [e3]; exact h2
    constructor
    · rw [styM, plainM, h1, e4, e5]; rfl
    · rw [styM, plainM, h1, e4, e5]; rfl
end
theorem parse_sty (S : Sty) (hS : S.blank) (v : JV) (h : rightJ v = true) (e : List UInt8) (he : ∀ c ∈ e, blankB c = true) (hl : (styJ S 0 v ++ e).length ≤ 16384) (d : Int) (h1 : 1 ≤ d) (h2 : d ≤ 32) :
    parseL (styJ S 0 v ++ e) d = if openJ v ≤ d.toNat then (v, 0) else (.zero, 32) := by
  unfold parseL
  have ht : toldB (styJ S 0 v ++ e) = true := told_cat (told_sty S hS v 0 h) (told_blank he)
  rw [if_neg (by omega), if_neg (by omega), if_neg (by rw [ht]; decide), whole_sty S hS v h 0 d.toNat e he]
  by_cases ho : openJ v ≤ d.toNat
  · rw [if_pos ho, if_pos ho]
  · rw [if_neg ho, if_neg ho]
theorem parse_plain (v : JV) (h : rightJ v = true) (hl : (plainJ v).length ≤ 16384) (d : Int) (h1 : 1 ≤ d) (h2 : d ≤ 32) :
    parseL (plainJ v) d = if openJ v ≤ d.toNat then (v, 0) else (.zero, 32) := by
  have := parse_sty plainS plainS_blank v h [] (by simp) (by rw [plain_sty]; simpa using hl) d h1 h2
  rw [plain_sty] at this
  simpa using this
mutual
theorem open_depth : ∀ v : JV, openJ v ≤ depthJ v
  | .mk k y t l m => by
    have h1 := openL_depth l
    have h2 := openM_depth m
    rw [openJ, depthJ]
    split
    · omega
    split
    · omega
    · omega
theorem openL_depth : ∀ l : List JV, openL l ≤ depthL l
  | [] => by simp [openL]
  | v :: l => by
    have h1 := open_depth v
    have h2 := openL_depth l
    rw [openL, depthL]; omega
theorem openM_depth : ∀ l : List (List UInt8 × JV), openM l ≤ depthM l
  | [] => by simp [openM]
  | (n, v) :: l => by
    have h1 := open_depth v
    have h2 := openM_depth l
    rw [openM, depthM]
    show max (openJ v) (openM l) ≤ _
    omega
end
end Go.Proofs.YtfdijcdpmgkdkaaGreatDoor
namespace Go.Proofs.YtfdijcdpmgkdkaaGreatDoor

/-- The letters. -/
def alpha : List UInt8 := [65, 66, 67, 68, 69, 70, 71, 72, 73, 74, 75, 76, 77, 78, 79, 80, 81, 82, 83, 84, 85, 86, 87, 88, 89, 90, 97, 98, 99, 100, 101, 102, 103, 104, 105, 106, 107, 108, 109, 110, 111, 112, 113, 114, 115, 116, 117, 118, 119, 120, 121, 122, 48, 49, 50, 51, 52, 53, 54, 55, 56, 57, 45, 95]
def lt64 (n : Nat) : UInt8 := alpha.getD n 0

/-- As many letters as there are bits for. -/
def pop6 : Nat → List UInt8 → Nat → Nat → List UInt8 × Nat × Nat
  | 0, o, r, c => (o, r, c)
  | k + 1, o, r, c => if c < 6 then (o, r, c) else pop6 k (o ++ [lt64 (r / 2 ^ (c - 6))]) (r % 2 ^ (c - 6)) (c - 6)
def encStep (s : List UInt8 × Nat × Nat) (x : UInt8) : List UInt8 × Nat × Nat := pop6 3 s.1 (s.2.1 * 2 ^ 8 + x.toNat) (s.2.2 + 8)
def encAll (l : List UInt8) : List UInt8 × Nat × Nat := l.foldl encStep ([], 0, 0)
def encEnd (s : List UInt8 × Nat × Nat) : List UInt8 := if s.2.2 = 0 then s.1 else s.1 ++ [lt64 (s.2.1 * 2 ^ (6 - s.2.2))]
def enc (l : List UInt8) : List UInt8 := encEnd (encAll l)

/-- Fewer than six bits are left over, and the number is of so many. -/
def Acc (s : List UInt8 × Nat × Nat) : Prop := s.2.2 < 6 ∧ s.2.1 < 2 ^ s.2.2

theorem pop6_acc (k : Nat) : ∀ (o : List UInt8) (r c : Nat), c < 6 + 6 * k → r < 2 ^ c → Acc (pop6 k o r c) := by
  induction k with
  | zero => intro o r c h hr; exact ⟨by simpa [pop6] using h, by simpa [pop6] using hr⟩
  | succ k ih =>
    intro o r c h hr
    unfold pop6
    split
    · exact ⟨by assumption, hr⟩
    · exact ih _ _ _ (by omega) (Nat.mod_lt _ (Nat.two_pow_pos _))

theorem encStep_acc (s : List UInt8 × Nat × Nat) (x : UInt8) (h : Acc s) : Acc (encStep s x) := by
  obtain ⟨h1, h2⟩ := h
  refine pop6_acc 3 _ _ _ (by omega) ?_
  have hx : x.toNat < 2 ^ 8 := x.toNat_lt
  calc s.2.1 * 2 ^ 8 + x.toNat < s.2.1 * 2 ^ 8 + 2 ^ 8 := by omega
    _ = (s.2.1 + 1) * 2 ^ 8 := by omega
    _ ≤ 2 ^ s.2.2 * 2 ^ 8 := Nat.mul_le_mul_right _ h2
    _ = 2 ^ (s.2.2 + 8) := by rw [Nat.pow_add]

theorem foldl_acc (l : List UInt8) : ∀ s, Acc s → Acc (l.foldl encStep s) := by
  induction l with
  | nil => intro s h; exact h
  | cons x l ih => intro s h; exact ih _ (encStep_acc s x h)
theorem encAll_acc (l : List UInt8) : Acc (encAll l) := foldl_acc l _ ⟨by decide, by decide⟩

theorem encAll_snoc (l : List UInt8) (x : UInt8) : encAll (l ++ [x]) = encStep (encAll l) x := by simp [encAll]

theorem take_snoc8 (l : List UInt8) (k : Nat) (h : k < l.length) : l.take (k + 1) = l.take k ++ [l[k]] := by
  rw [List.take_succ_eq_append_getElem h]

theorem pop6_len (k : Nat) : ∀ (o : List UInt8) (r c : Nat), (pop6 k o r c).1.length ≤ o.length + k := by
  induction k with
  | zero => intro o r c; simp [pop6]
  | succ k ih =>
    intro o r c
    unfold pop6
    split
    · simp
    · have := ih (o ++ [lt64 (r / 2 ^ (c - 6))]) (r % 2 ^ (c - 6)) (c - 6); simp at this; omega
theorem foldl_len (l : List UInt8) : ∀ s, (l.foldl encStep s).1.length ≤ s.1.length + 3 * l.length := by
  induction l with
  | nil => intro s; simp
  | cons x l ih =>
    intro s
    have h1 := ih (encStep s x)
    have h2 := pop6_len 3 s.1 (s.2.1 * 2 ^ 8 + x.toNat) (s.2.2 + 8)
    simp only [List.foldl_cons, List.length_cons]
    unfold encStep at h1 ⊢
    omega
theorem encAll_len (l : List UInt8) : (encAll l).1.length ≤ 3 * l.length := by have := foldl_len l ([], 0, 0); simpa [encAll] using this
end Go.Proofs.YtfdijcdpmgkdkaaGreatDoor
set_option linter.unusedVariables false
namespace Go.Proofs.YtfdijcdpmgkdkaaGreatDoor

/-- Three bytes at a time. -/
def enc3 : List UInt8 → List UInt8
  | x :: y :: z :: t =>
    lt64 (x.toNat / 4) :: lt64 (x.toNat % 4 * 16 + y.toNat / 16) :: lt64 (y.toNat % 16 * 4 + z.toNat / 64) :: lt64 (z.toNat % 64) :: enc3 t
  | [x, y] => [lt64 (x.toNat / 4), lt64 (x.toNat % 4 * 16 + y.toNat / 16), lt64 (y.toNat % 16 * 4)]
  | [x] => [lt64 (x.toNat / 4), lt64 (x.toNat % 4 * 16)]
  | [] => []

theorem step_a (o : List UInt8) (x : UInt8) : encStep (o, 0, 0) x = (o ++ [lt64 (x.toNat / 4)], x.toNat % 4, 2) := by
  simp [encStep, pop6]
theorem step_b (o : List UInt8) (r : Nat) (y : UInt8) (hr : r < 4) : encStep (o, r, 2) y = (o ++ [lt64 (r * 16 + y.toNat / 16)], y.toNat % 16, 4) := by
  have hy := y.toNat_lt
  have e1 : (r * 256 + y.toNat) / 16 = r * 16 + y.toNat / 16 := by omega
  have e2 : (r * 256 + y.toNat) % 16 = y.toNat % 16 := by omega
  simp [encStep, pop6, e1, e2]
theorem step_c (o : List UInt8) (r : Nat) (z : UInt8) (hr : r < 16) : encStep (o, r, 4) z = (o ++ [lt64 (r * 4 + z.toNat / 64), lt64 (z.toNat % 64)], 0, 0) := by
  have hz := z.toNat_lt
  have e1 : (r * 256 + z.toNat) / 64 = r * 4 + z.toNat / 64 := by omega
  have e2 : (r * 256 + z.toNat) % 64 = z.toNat % 64 := by omega
  simp [encStep, pop6, e1, e2, Nat.mod_one]

theorem foldl_enc3 : ∀ (l o : List UInt8), encEnd (l.foldl encStep (o, 0, 0)) = o ++ enc3 l
  | [], o => by simp [encEnd, enc3]
  | [x], o => by simp [step_a, encEnd, enc3]
  | [x, y], o => by
    have := step_b (o ++ [lt64 (x.toNat / 4)]) (x.toNat % 4) y (by omega)
    simp [step_a, this, encEnd, enc3]
  | x :: y :: z :: t, o => by
    have h1 := step_b (o ++ [lt64 (x.toNat / 4)]) (x.toNat % 4) y (by omega)
    have h2 := step_c (o ++ [lt64 (x.toNat / 4)] ++ [lt64 (x.toNat % 4 * 16 + y.toNat / 16)]) (y.toNat % 16) z (by omega)
    rw [List.foldl_cons, List.foldl_cons, List.foldl_cons, step_a, h1, h2, foldl_enc3 t]
    simp [enc3]

theorem enc_eq (l : List UInt8) : enc l = enc3 l := by simpa [enc, encAll] using foldl_enc3 l []

theorem enc3_len : ∀ l : List UInt8, (enc3 l).length = (l.length * 8 + 5) / 6
  | [] => by simp [enc3]
  | [x] => by simp [enc3]
  | [x, y] => by simp [enc3]
  | x :: y :: z :: t => by
    simp only [enc3, List.length_cons, enc3_len t]
    omega
theorem enc_len (l : List UInt8) : (enc l).length = (l.length * 8 + 5) / 6 := by rw [enc_eq]; exact enc3_len l

/-- The four letters of a number of 24 bits. -/
def four (n : Nat) : List Nat := [n / 262144, n / 4096 % 64, n / 64 % 64, n % 64]
def fourL (n : Nat) : List UInt8 := (four n).map lt64
theorem four_lt (n : Nat) (h : n < 16777216) (j : Nat) (hj : j < 4) : ((four n)[j]'hj) < 64 := by
  match j, hj with
  | 0, _ => show n / 262144 < 64; omega
  | 1, _ => show n / 4096 % 64 < 64; omega
  | 2, _ => show n / 64 % 64 < 64; omega
  | 3, _ => show n % 64 < 64; omega

/-- Behind the first test: the number so far, and how many letters. -/
def G1 (l : List UInt8) (i n k : Nat) : Prop :=
  (∃ (h : i + 1 < l.length), n = (l[i]).toNat * 65536 + (l[i + 1]).toNat * 256 ∧ k = 3) ∨ (∃ (h : i + 1 = l.length), n = (l[i]).toNat * 65536 ∧ k = 2)
/-- Behind the second one: the letters that are told, and what is left. -/
def G2 (l : List UInt8) (i n k : Nat) : Prop := n < 16777216 ∧ 2 ≤ k ∧ k ≤ 4 ∧ (i + 3 ≤ l.length + 2) ∧ enc3 (l.drop i) = (fourL n).take k ++ enc3 (l.drop (i + 3))

theorem drop1 (l : List UInt8) (i : Nat) (h : i < l.length) : l.drop i = l[i] :: l.drop (i + 1) := List.drop_eq_getElem_cons h

theorem G2_of3 (l : List UInt8) (i n : Nat) (h : i + 2 < l.length) (hn : n = (l[i]).toNat * 65536 + (l[i + 1]).toNat * 256 + (l[i + 2]).toNat) : G2 l i n 4 := by
  have h0 := (l[i]).toNat_lt
  have h1 := (l[i + 1]).toNat_lt
  have h2 := (l[i + 2]).toNat_lt
  refine ⟨by omega, by omega, by omega, by omega, ?_⟩
  rw [drop1 l i (by omega), drop1 l (i + 1) (by omega), drop1 l (i + 2) h]
  have e1 : n / 262144 = (l[i]).toNat / 4 := by omega
  have e2 : n / 4096 % 64 = (l[i]).toNat % 4 * 16 + (l[i + 1]).toNat / 16 := by omega
  have e3 : n / 64 % 64 = (l[i + 1]).toNat % 16 * 4 + (l[i + 2]).toNat / 64 := by omega
  have e4 : n % 64 = (l[i + 2]).toNat % 64 := by omega
  simp [enc3, fourL, four, e1, e2, e3, e4]
theorem G2_of2 (l : List UInt8) (i n : Nat) (h : i + 2 = l.length) (hn : n = (l[i]).toNat * 65536 + (l[i + 1]).toNat * 256) : G2 l i n 3 := by
  have h0 := (l[i]).toNat_lt
  have h1 := (l[i + 1]).toNat_lt
  refine ⟨by omega, by omega, by omega, by omega, ?_⟩
  rw [drop1 l i (by omega), drop1 l (i + 1) (by omega), List.drop_eq_nil_of_le (show l.length ≤ i + 1 + 1 by omega), List.drop_eq_nil_of_le (show l.length ≤ i + 3 by omega)]
  have e1 : n / 262144 = (l[i]).toNat / 4 := by omega
  have e2 : n / 4096 % 64 = (l[i]).toNat % 4 * 16 + (l[i + 1]).toNat / 16 := by omega
  have e3 : n / 64 % 64 = (l[i + 1]).toNat % 16 * 4 := by omega
  simp [enc3, fourL, four, e1, e2, e3]
theorem G2_of1 (l : List UInt8) (i n : Nat) (h : i + 1 = l.length) (hn : n = (l[i]).toNat * 65536) : G2 l i n 2 := by
  have h0 := (l[i]).toNat_lt
  refine ⟨by omega, by omega, by omega, by omega, ?_⟩
  rw [drop1 l i (by omega), List.drop_eq_nil_of_le (show l.length ≤ i + 1 by omega), List.drop_eq_nil_of_le (show l.length ≤ i + 3 by omega)]
  have e1 : n / 262144 = (l[i]).toNat / 4 := by omega
  have e2 : n / 4096 % 64 = (l[i]).toNat % 4 * 16 := by omega
  simp [enc3, fourL, four, e1, e2]
end Go.Proofs.YtfdijcdpmgkdkaaGreatDoor
set_option linter.unusedVariables false
namespace Go.Proofs.YtfdijcdpmgkdkaaGreatDoor

/-- A letter's number. -/
def num64 (x : UInt8) : Option Nat := if Lib.indexByte alpha x < 0 then none else some (Lib.indexByte alpha x).toNat

theorem num64_lt : ∀ n, n < 64 → num64 (lt64 n) = some n := by decide +kernel
theorem num64_all : ∀ n, n < 256 → (num64 (UInt8.ofNat n) = none ∨ ∃ k, k < 64 ∧ num64 (UInt8.ofNat n) = some k ∧ lt64 k = UInt8.ofNat n) := by
  have h : ∀ n, n < 256 → (num64 (UInt8.ofNat n) = none ∨ ((num64 (UInt8.ofNat n)).getD 64 < 64 ∧ num64 (UInt8.ofNat n) = some ((num64 (UInt8.ofNat n)).getD 64) ∧ lt64 ((num64 (UInt8.ofNat n)).getD 64) = UInt8.ofNat n)) := by decide +kernel
  intro n hn
  rcases h n hn with h | ⟨h1, h2, h3⟩
  · exact .inl h
  · exact .inr ⟨_, h1, h2, h3⟩
theorem num64_some (x : UInt8) (k : Nat) (h : num64 x = some k) : k < 64 ∧ lt64 k = x := by
  have hx : UInt8.ofNat x.toNat = x := by simp
  rcases num64_all x.toNat x.toNat_lt with e | ⟨j, h1, h2, h3⟩
  · rw [hx] at e; rw [e] at h; cases h
  · rw [hx] at h2 h3
    rw [h2] at h
    cases h
    exact ⟨h1, h3⟩

/-- A number as a byte. -/
def byt (n : Nat) : UInt8 := UInt8.ofNat n
/-- One letter more. -/
def decStep (s : List UInt8 × Nat × Nat) (n : Nat) : List UInt8 × Nat × Nat :=
  if s.2.2 + 6 < 8 then (s.1, s.2.1 * 2 ^ 6 + n, s.2.2 + 6)
  else (s.1 ++ [byt ((s.2.1 * 2 ^ 6 + n) / 2 ^ (s.2.2 + 6 - 8))], (s.2.1 * 2 ^ 6 + n) % 2 ^ (s.2.2 + 6 - 8), s.2.2 + 6 - 8)
def decEnd (s : List UInt8 × Nat × Nat) : Option (List UInt8) := if 6 ≤ s.2.2 ∨ s.2.1 ≠ 0 then none else some s.1
def nums (l : List UInt8) : Option (List Nat) := l.mapM num64
def dec (l : List UInt8) : Option (List UInt8) := match nums l with | none => none | some ns => decEnd (ns.foldl decStep ([], 0, 0))

def DAcc (s : List UInt8 × Nat × Nat) : Prop := s.2.2 < 8 ∧ s.2.1 < 2 ^ s.2.2
theorem decStep_acc (s : List UInt8 × Nat × Nat) (n : Nat) (hn : n < 64) (h : DAcc s) : DAcc (decStep s n) ∧ s.2.1 * 2 ^ 6 + n < 2 ^ (s.2.2 + 6) := by
  obtain ⟨h1, h2⟩ := h
  have hb : s.2.1 * 2 ^ 6 + n < 2 ^ (s.2.2 + 6) := by
    have : s.2.1 + 1 ≤ 2 ^ s.2.2 := h2
    have := Nat.mul_le_mul_right (2 ^ 6) this
    rw [Nat.pow_add]
    omega
  refine ⟨?_, hb⟩
  unfold decStep
  split
  · exact ⟨by assumption, hb⟩
  · exact ⟨by simp only; omega, Nat.mod_lt _ (Nat.two_pow_pos _)⟩
theorem dec_foldl_acc (ns : List Nat) : ∀ s, (∀ n ∈ ns, n < 64) → DAcc s → DAcc (ns.foldl decStep s) := by
  induction ns with
  | nil => intro s _ h; exact h
  | cons x l ih =>
    intro s hx h
    exact ih _ (fun n hn => hx n (by simp [hn])) (decStep_acc s x (hx x (by simp)) h).1
theorem decStep_len (s : List UInt8 × Nat × Nat) (n : Nat) : (decStep s n).1.length ≤ s.1.length + 1 := by
  unfold decStep
  split <;> simp
theorem dec_foldl_len (ns : List Nat) : ∀ s, (ns.foldl decStep s).1.length ≤ s.1.length + ns.length := by
  induction ns with
  | nil => intro s; simp
  | cons x l ih =>
    intro s
    have h1 := ih (decStep s x)
    have h2 := decStep_len s x
    simp only [List.foldl_cons, List.length_cons]
    omega

/-- Four at a time. -/
def dec4 : List Nat → Option (List UInt8)
  | a :: b :: c :: d :: t => (dec4 t).map fun r => byt (a * 4 + b / 16) :: byt (b % 16 * 16 + c / 4) :: byt (c % 4 * 64 + d) :: r
  | [a, b, c] => if c % 4 = 0 then some [byt (a * 4 + b / 16), byt (b % 16 * 16 + c / 4)] else none
  | [a, b] => if b % 16 = 0 then some [byt (a * 4 + b / 16)] else none
  | [_] => none
  | [] => some []

theorem dstep_a (o : List UInt8) (a : Nat) : decStep (o, 0, 0) a = (o, a, 6) := by simp [decStep]
theorem dstep_b (o : List UInt8) (a b : Nat) (hb : b < 64) : decStep (o, a, 6) b = (o ++ [byt (a * 4 + b / 16)], b % 16, 4) := by
  have e1 : (a * 64 + b) / 16 = a * 4 + b / 16 := by omega
  have e2 : (a * 64 + b) % 16 = b % 16 := by omega
  simp [decStep, e1, e2]
theorem dstep_c (o : List UInt8) (b c : Nat) (hb : b < 16) (hc : c < 64) : decStep (o, b, 4) c = (o ++ [byt (b * 16 + c / 4)], c % 4, 2) := by
  have e1 : (b * 64 + c) / 4 = b * 16 + c / 4 := by omega
  have e2 : (b * 64 + c) % 4 = c % 4 := by omega
  simp [decStep, e1, e2]
theorem dstep_d (o : List UInt8) (c d : Nat) (hd : d < 64) : decStep (o, c, 2) d = (o ++ [byt (c * 64 + d)], 0, 0) := by
  simp [decStep, Nat.mod_one]

theorem foldl_dec4 : ∀ (ns : List Nat) (o : List UInt8), (∀ n ∈ ns, n < 64) → decEnd (ns.foldl decStep (o, 0, 0)) = (dec4 ns).map (o ++ ·)
  | [], o, _ => by simp [decEnd, dec4]
  | [a], o, _ => by simp [dstep_a, decEnd, dec4]
  | [a, b], o, h => by
    have hb : b < 64 := h b (by simp)
    simp only [List.foldl_cons, List.foldl_nil, dstep_a, dstep_b o a b hb, decEnd, dec4]
    by_cases e : b % 16 = 0 <;> simp [e]
  | [a, b, c], o, h => by
    have hb : b < 64 := h b (by simp)
    have hc : c < 64 := h c (by simp)
    simp only [List.foldl_cons, List.foldl_nil, dstep_a, dstep_b o a b hb, dstep_c _ (b % 16) c (by omega) hc, decEnd, dec4]
    by_cases e : c % 4 = 0 <;> simp [e]
  | a :: b :: c :: d :: t, o, h => by
    have hb : b < 64 := h b (by simp)
    have hc : c < 64 := h c (by simp)
    have hd : d < 64 := h d (by simp)
    simp only [List.foldl_cons, dstep_a, dstep_b o a b hb, dstep_c _ (b % 16) c (by omega) hc, dstep_d _ (c % 4) d hd]
    rw [foldl_dec4 t _ (fun n hn => h n (by simp [hn]))]
    cases h4 : dec4 t <;> simp [dec4, h4]

/-- The numbers of bytes. -/
def nums3 : List UInt8 → List Nat
  | x :: y :: z :: t => x.toNat / 4 :: (x.toNat % 4 * 16 + y.toNat / 16) :: (y.toNat % 16 * 4 + z.toNat / 64) :: (z.toNat % 64) :: nums3 t
  | [x, y] => [x.toNat / 4, x.toNat % 4 * 16 + y.toNat / 16, y.toNat % 16 * 4]
  | [x] => [x.toNat / 4, x.toNat % 4 * 16]
  | [] => []
theorem enc3_nums : ∀ l, enc3 l = (nums3 l).map lt64
  | [] => rfl
  | [x] => rfl
  | [x, y] => rfl
  | x :: y :: z :: t => by simp [enc3, nums3, enc3_nums t]
theorem nums3_lt : ∀ l, ∀ n ∈ nums3 l, n < 64
  | [] => by simp [nums3]
  | [x] => by
    have := x.toNat_lt
    intro n hn
    simp only [nums3, List.mem_cons, List.mem_nil_iff, or_false] at hn
    rcases hn with rfl | rfl <;> omega
  | [x, y] => by
    have := x.toNat_lt; have := y.toNat_lt
    intro n hn
    simp only [nums3, List.mem_cons, List.mem_nil_iff, or_false] at hn
    rcases hn with rfl | rfl | rfl <;> omega
  | x :: y :: z :: t => by
    have := x.toNat_lt; have := y.toNat_lt; have := z.toNat_lt
    intro n hn
    simp only [nums3, List.mem_cons] at hn
    rcases hn with rfl | rfl | rfl | rfl | hn
    · omega
    · omega
    · omega
    · omega
    · exact nums3_lt t n hn

theorem of_nat_toNat (x : UInt8) (n : Nat) (h : n = x.toNat) : byt n = x := by subst h; simp [byt]

theorem dec4_nums : ∀ l, dec4 (nums3 l) = some l
  | [] => rfl
  | [x] => by
    have := x.toNat_lt
    have e : byt (x.toNat / 4 * 4 + x.toNat % 4 * 16 / 16) = x := of_nat_toNat x _ (by omega)
    simp only [nums3, dec4]
    rw [if_pos (by omega), e]
  | [x, y] => by
    have := x.toNat_lt; have := y.toNat_lt
    have e1 : byt (x.toNat / 4 * 4 + (x.toNat % 4 * 16 + y.toNat / 16) / 16) = x := of_nat_toNat x _ (by omega)
    have e2 : byt ((x.toNat % 4 * 16 + y.toNat / 16) % 16 * 16 + y.toNat % 16 * 4 / 4) = y := of_nat_toNat y _ (by omega)
    simp only [nums3, dec4]
    rw [if_pos (by omega), e1, e2]
  | x :: y :: z :: t => by
    have := x.toNat_lt; have := y.toNat_lt; have := z.toNat_lt
    have e1 : byt (x.toNat / 4 * 4 + (x.toNat % 4 * 16 + y.toNat / 16) / 16) = x := of_nat_toNat x _ (by omega)
    have e2 : byt ((x.toNat % 4 * 16 + y.toNat / 16) % 16 * 16 + (y.toNat % 16 * 4 + z.toNat / 64) / 4) = y := of_nat_toNat y _ (by omega)
    have e3 : byt ((y.toNat % 16 * 4 + z.toNat / 64) % 4 * 64 + z.toNat % 64) = z := of_nat_toNat z _ (by omega)
    simp only [nums3, dec4, dec4_nums t, Option.map_some, e1, e2, e3]

theorem toNat_of (n : Nat) (h : n < 256) : (byt n).toNat = n := by unfold byt; rw [UInt8.toNat_ofNat']; omega

theorem nums_dec4 : ∀ (ns : List Nat) (b : List UInt8), (∀ n ∈ ns, n < 64) → dec4 ns = some b → nums3 b = ns
  | [], b, _, h => by simp [dec4] at h; subst h; rfl
  | [a], b, _, h => by simp [dec4] at h
  | [p, q], b, hl, h => by
    have hp : p < 64 := hl p (by simp)
    have hq : q < 64 := hl q (by simp)
    simp only [dec4] at h
    split at h
    · cases h
      simp only [nums3]
      rw [toNat_of _ (by omega)]
      congr 1
      · omega
      · congr 1; omega
    · cases h
  | [p, q, r], b, hl, h => by
    have hp : p < 64 := hl p (by simp)
    have hq : q < 64 := hl q (by simp)
    have hr : r < 64 := hl r (by simp)
    simp only [dec4] at h
    split at h
    · cases h
      simp only [nums3]
      rw [toNat_of (p * 4 + q / 16) (by omega), toNat_of (q % 16 * 16 + r / 4) (by omega)]
      congr 1
      · omega
      · congr 1
        · omega
        · congr 1; omega
    · cases h
  | p :: q :: r :: s :: t, b, hl, h => by
    have hp : p < 64 := hl p (by simp)
    have hq : q < 64 := hl q (by simp)
    have hr : r < 64 := hl r (by simp)
    have hs : s < 64 := hl s (by simp)
    simp only [dec4] at h
    cases ht : dec4 t with
    | none => rw [ht] at h; simp at h
    | some b' =>
      rw [ht] at h
      simp only [Option.map_some, Option.some.injEq] at h
      subst h
      simp only [nums3, nums_dec4 t b' (fun n hn => hl n (by simp [hn])) ht]
      rw [toNat_of (p * 4 + q / 16) (by omega), toNat_of (q % 16 * 16 + r / 4) (by omega), toNat_of (r % 4 * 64 + s) (by omega)]
      congr 1
      · omega
      · congr 1
        · omega
        · congr 1
          · omega
          · congr 1; omega

theorem nums_some (l : List UInt8) : ∀ ns, nums l = some ns → (∀ n ∈ ns, n < 64) ∧ ns.map lt64 = l := by
  induction l with
  | nil => intro ns h; simp [nums] at h; subst h; simp
  | cons x l ih =>
    intro ns h
    simp only [nums, List.mapM_cons, Option.pure_def, Option.bind_eq_bind, Option.bind_eq_some_iff] at h
    obtain ⟨k, hk, ms, hms, he⟩ := h
    cases he
    obtain ⟨h1, h2⟩ := num64_some x k hk
    obtain ⟨h3, h4⟩ := ih ms hms
    refine ⟨?_, by simp [h2, h4]⟩
    intro n hn
    rcases List.mem_cons.1 hn with rfl | hn
    · exact h1
    · exact h3 n hn

theorem nums_map (ns : List Nat) (h : ∀ n ∈ ns, n < 64) : nums (ns.map lt64) = some ns := by
  induction ns with
  | nil => rfl
  | cons x l ih =>
    have := ih (fun n hn => h n (by simp [hn]))
    simp only [nums] at this
    simp [nums, List.mapM_cons, num64_lt x (h x (by simp)), this]

theorem dec_eq (l : List UInt8) : dec l = match nums l with | none => none | some ns => dec4 ns := by
  unfold dec
  cases h : nums l with
  | none => rfl
  | some ns =>
    have := foldl_dec4 ns [] (nums_some l ns h).1
    simp only [this]
    cases dec4 ns <;> simp

theorem dec_enc (l : List UInt8) : dec (enc l) = some l := by
  rw [dec_eq, enc_eq, enc3_nums, nums_map _ (nums3_lt l)]
  exact dec4_nums l

theorem enc_dec (l b : List UInt8) (h : dec l = some b) : enc b = l := by
  rw [dec_eq] at h
  cases hn : nums l with
  | none => rw [hn] at h; cases h
  | some ns =>
    rw [hn] at h
    obtain ⟨h1, h2⟩ := nums_some l ns hn
    rw [enc_eq, enc3_nums, nums_dec4 ns b h1 h, h2]

theorem nums_snoc (l : List UInt8) (x : UInt8) (ns : List Nat) (k : Nat) (h : nums l = some ns) (hk : num64 x = some k) : nums (l ++ [x]) = some (ns ++ [k]) := by
  simp only [nums] at h
  simp [nums, List.mapM_append, h, List.mapM_cons, hk]
theorem nums_none (l : List UInt8) (j : Nat) (hj : j < l.length) (h : num64 l[j] = none) : nums l = none := by
  induction l generalizing j with
  | nil => simp at hj
  | cons x l ih =>
    cases j with
    | zero => simp only [List.getElem_cons_zero] at h; simp [nums, List.mapM_cons, h]
    | succ j =>
      have := ih j (by simpa using hj) (by simpa using h)
      simp only [nums] at this
      cases hx : num64 x <;> simp [nums, List.mapM_cons, hx, this]
theorem dec_none (l : List UInt8) (j : Nat) (hj : j < l.length) (h : num64 l[j] = none) : dec l = none := by
  unfold dec; rw [nums_none l j hj h]
theorem dec_some (l : List UInt8) (ns : List Nat) (h : nums l = some ns) : dec l = decEnd (ns.foldl decStep ([], 0, 0)) := by
  unfold dec; rw [h]
theorem nums_len (l : List UInt8) (ns : List Nat) (h : nums l = some ns) : ns.length = l.length := by
  have := (nums_some l ns h).2
  rw [← this, List.length_map]
end Go.Proofs.YtfdijcdpmgkdkaaGreatDoor
set_option linter.unusedVariables false
namespace Go.Proofs.YtfdijcdpmgkdkaaGreatDoor
open Go.RowKit

theorem wp_region_inv {P : Program} {id : Nat} {l : List Oper} {Q : Exit → Act → World → Prop} {a : Act} {w : World} (hm : P.follows .mixedOrders = true)
    (hac : ((List.range l.length).all fun i => ((l[i]?).map fun o => o.after.all fun e => !Region.binds .any e || decide (e.on < i)).getD true) = true)
    (I : (Nat → Bool) → Act → World → Prop) (h0 : I (fun _ => false) a w.drew)
    (step : ∀ b a w, I b a w → ∀ i o, l[i]? = some o → b i = false → (o.after.all fun e => !Region.binds .any e || b e.on) = true → wpOp P l.toArray Q i (I (fun j => if j = i then true else b j)) a w)
    (done : ∀ b a w, I b a w → (∀ i, i < l.length → b i = true) → Q .normal a w) : (Code.region id l.toArray true).wp P Q a w := by
  refine wp_region_any hm ?_
  have key : ∀ (fuel : Nat) (listed : Array Bool) (b : Nat → Bool) (a : Act) (w : World), listed.size = l.length → (∀ i, i < l.length → b i = listed.getD i false) → (∀ i, l.length ≤ i → b i = false) →
      ((List.range l.length).countP fun i => !b i) ≤ fuel → I b a w → wpAny P .any l.toArray Q fuel listed a w := by
    intro fuel
    induction fuel with
    | zero =>
      intro listed b a w hs hb hb2 hc hI
      have hall : ∀ i, i < l.length → b i = true := by
        intro i hi
        have h1 := List.countP_eq_zero.1 (Nat.le_zero.1 hc) i (List.mem_range.2 hi)
        simpa using h1
      refine ⟨?_, done b a w hI hall⟩
      rw [List.eq_nil_iff_forall_not_mem]
      intro j hj
      obtain ⟨h1, o, ho, _⟩ := mem_ready.1 hj
      have hj' : j < l.length := by
        have := (Array.getElem?_eq_some_iff.1 ho).1
        simpa using this
      have h2 := hall j hj'
      rw [hb j hj'] at h2
      have h3 : listed.getD j true = listed.getD j false := by
        have : j < listed.size := by omega
        simp [Array.getD, this]
      rw [h3, h2] at h1
      cases h1
    | succ fuel ih =>
      intro listed b a w hs hb hb2 hc hI
      refine ⟨?_, ?_⟩
      · intro hr
        refine done b a w hI ?_
        intro i
        induction i using Nat.strongRecOn with
        | _ i ihi =>
          intro hi
          cases hbi : b i with
          | true => rfl
          | false =>
            exfalso
            have hmem : i ∈ Region.ready .any l.toArray listed := by
              refine mem_ready.2 ⟨?_, l[i], by simp [hi], ?_⟩
              · have : i < listed.size := by omega
                have h2 := hb i hi
                rw [hbi] at h2
                simp [Array.getD, this] at h2 ⊢
                exact h2
              · have hac' := (List.all_eq_true.1 hac) i (List.mem_range.2 hi)
                simp only [List.getElem?_eq_getElem hi, Option.map_some, Option.getD_some, Array.all_eq_true_iff_forall_mem] at hac' ⊢
                intro e he
                have h1 := hac' e he
                cases hbd : Region.binds .any e with
                | false => simp
                | true =>
                  rw [hbd] at h1
                  simp at h1
                  have h4 := ihi e.on h1 (by omega)
                  rw [hb e.on (by omega)] at h4
                  simp [h4]
            rw [hr] at hmem
            cases hmem
      · intro i hi
        obtain ⟨h1, o, ho, hall⟩ := mem_ready.1 hi
        have hil : i < l.length := by
          have := (Array.getElem?_eq_some_iff.1 ho).1
          simpa using this
        have ho' : l[i]? = some o := by simpa using ho
        have his : i < listed.size := by omega
        have hbi : b i = false := by
          rw [hb i hil]
          simp [Array.getD, his] at h1 ⊢
          exact h1
        refine wpOp_mono ?_ (step b a w hI i o ho' hbi ?_)
        · intro a' w' hI'
          refine ih _ _ a' w' (by simp [hs]) ?_ ?_ ?_ hI'
          · intro j hj
            by_cases e : j = i
            · subst e
              simp [Array.getD, his]
            · rw [if_neg e, hb j hj]
              have hjs : j < listed.size := by omega
              simp [Array.getD, hjs, Ne.symm e]
          · intro j hj
            rw [if_neg (by omega)]
            exact hb2 j hj
          · have hlt : ((List.range l.length).countP fun j => !(if j = i then true else b j)) < ((List.range l.length).countP fun j => !b j) := by
              have h2 : ∀ (L : List Nat), i ∈ L → L.Nodup → (L.countP fun j => !(if j = i then true else b j)) + 1 = L.countP fun j => !b j := by
                intro L
                induction L with
                | nil => intro h; cases h
                | cons x L ihL =>
                  intro hm hn
                  obtain ⟨hx, hn⟩ := List.nodup_cons.1 hn
                  by_cases e : x = i
                  · subst e
                    have : (L.countP fun j => !(if j = x then true else b j)) = L.countP fun j => !b j := by
                      apply List.countP_congr
                      intro j hj
                      have : j ≠ x := fun e => hx (e ▸ hj)
                      simp [this]
                    rw [List.countP_cons, List.countP_cons, this]
                    simp [hbi]
                  · have hm' : i ∈ L := by
                      rcases List.mem_cons.1 hm with h | h
                      · exact absurd h.symm e
                      · exact h
                    have := ihL hm' hn
                    simp only [List.countP_cons, e, if_false]
                    omega
              have := h2 (List.range l.length) (List.mem_range.2 hil) List.nodup_range
              omega
            omega
        · simp only [Array.all_eq_true_iff_forall_mem] at hall ⊢
          intro e he
          have h2 := hall e he
          cases hbd : Region.binds .any e with
          | false => simp
          | true =>
            rw [hbd] at h2
            simp at h2
            have hac' := (List.all_eq_true.1 hac) i (List.mem_range.2 hil)
            simp only [ho', Option.map_some, Option.getD_some, Array.all_eq_true_iff_forall_mem] at hac'
            have h3 := hac' e he
            rw [hbd] at h3
            simp at h3
            rw [hb e.on (by omega)]
            simp
            have : e.on < listed.size := by omega
            simpa [this] using h2
  refine key _ _ (fun _ => false) a _ (by simp) ?_ (fun _ _ => rfl) ?_ h0
  · intro i hi
    simp [Array.getD, hi]
  · simp

theorem wpOp_plain {P : Program} {ops : Array Oper} {Q : Exit → Act → World → Prop} {i : Nat} {o : Oper} {K : Act → World → Prop} {a : Act} {w : World} (ho : ops[i]? = some o) (hg : o.guard = none)
    (h : Oper.wp P o a w K Q) : wpOp P ops Q i K a w := by
  unfold wpOp
  rw [ho]
  simp only [Region.wanted, hg, if_true]
  exact .inl h

/-- A scope with one label: the way to the label may use what a pass from the label does. -/
theorem wp_scope_again {P : Program} {c X : Code} {Q : Exit → Act → World → Prop} {a : Act} {w : World} (l : Nat) (J : Act → World → Prop) (μ : Act → World → Nat) (hf : findLabel c l = some (Code.skip.seq X))
    (pass : ∀ a w, J a w → X.wp P (Exit.jump l (fun a' w' => J a' w' ∧ μ a' w' < μ a w) Q) a w)
    (first : (∀ a w, J a w → X.wp P (Exit.jump l J Q) a w) → c.wp P (Exit.jump l J Q) a w) : (Code.scope c).wp P Q a w :=
  wp_scope_jumps l J μ hf (first fun a w h => Code.wp_mono (fun e a' w' q => by
    cases e with
    | goto l' => exact ⟨q.1, q.2.1⟩
    | normal => exact q
    | exit _ => exact q
    | ret => exact q
    | panic _ => exact q
    | outgrown => exact q) (pass a w h)) fun a w h => by
      apply wp_seq_k
      intro K hK
      apply wp_skip
      exact hK _ _ (pass a w h)
end Go.Proofs.YtfdijcdpmgkdkaaGreatDoor
set_option linter.unusedVariables false
namespace Go.Proofs.YtfdijcdpmgkdkaaGreatDoor
open Go.RowKit

/-- A frame that differs in the slots ds alone. -/
structure Fr (ds : List Nat) (a a' : Act) : Prop where
  defers : a'.defers = a.defers
  size : a'.tmps.size = a.tmps.size
  same : ∀ k, k ∉ ds → a'.tmps.getD k undef = a.tmps.getD k undef

theorem put_at (a : Act) (d : Nat) (v : Value) (h : d < a.tmps.size) : (a.put (some d) v).tmps.getD d undef = v := by
  simp [Act.put, Array.getD, h]
theorem put_other (a : Act) (d k : Nat) (v : Value) (h : k ≠ d) : (a.put (some d) v).tmps.getD k undef = a.tmps.getD k undef := by
  simp [Act.put, Array.getD_eq_getD_getElem?, Array.getElem?_setIfInBounds_ne (Ne.symm h)]
theorem Fr.refl (ds : List Nat) (a : Act) : Fr ds a a := ⟨rfl, rfl, fun _ _ => rfl⟩
theorem Fr.put {ds : List Nat} {a a' : Act} (h : Fr ds a a') {d : Nat} (hd : d ∈ ds) (v : Value) : Fr ds a (a'.put (some d) v) :=
  ⟨h.defers, by simpa [Act.put] using h.size, fun k hk => by
    rw [put_other a' d k v (fun e => hk (by rw [e]; exact hd))]
    exact h.same k hk⟩

theorem wp_region_grow {P : Program} {id : Nat} {l : List Oper} {Q : Exit → Act → World → Prop} {a : Act} {w : World} (hm : P.follows .mixedOrders = true)
    (hac : ((List.range l.length).all fun i => ((l[i]?).map fun o => o.after.all fun e => !Region.binds .any e || decide (e.on < i)).getD true) = true)
    (ds : List Nat) (hds : (l.map (·.dst)) = ds.map some) (hnd : ds.Nodup) (hlt : ds.all (fun d => decide (d < a.tmps.size)) = true)
    (V : Nat → Value → World → Prop) (hV : ∀ i v w1 w2, V i v w1 → Below w1.heap.size w1 w2 → V i v w2)
    (step : ∀ i o, l[i]? = some o → ∀ a' w', Fr ds a a' → Below w.heap.size w w' → (∀ j, (o.after.any fun e => Region.binds .any e && e.on == j) = true → V j (a'.tmps.getD (ds.getD j 0) undef) w') →
      wpOp P l.toArray Q i (fun a'' w'' => ∃ v, a'' = a'.put (some (ds.getD i 0)) v ∧ V i v w'' ∧ Below w'.heap.size w' w'') a' w')
    (done : ∀ a' w', Fr ds a a' → Below w.heap.size w w' → (∀ j, j < l.length → V j (a'.tmps.getD (ds.getD j 0) undef) w') → Q .normal a' w') :
    (Code.region id l.toArray true).wp P Q a w := by
  have hlen : l.length = ds.length := by have := congrArg List.length hds; simpa using this
  have hmem : ∀ j, j < l.length → ds.getD j 0 ∈ ds := by
    intro j hj
    rw [List.getD_eq_getElem?_getD, List.getElem?_eq_getElem (by omega)]
    exact List.getElem_mem _
  have hinj : ∀ i j, i < l.length → j < l.length → ds.getD i 0 = ds.getD j 0 → i = j := by
    intro i j hi hj e
    rw [List.getD_eq_getElem?_getD, List.getElem?_eq_getElem (by omega), List.getD_eq_getElem?_getD, List.getElem?_eq_getElem (by omega)] at e
    exact (List.getElem_inj hnd).1 e
  refine wp_region_inv hm hac (fun b a' w' => Fr ds a a' ∧ Below w.heap.size w w' ∧ ∀ j, j < l.length → b j = true → V j (a'.tmps.getD (ds.getD j 0) undef) w') ?_ ?_ ?_
  · exact ⟨Fr.refl _ _, (Below.refl _ _).drew, fun j _ h => by cases h⟩
  · rintro b a' w' ⟨hf, hb, hall⟩ i o ho hbi hpre
    have hil : i < l.length := (List.getElem?_eq_some_iff.1 ho).1
    refine wpOp_mono ?_ (step i o ho a' w' hf hb ?_)
    · rintro a'' w'' ⟨v, rfl, hv, hb'⟩
      refine ⟨hf.put (hmem i hil) v, hb.trans (hb'.mono hb.size), fun j hj hbj => ?_⟩
      by_cases e : j = i
      · subst e
        rw [put_at]
        · exact hv
        · rw [hf.size]
          have := (List.all_eq_true.1 hlt) _ (hmem j hil)
          simpa using this
      · simp only [e, if_false] at hbj
        rw [put_other _ _ _ _ (fun e' => e (hinj _ _ hj hil e'))]
        exact hV _ _ _ _ (hall j hj hbj) hb'
    · intro j hj
      obtain ⟨k, hk, hj⟩ := Array.any_eq_true.1 hj
      obtain ⟨e, he, e1⟩ : ∃ e, e ∈ o.after ∧ e = o.after[k] := ⟨_, Array.getElem_mem hk, rfl⟩
      rw [← e1] at hj
      simp only [Bool.and_eq_true, beq_iff_eq] at hj
      obtain ⟨hbd, rfl⟩ := hj
      have h1 : b e.on = true := by
        simp only [Array.all_eq_true_iff_forall_mem] at hpre
        have := hpre e he
        rw [hbd] at this
        simpa using this
      have h2 : e.on < i := by
        have hac' := (List.all_eq_true.1 hac) i (List.mem_range.2 hil)
        simp only [ho, Option.map_some, Option.getD_some, Array.all_eq_true_iff_forall_mem] at hac'
        have := hac' e he
        rw [hbd] at this
        simpa using this
      exact hall e.on (by omega) h1
  · rintro b a' w' ⟨hf, hb, hall⟩ hdone
    exact done a' w' hf hb fun j hj => hall j hj (hdone j hj)

theorem Fr.nil_eq {a a' : Act} (h : Fr [] a a') : a' = a := by
  cases a with
  | mk t d =>
    cases a' with
    | mk t' d' =>
      have h1 : d' = d := h.defers
      have h2 : t'.size = t.size := h.size
      have h3 : t' = t := by
        apply Array.ext h2
        intro i hi hi'
        have := h.same i (by simp)
        simp only [Array.getD_eq_getD_getElem?] at this
        rw [Array.getElem?_eq_getElem hi, Array.getElem?_eq_getElem hi'] at this
        simpa using this
      rw [h1, h3]
/-- The frame behind such a statement, written out. -/
theorem Fr.eq : ∀ {ds : List Nat} {a a' : Act} (vs : List Value), Fr ds a a' → (∀ j, j < ds.length → a'.tmps.getD (ds.getD j 0) undef = vs.getD j undef) → ds.Nodup → (ds.all fun d => decide (d < a.tmps.size)) = true → vs.length = ds.length →
    a' = (ds.zip vs).foldl (fun a x => a.put (some x.1) x.2) a
  | [], a, a', vs, h, _, _, _, _ => by simpa using h.nil_eq
  | d :: ds, a, a', [], h, _, _, _, hl => by simp at hl
  | d :: ds, a, a', v :: vs, h, hv, hnd, hlt, hl => by
    simp only [List.zip_cons_cons, List.foldl_cons]
    obtain ⟨hn1, hn2⟩ := List.nodup_cons.1 hnd
    simp only [List.all_cons, Bool.and_eq_true, decide_eq_true_eq] at hlt
    refine Fr.eq vs ⟨h.defers, by simpa [Act.put] using h.size, fun k hk => ?_⟩ (fun j hj => ?_) hn2 (by simpa [Act.put] using hlt.2) (by simpa using hl)
    · by_cases e : k = d
      · subst e
        rw [put_at _ _ _ hlt.1]
        exact hv 0 (by simp)
      · rw [put_other _ _ _ _ e]
        exact h.same k (by simp [e, hk])
    · exact hv (j + 1) (by simpa using hj)

/-- What an operation waits for. -/
def depsAt (l : List Oper) (j : Nat) : List Nat := ((l[j]?).map fun o => (o.after.toList.filter (Region.binds .any)).map (·.on)).getD []
/-- Whatever is done when all that j waits for is done: all ahead of j? -/
def coverGo (l : List Oper) : Nat → List Nat → Bool
  | 0, _ => true
  | i + 1, S => S.contains i && coverGo l i (S ++ depsAt l i)
theorem coverGo_all {l : List Oper} {b : Nat → Bool} (hcl : ∀ j, b j = true → ∀ x ∈ depsAt l j, b x = true) : ∀ (i : Nat) (S : List Nat), coverGo l i S = true → (∀ x ∈ S, b x = true) → ∀ x, x < i → b x = true
  | 0, _, _, _, x, hx => by omega
  | i + 1, S, h, hS, x, hx => by
    simp only [coverGo, Bool.and_eq_true, List.contains_iff_mem] at h
    have hi := hS i h.1
    by_cases e : x = i
    · subst e; exact hi
    · exact coverGo_all hcl i _ h.2 (fun y hy => by
        rcases List.mem_append.1 hy with h' | h'
        · exact hS y h'
        · exact hcl i hi y h') x (by omega)
theorem depsAt_mem {l : List Oper} {i : Nat} {o : Oper} (ho : l[i]? = some o) {x : Nat} : x ∈ depsAt l i ↔ (o.after.any fun e => Region.binds .any e && e.on == x) = true := by
  simp only [depsAt, ho, Option.map_some, Option.getD_some, List.mem_map, List.mem_filter, Array.any_eq_true, Bool.and_eq_true, beq_iff_eq]
  constructor
  · rintro ⟨e, ⟨he, hb⟩, rfl⟩
    obtain ⟨k, hk, rfl⟩ := Array.mem_iff_getElem.1 (Array.mem_toList_iff.1 he)
    exact ⟨k, hk, hb, rfl⟩
  · rintro ⟨k, hk, hb, rfl⟩
    exact ⟨_, ⟨Array.mem_toList_iff.2 (Array.getElem_mem hk), hb⟩, rfl⟩

theorem wpOp_of_list {P : Program} {l : List Oper} {Q : Exit → Act → World → Prop} {i : Nat} {o : Oper} {a : Act} {w : World} (ho : l[i]? = some o) (h : wpList P l.toArray Q (l.drop i) a w) : wpOp P l.toArray Q i (fun a' w' => wpList P l.toArray Q (l.drop (i + 1)) a' w') a w := by
  have hil : i < l.length := (List.getElem?_eq_some_iff.1 ho).1
  have e : l.drop i = o :: l.drop (i + 1) := by
    rw [List.drop_eq_getElem_cons hil]
    rw [List.getElem?_eq_getElem hil] at ho
    simp at ho
    rw [ho]
  rw [e] at h
  unfold wpOp
  rw [show l.toArray[i]? = some o by simpa using ho]
  exact h

/-- .. and then a few in a forced order. -/
theorem wp_region_grow_tail {P : Program} {id : Nat} {l : List Oper} {Q : Exit → Act → World → Prop} {a : Act} {w : World} (n : Nat) (hm : P.follows .mixedOrders = true)
    (hac : ((List.range l.length).all fun i => ((l[i]?).map fun o => o.after.all fun e => !Region.binds .any e || decide (e.on < i)).getD true) = true)
    (hn : n ≤ l.length) (hcov : ((List.range l.length).all fun j => decide (j < n) || coverGo l j (depsAt l j)) = true)
    (ds : List Nat) (hds : ((l.take n).map (·.dst)) = ds.map some) (hnd : ds.Nodup) (hlt : ds.all (fun d => decide (d < a.tmps.size)) = true)
    (V : Nat → Value → World → Prop) (hV : ∀ i v w1 w2, V i v w1 → Below w1.heap.size w1 w2 → V i v w2)
    (step : ∀ i o, (l.take n)[i]? = some o → ∀ a' w', Fr ds a a' → Below w.heap.size w w' → (∀ j, (o.after.any fun e => Region.binds .any e && e.on == j) = true → V j (a'.tmps.getD (ds.getD j 0) undef) w') →
      wpOp P l.toArray Q i (fun a'' w'' => ∃ v, a'' = a'.put (some (ds.getD i 0)) v ∧ V i v w'' ∧ Below w'.heap.size w' w'') a' w')
    (done : ∀ a' w', Fr ds a a' → Below w.heap.size w w' → (∀ j, j < n → V j (a'.tmps.getD (ds.getD j 0) undef) w') → wpList P l.toArray Q (l.drop n) a' w') :
    (Code.region id l.toArray true).wp P Q a w := by
  have hlen : n = ds.length := by have := congrArg List.length hds; simp at this; omega
  have hmem : ∀ j, j < n → ds.getD j 0 ∈ ds := by
    intro j hj
    rw [List.getD_eq_getElem?_getD, List.getElem?_eq_getElem (by omega)]
    exact List.getElem_mem _
  have hinj : ∀ i j, i < n → j < n → ds.getD i 0 = ds.getD j 0 → i = j := by
    intro i j hi hj e
    rw [List.getD_eq_getElem?_getD, List.getElem?_eq_getElem (by omega), List.getD_eq_getElem?_getD, List.getElem?_eq_getElem (by omega)] at e
    exact (List.getElem_inj hnd).1 e
  have hdeps : ∀ (b : Nat → Bool) i o, l[i]? = some o → (o.after.all fun e => !Region.binds .any e || b e.on) = true → ∀ x ∈ depsAt l i, b x = true := by
    intro b i o ho hpre x hx
    rw [depsAt_mem ho] at hx
    obtain ⟨k, hk, hj⟩ := Array.any_eq_true.1 hx
    simp only [Bool.and_eq_true, beq_iff_eq] at hj
    have := (Array.all_eq_true.1 hpre) k hk
    rw [hj.1, hj.2] at this
    simpa using this
  refine wp_region_inv hm hac (fun b a' w' => (∀ j, b j = true → ∀ x ∈ depsAt l j, b x = true) ∧
    (((∀ j, n ≤ j → b j = false) ∧ Fr ds a a' ∧ Below w.heap.size w w' ∧ ∀ j, j < n → b j = true → V j (a'.tmps.getD (ds.getD j 0) undef) w') ∨
     (∃ k, n ≤ k ∧ (∀ j, b j = true ↔ j < k) ∧ wpList P l.toArray Q (l.drop k) a' w'))) ?_ ?_ ?_
  · exact ⟨fun _ h => (by cases h), .inl ⟨fun _ _ => rfl, Fr.refl _ _, (Below.refl _ _).drew, fun j _ h => by cases h⟩⟩
  · rintro b a' w' ⟨hcl, hI⟩ i o ho hbi hpre
    have hil : i < l.length := (List.getElem?_eq_some_iff.1 ho).1
    have hdi := hdeps b i o ho hpre
    have hcl' : ∀ j, (if j = i then true else b j) = true → ∀ x ∈ depsAt l j, (if x = i then true else b x) = true := by
      intro j hj x hx
      by_cases ex : x = i
      · simp [ex]
      · simp only [ex, if_false]
        by_cases ej : j = i
        · subst ej; exact hdi x hx
        · simp only [ej, if_false] at hj; exact hcl j hj x hx
    have hcovi : n ≤ i → ∀ x, x < i → b x = true := by
      intro hni
      have := (List.all_eq_true.1 hcov) i (List.mem_range.2 hil)
      simp only [Bool.or_eq_true, decide_eq_true_eq] at this
      rcases this with h | h
      · omega
      · exact coverGo_all hcl i _ h hdi
    rcases hI with ⟨hno, hf, hb, hall⟩ | ⟨k, hk, hbk, hw⟩
    · by_cases hin : i < n
      · refine wpOp_mono ?_ (step i o (by rw [List.getElem?_take, if_pos hin]; exact ho) a' w' hf hb ?_)
        · rintro a'' w'' ⟨v, rfl, hv, hb'⟩
          refine ⟨hcl', .inl ⟨fun j hj => ?_, hf.put (hmem i hin) v, hb.trans (hb'.mono hb.size), fun j hj hbj => ?_⟩⟩
          · simp only [show j ≠ i by omega, if_false]; exact hno j hj
          · by_cases e : j = i
            · subst e
              rw [put_at]
              · exact hv
              · rw [hf.size]
                have := (List.all_eq_true.1 hlt) _ (hmem j hin)
                simpa using this
            · simp only [e, if_false] at hbj
              rw [put_other _ _ _ _ (fun e' => e (hinj _ _ hj hin e'))]
              exact hV _ _ _ _ (hall j hj hbj) hb'
        · intro j hj
          have h1 : b j = true := hdi j ((depsAt_mem ho).2 hj)
          have h2 : j < n := by
            rcases Nat.lt_or_ge j n with h | h
            · exact h
            · rw [hno j h] at h1; cases h1
          exact hall j h2 h1
      · have hc := hcovi (by omega)
        have ein : i = n := by
          rcases Nat.lt_or_ge n i with h | h
          · have := hc n h
            rw [hno n (Nat.le_refl _)] at this
            cases this
          · omega
        subst ein
        refine wpOp_mono ?_ (wpOp_of_list ho (done a' w' hf hb fun j hj => hall j hj (hc j hj)))
        intro a'' w'' hw'
        refine ⟨hcl', .inr ⟨i + 1, by omega, fun j => ?_, hw'⟩⟩
        by_cases e : j = i
        · simp [e]
        · simp only [e, if_false]
          constructor
          · intro h
            rcases Nat.lt_or_ge j i with h' | h'
            · omega
            · rw [hno j h'] at h; cases h
          · intro h; exact hc j (by omega)
    · have hki : i = k := by
        have h1 : ¬ i < k := fun h => by rw [(hbk i).2 h] at hbi; cases hbi
        have hc := hcovi (by omega)
        rcases Nat.lt_or_ge k i with h | h
        · have := (hbk k).1 (hc k h)
          omega
        · omega
      subst hki
      refine wpOp_mono ?_ (wpOp_of_list ho hw)
      intro a'' w'' hw'
      refine ⟨hcl', .inr ⟨i + 1, by omega, fun j => ?_, hw'⟩⟩
      by_cases e : j = i
      · simp [e]
      · simp only [e, if_false]
        rw [hbk j]
        omega
  · rintro b a' w' ⟨hcl, hI⟩ hdone
    rcases hI with ⟨hno, hf, hb, hall⟩ | ⟨k, hk, hbk, hw⟩
    · have hnl : l.length ≤ n := by
        rcases Nat.lt_or_ge n l.length with h | h
        · have := hdone n h
          rw [hno n (Nat.le_refl _)] at this
          cases this
        · exact h
      have := done a' w' hf hb fun j hj => hall j hj (hdone j (by omega))
      rw [List.drop_eq_nil_of_le hnl] at this
      exact this
    · have hkl : l.length ≤ k := by
        rcases Nat.lt_or_ge k l.length with h | h
        · have := (hbk k).1 (hdone k h)
          omega
        · exact h
      rw [List.drop_eq_nil_of_le hkl] at hw
      exact hw

/-- An operation that is carried out. -/
theorem grow_op {P : Program} {l : List Oper} {Q : Exit → Act → World → Prop} {i d : Nat} {o : Oper} {a : Act} {w : World} {V : Value → World → Prop} (ho : l[i]? = some o) (hw : Region.wanted o (yielded l.toArray a.tmps) = true) (hd : o.dst = some d)
    (h : o.wp P a w (fun a'' w'' => ∃ v, a'' = a.put o.dst v ∧ V v w'' ∧ Below w.heap.size w w'') Q) : wpOp P l.toArray Q i (fun a'' w'' => ∃ v, a'' = a.put (some d) v ∧ V v w'' ∧ Below w.heap.size w w'') a w := by
  unfold wpOp
  rw [show l.toArray[i]? = some o by simpa using ho]
  simp only [hw, if_true]
  rw [hd] at h
  exact .inl h
/-- .. or isn't. -/
theorem grow_no {P : Program} {l : List Oper} {Q : Exit → Act → World → Prop} {i d : Nat} {o : Oper} {a : Act} {w : World} {V : Value → World → Prop} (ho : l[i]? = some o) (hw : Region.wanted o (yielded l.toArray a.tmps) = false) (hd : o.dst = some d)
    (h : V undef w) : wpOp P l.toArray Q i (fun a'' w'' => ∃ v, a'' = a.put (some d) v ∧ V v w'' ∧ Below w.heap.size w w'') a w := by
  unfold wpOp
  rw [show l.toArray[i]? = some o by simpa using ho]
  simp only [hw]
  rw [hd]
  exact ⟨_, rfl, h, Below.refl _ _⟩

theorem run_enters {P : Program} {f : FuncId} {fn : Func} {c : Code} (hf : P.funcs[f]? = some fn) (hname : (fn.name == "runtime.NumGoroutine") = false) (hb : fn.body = some c) (args : Array Value) (w : World) :
    (callFunc f args).run P w = .ok (.enter f args) w := by
  have h1 : fn.name ≠ "runtime.NumGoroutine" := by simpa using hname
  simp [callFunc, hf, h1, hb]
theorem grow_wanted {l : List Oper} {o : Oper} {a : Act} {j d : Nat} {b : Bool} (hg : o.guard = some (j, b)) (hd : ((l[j]?).bind (·.dst)) = some d) (hv : a.tmps.getD d undef = .bool b) : Region.wanted o (yielded l.toArray a.tmps) = true := by
  have h1 : a.tmps[d]? = some (.bool b) := by
    rw [Array.getD_eq_getD_getElem?] at hv
    cases e : a.tmps[d]? with
    | none => rw [e] at hv; simp [undef] at hv
    | some x => rw [e] at hv; simpa using hv
  simp [Region.wanted, hg, yielded, hd, h1]

/-- What an operation leaves behind. -/
abbrev Grew (d : Option Nat) (V : Value → World → Prop) (a : Act) (w : World) : Act → World → Prop := fun a'' w'' => ∃ v, a'' = a.put d v ∧ V v w'' ∧ Below w.heap.size w w''

section
variable {P : Program} {Q : Exit → Act → World → Prop} {o : Oper} {a : Act} {w : World} {V : Value → World → Prop}
theorem grow_value {v : Value} {w' : World} (h : (execOp a.eval o).run P w = .ok (.value v) w') (hv : V v w') (hb : Below w.heap.size w w') : o.wp P a w (Grew o.dst V a w) Q := by
  unfold Oper.wp
  rw [h]
  exact ⟨v, rfl, hv, hb⟩
theorem grow_move {x : Operand} (ho : o.op = .move x) (hv : V (a.eval x) w) : o.wp P a w (Grew o.dst V a w) Q :=
  grow_value (by simp only [execOp, ho]; rfl) hv (Below.refl _ _)
theorem grow_assign {x : Operand} (ho : o.op = .assign x) (hv : V (a.eval x) w) : o.wp P a w (Grew o.dst V a w) Q :=
  grow_value (by simp only [execOp, ho]; rfl) hv (Below.refl _ _)
theorem grow_pick {c x y : Operand} {b : Bool} (ho : o.op = .pick c x y) (hc : a.eval c = .bool b) (hv : V (if b then a.eval x else a.eval y) w) : o.wp P a w (Grew o.dst V a w) Q :=
  grow_value (by simp only [execOp, ho, hc]; rfl) hv (Below.refl _ _)
theorem grow_convert {s d : TypeId} {x : Operand} {v : Value} (ho : o.op = .convert s d x) (hc : (convert s d (a.eval x)).run P w = .ok v w) (hv : V v w) : o.wp P a w (Grew o.dst V a w) Q :=
  grow_value (v := v) (by simp only [execOp, ho, Sem.run_bind, hc]; rfl) hv (Below.refl _ _)
theorem grow_call {f : FuncId} {xs : Array Operand} {ts : Array TypeId} (hf : ∀ args w, (callFunc f args).run P w = .ok (.enter f args) w) (ho : o.op = .call { callee := .value (.func f), args := xs, argTypes := ts })
    (h : Calls P f (xs.map a.eval) w fun e w' => ∃ v, e = .returned v ∧ V v w' ∧ Below w.heap.size w w') : o.wp P a w (Grew o.dst V a w) Q := by
  unfold Oper.wp
  have e : (execOp a.eval o).run P w = .ok (.enter f (xs.map a.eval)) w := by
    simp [execOp, ho, resolve, Act.eval, Deferred.ofValue, invoke, hf]
  rw [e]
  rw [Oper.upon_enter]
  refine h.mono ?_
  rintro e w' ⟨v, rfl, hv, hb⟩
  exact ⟨v, rfl, hv, hb⟩
end

/-- Values of which it is said what they are. -/
def VIs (x : Value) : Value → World → Prop := fun v _ => v = x
def Stab (V : Value → World → Prop) : Prop := ∀ v w1 w2, V v w1 → Below w1.heap.size w1 w2 → V v w2
theorem VIs.stab (x : Value) : Stab (VIs x) := fun _ _ _ h _ => h
theorem stab_list (Vs : List (Value → World → Prop)) (h : ∀ V ∈ Vs, Stab V) : ∀ i v w1 w2, (Vs.getD i fun _ _ => True) v w1 → Below w1.heap.size w1 w2 → (Vs.getD i fun _ _ => True) v w2 := by
  intro i v w1 w2 hv hb
  simp only [List.getD_eq_getElem?_getD] at *
  cases e : Vs[i]? with
  | none => simp
  | some V =>
    simp only [e, Option.getD_some] at hv ⊢
    exact h V (List.mem_of_getElem? e) v w1 w2 hv hb
end Go.Proofs.YtfdijcdpmgkdkaaGreatDoor
