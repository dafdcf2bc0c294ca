/- Merged: JsZa, MdH, RfQ, MdW, OpnI, JsZb. -/
import Derived.Laws.Cover4
import Derived.Lib.OthersKept
import Derived.Test.YtgcfikiajingcaaMg1
import Derived.Test.YtgcfikiajingcaaMg2
import Derived.Test.YtgcfikiajingcaaMg3
import Derived.Test.YtgcfikiajingcaaMg4
import Derived.Test.YtgcfikiajingcaaMg5
/- json: a text's characters, written in one of several ways, are read as it. Plain. -/
set_option linter.unusedVariables false
namespace Go.Proofs.Ytgcfikiajingcaa

/-- W is read as t, wherever it stands in a string. -/
def WR (W t : List UInt8) : Prop := ∀ (b r : List UInt8) (K : Nat), (W ++ r).length < K → ∃ K', r.length < K' ∧ textN K b (W ++ r) = textN K' (b ++ t) r
theorem WR.nil : WR [] [] := fun b r K h => ⟨K, by simpa using h, by simp⟩
theorem WR.app {W t W' t' : List UInt8} (h : WR W t) (h' : WR W' t') : WR (W ++ W') (t ++ t') := by
  intro b r K hK
  obtain ⟨K1, h1, e1⟩ := h b (W' ++ r) K (by simpa using hK)
  obtain ⟨K2, h2, e2⟩ := h' (b ++ t) r K1 h1
  exact ⟨K2, h2, by rw [List.append_assoc, e1, e2, List.append_assoc]⟩
theorem WR.raw {c : UInt8} (h1 : c ≠ 34) (h2 : c ≠ 92) (h3 : 32 ≤ c.toNat) : WR [c] [c] := by
  intro b r K hK
  obtain ⟨K, rfl⟩ : ∃ k, K = k + 1 := ⟨K - 1, by simp at hK; omega⟩
  refine ⟨K, by simp at hK; omega, ?_⟩
  rw [List.singleton_append, textN]
  simp only [h1, h2, if_false]
  rw [if_neg (by omega)]
theorem WR.raws : ∀ (l : List UInt8), (∀ c ∈ l, c ≠ 34 ∧ c ≠ 92 ∧ 32 ≤ c.toNat) → WR l l
  | [], _ => WR.nil
  | c :: l, h => by
    have h0 := h c (by simp)
    exact WR.app (W := [c]) (t := [c]) (WR.raw h0.1 h0.2.1 h0.2.2) (WR.raws l fun x hx => h x (by simp [hx]))
/-- A sign and what stands behind it. -/
theorem WR.esc {E t : List UInt8} (h : ∀ r, escR (E ++ r) = .ok t r) : WR (92 :: E) t := by
  intro b r K hK
  obtain ⟨K, rfl⟩ : ∃ k, K = k + 1 := ⟨K - 1, by simp at hK; omega⟩
  refine ⟨K, by simp at hK; omega, ?_⟩
  rw [List.cons_append, textN, if_neg (by decide), if_pos rfl, h r]
  rfl
def hex4 (n : Nat) : List UInt8 := [92, 117, lowL (n / 4096 % 16), lowL (n / 256 % 16), lowL (n / 16 % 16), lowL (n % 16)]
theorem hexV_low : ∀ n : Fin 16, hexV (lowL n.val) = some n.val := by decide +kernel
theorem hexV_lowL {n : Nat} (h : n < 16) : hexV (lowL n) = some n := hexV_low ⟨n, h⟩
theorem hexR_hex4 (n : Nat) (h : n < 65536) (r : List UInt8) : hexR (lowL (n / 4096 % 16) :: lowL (n / 256 % 16) :: lowL (n / 16 % 16) :: lowL (n % 16) :: r) = .ok n r := by
  unfold hexR hexN
  simp only [hexV_lowL (Nat.mod_lt (n / 4096) (by decide : 0 < 16))]
  unfold hexN
  simp only [hexV_lowL (Nat.mod_lt (n / 256) (by decide : 0 < 16))]
  unfold hexN
  simp only [hexV_lowL (Nat.mod_lt (n / 16) (by decide : 0 < 16))]
  unfold hexN
  simp only [hexV_lowL (Nat.mod_lt n (by decide : 0 < 16))]
  unfold hexN
  congr 1
  omega
theorem esc_u (r : List UInt8) : escR (117 :: r) = (unitR r).bind fun n r => .ok (utfL n) r := by
  have h : shortV 117 = none := by decide
  unfold escR
  simp only [h, if_true]
theorem WR.unit {n : Nat} (h : n < 55296 ∨ 57344 ≤ n) (h2 : n < 65536) : WR (hex4 n) (utfL n) := by
  refine WR.esc (E := [117, lowL (n / 4096 % 16), lowL (n / 256 % 16), lowL (n / 16 % 16), lowL (n % 16)]) fun r => ?_
  simp only [List.cons_append, List.nil_append]
  rw [esc_u]
  unfold unitR
  rw [hexR_hex4 n h2, PR.bind_ok, if_pos h]
  rfl
set_option maxRecDepth 10000 in
theorem WR.pair {n : Nat} (h : 65536 ≤ n) (h2 : n < 1114112) : WR (hex4 (55296 + (n - 65536) / 1024) ++ hex4 (56320 + (n - 65536) % 1024)) (utfL n) := by
  have e0 : hex4 (55296 + (n - 65536) / 1024) ++ hex4 (56320 + (n - 65536) % 1024) = 92 :: ((hex4 (55296 + (n - 65536) / 1024)).tail ++ hex4 (56320 + (n - 65536) % 1024)) := rfl
  rw [e0]
  refine WR.esc fun r => ?_
  have e1 : (hex4 (55296 + (n - 65536) / 1024)).tail ++ hex4 (56320 + (n - 65536) % 1024) ++ r = 117 :: lowL ((55296 + (n - 65536) / 1024) / 4096 % 16) :: lowL ((55296 + (n - 65536) / 1024) / 256 % 16) :: lowL ((55296 + (n - 65536) / 1024) / 16 % 16) :: lowL ((55296 + (n - 65536) / 1024) % 16) :: 92 :: 117 :: lowL ((56320 + (n - 65536) % 1024) / 4096 % 16) :: lowL ((56320 + (n - 65536) % 1024) / 256 % 16) :: lowL ((56320 + (n - 65536) % 1024) / 16 % 16) :: lowL ((56320 + (n - 65536) % 1024) % 16) :: r := rfl
  rw [e1, esc_u]
  unfold unitR
  obtain ⟨a, ha⟩ : ∃ a, 55296 + (n - 65536) / 1024 = a := ⟨_, rfl⟩
  obtain ⟨c, hc⟩ : ∃ c, 56320 + (n - 65536) % 1024 = c := ⟨_, rfl⟩
  rw [ha, hc, hexR_hex4 a (by omega), PR.bind_ok, if_neg (by omega), if_neg (by omega)]
  simp only
  rw [hexR_hex4 c (by omega), PR.bind_ok, if_neg (by omega), PR.bind_ok]
  have e : 65536 + (a - 55296) * 1024 + (c - 56320) = n := by omega
  rw [e]
/-- A character, written in a way. -/
def writtenL (n : Nat) (k : Int) : List UInt8 :=
  if k.tmod 3 = 0 ∧ 32 ≤ n ∧ n ≠ 34 ∧ n ≠ 92 then utfL n
  else if k.tmod 3 = 1 ∧ n < 128 ∧ (quoteC (UInt8.ofNat n)).length = 2 then quoteC (UInt8.ofNat n)
  else if 65536 ≤ n then hex4 (55296 + (n - 65536) / 1024) ++ hex4 (56320 + (n - 65536) % 1024)
  else hex4 n
theorem u8ofNat {n : Nat} (h : n < 256) : (UInt8.ofNat n).toNat = n := by rw [UInt8.toNat_ofNat']; omega
theorem utf_raws {n : Nat} (h : n < 1114112) (h1 : 32 ≤ n) (h2 : n ≠ 34) (h3 : n ≠ 92) : ∀ c ∈ utfL n, c ≠ 34 ∧ c ≠ 92 ∧ 32 ≤ c.toNat := by
  have key : ∀ m : Nat, m < 256 → 32 ≤ m → m ≠ 34 → m ≠ 92 → UInt8.ofNat m ≠ 34 ∧ UInt8.ofNat m ≠ 92 ∧ 32 ≤ (UInt8.ofNat m).toNat := by
    intro m hm q1 q2 q3
    refine ⟨fun e => q2 ?_, fun e => q3 ?_, by rw [u8ofNat hm]; exact q1⟩
    · have := congrArg UInt8.toNat e; rw [u8ofNat hm] at this; exact this
    · have := congrArg UInt8.toNat e; rw [u8ofNat hm] at this; exact this
  intro c hc
  unfold utfL at hc
  split at hc
  · simp only [List.mem_singleton] at hc
    subst hc
    exact key n (by omega) h1 h2 h3
  split at hc
  · simp only [List.mem_cons, List.not_mem_nil, or_false] at hc
    rcases hc with rfl | rfl <;> exact key _ (by omega) (by omega) (by omega) (by omega)
  split at hc
  · simp only [List.mem_cons, List.not_mem_nil, or_false] at hc
    rcases hc with rfl | rfl | rfl <;> exact key _ (by omega) (by omega) (by omega) (by omega)
  · simp only [List.mem_cons, List.not_mem_nil, or_false] at hc
    rcases hc with rfl | rfl | rfl | rfl <;> exact key _ (by omega) (by omega) (by omega) (by omega)
theorem WR.quoteC2 (c : UInt8) (h : (quoteC c).length = 2) : WR (quoteC c) [c] := by
  have key : ∀ c : UInt8, (decide ((quoteC c).length = 2) && !(match quoteC c with
      | [92, x] => shortV x == some c
      | _ => false)) = false := u8_all _ (by decide +kernel)
  have h1 := key c
  rw [decide_eq_true h, Bool.true_and, Bool.not_eq_false'] at h1
  split at h1
  · rename_i x hx
    rw [hx]
    refine WR.esc (E := [x]) fun r => ?_
    simp only [List.cons_append, List.nil_append]
    unfold escR
    simp only [eq_of_beq h1]
  · cases h1
theorem written_read (n : Nat) (k : Int) (h : n < 55296 ∨ 57344 ≤ n) (h2 : n < 1114112) : WR (writtenL n k) (utfL n) := by
  unfold writtenL
  split
  · rename_i hc
    exact WR.raws _ (utf_raws h2 hc.2.1 hc.2.2.1 hc.2.2.2)
  split
  · rename_i hc
    have : utfL n = [UInt8.ofNat n] := by unfold utfL; rw [if_pos hc.2.1]
    rw [this]
    exact WR.quoteC2 _ hc.2.2
  split
  · exact WR.pair (by assumption) h2
  · exact WR.unit h (by omega)
theorem lowL_low : ∀ n : Fin 16, (lowL n.val).toNat < 128 := by decide +kernel
theorem told_hex4 (n : Nat) : toldB (hex4 n) = true := by
  refine told_lows _ fun c hc => ?_
  have hl : ∀ m, (lowL (m % 16)).toNat < 128 := fun m => lowL_low ⟨m % 16, Nat.mod_lt _ (by decide)⟩
  simp only [hex4, List.mem_cons, List.not_mem_nil, or_false] at hc
  rcases hc with rfl | rfl | rfl | rfl | rfl | rfl
  · decide
  · decide
  all_goals exact hl _
theorem told_written (n : Nat) (k : Int) (hu : toldB (utfL n) = true) : toldB (writtenL n k) = true := by
  unfold writtenL
  split
  · exact hu
  split
  · rename_i hc
    exact told_lows _ (quoteC_low _ (by rw [u8ofNat (by omega)]; exact hc.2.1))
  split
  · exact told_cat (told_hex4 _) (told_hex4 _)
  · exact told_hex4 _
theorem written_len (n : Nat) (k : Int) : (writtenL n k).length ≤ 12 := by
  unfold writtenL
  split
  · unfold utfL; repeat' split
    all_goals simp
  split
  · rename_i hc; rw [hc.2.2]; omega
  split
  · simp [hex4]
  · simp [hex4]
/-- A string of what is read so. -/
theorem text_WR {W t : List UInt8} (h : WR W t) : textR (34 :: (W ++ [34])) = .ok t [] := by
  unfold textR
  rw [show mustL 34 (34 :: (W ++ [34])) = .ok () (W ++ [34]) by simp [mustL], PR.bind_ok]
  obtain ⟨K', h1, e1⟩ := h [] [34] ((W ++ [34]).length + 1) (by omega)
  rw [e1]
  obtain ⟨K', rfl⟩ : ∃ k, K' = k + 1 := ⟨K' - 1, by simp at h1; omega⟩
  rw [textN, if_pos rfl]
  simp
theorem parse_WR {W t : List UInt8} (h : WR W t) (ht : toldB W = true) (hl : W.length ≤ 10000) : parseL (34 :: (W ++ [34])) 1 = (jstr t, 0) := by
  unfold parseL
  rw [if_neg (by simp; omega), if_neg (by omega), if_neg (by
    have h1 : toldB (34 :: (W ++ [34])) = true := told_cons (by decide) (told_cat ht (told_low (by decide)))
    rw [h1]; decide)]
  have e : wholeR (Int.toNat 1) (34 :: (W ++ [34])) = .ok (jstr t) [] := by
    unfold wholeR
    have hb : blankL (34 :: (W ++ [34])) = 34 :: (W ++ [34]) := blank_stop _ (by decide)
    rw [hb, val_str, text_WR h, PR.bind_ok, PR.bind_ok]
    rfl
  rw [e]
/-- A character that Go reads is written by its own bytes. -/
theorem utf_dec (n b0 b1 b2 b3 : Nat) (h0 : b0 < 256) (h1 : b1 < 256) (h2 : b2 < 256) (h3 : b3 < 256) (hn : 1 ≤ n) (hc : chrV n b0 b1 b2 b3 ≠ 0) :
    ∃ c m, Lib.decodeN n b0 b1 b2 b3 = (c, m) ∧ chrV n b0 b1 b2 b3 = m ∧ 1 ≤ m ∧ m ≤ n ∧ (c < 55296 ∨ 57344 ≤ c) ∧ c < 1114112 ∧ utfL c = ([b0, b1, b2, b3].take m).map UInt8.ofNat := by
  by_cases a1 : b0 < 128
  · obtain ⟨e1, e2⟩ := dec_chr_ascii n b0 b1 b2 b3 a1
    refine ⟨b0, 1, e1, e2, by omega, hn, by omega, by omega, ?_⟩
    unfold utfL
    rw [if_pos a1]
    rfl
  unfold Lib.decodeN
  unfold chrV at hc ⊢
  rw [if_neg a1] at hc ⊢
  rw [if_neg a1]
  by_cases a2 : b0 < 194
  · rw [if_pos a2] at hc; exact absurd rfl hc
  rw [if_neg a2] at hc ⊢
  by_cases a3 : b0 < 224
  · rw [if_pos a3] at hc ⊢
    split at hc
    · rename_i q
      rw [if_pos q, if_pos (by omega), if_pos (by omega)]
      refine ⟨_, _, rfl, rfl, by omega, by omega, by omega, by omega, ?_⟩
      unfold utfL
      rw [if_neg (by omega), if_pos (by omega)]
      simp only [List.take, List.map]
      congr 1
      · congr 1; omega
      · congr 2; omega
    · exact absurd rfl hc
  rw [if_neg a3] at hc ⊢
  by_cases a4 : b0 < 240
  · rw [if_pos a4] at hc ⊢
    obtain ⟨lo, hlo, l1, l2⟩ : ∃ lo, (if b0 = 224 then 160 else 128) = lo ∧ 128 ≤ lo ∧ (b0 = 224 → 160 ≤ lo) := by refine ⟨_, rfl, ?_, ?_⟩ <;> split <;> omega
    obtain ⟨hi, hhi, i1, i2⟩ : ∃ hi, (if b0 = 237 then 159 else 191) = hi ∧ hi ≤ 191 ∧ (b0 = 237 → hi ≤ 159) := by refine ⟨_, rfl, ?_, ?_⟩ <;> split <;> omega
    rw [hlo, hhi] at hc ⊢
    by_cases q : (1 < n ∧ lo ≤ b1 ∧ b1 ≤ hi) ∧ 2 < n ∧ 128 ≤ b2 ∧ b2 ≤ 191
    · rw [if_pos q, if_neg (by omega), if_pos (by omega), if_pos (by omega)]
      refine ⟨_, _, rfl, rfl, by omega, by omega, by omega, by omega, ?_⟩
      unfold utfL
      rw [if_neg (by omega), if_neg (by omega), if_pos (by omega)]
      simp only [List.take, List.map]
      congr 1
      · congr 1; omega
      · congr 1
        · congr 1; omega
        · congr 2; omega
    · rw [if_neg q] at hc; exact absurd rfl hc
  rw [if_neg a4] at hc ⊢
  by_cases a5 : b0 < 245
  · rw [if_pos a5] at hc ⊢
    obtain ⟨lo, hlo, l1, l2⟩ : ∃ lo, (if b0 = 240 then 144 else 128) = lo ∧ 128 ≤ lo ∧ (b0 = 240 → 144 ≤ lo) := by refine ⟨_, rfl, ?_, ?_⟩ <;> split <;> omega
    obtain ⟨hi, hhi, i1, i2⟩ : ∃ hi, (if b0 = 244 then 143 else 191) = hi ∧ hi ≤ 191 ∧ (b0 = 244 → hi ≤ 143) := by refine ⟨_, rfl, ?_, ?_⟩ <;> split <;> omega
    rw [hlo, hhi] at hc ⊢
    by_cases q : ((1 < n ∧ lo ≤ b1 ∧ b1 ≤ hi) ∧ 2 < n ∧ 128 ≤ b2 ∧ b2 ≤ 191) ∧ 3 < n ∧ 128 ≤ b3 ∧ b3 ≤ 191
    · rw [if_pos q, if_neg (by omega), if_neg (by omega), if_pos (by omega), if_pos (by omega)]
      refine ⟨_, _, rfl, rfl, by omega, by omega, by omega, by omega, ?_⟩
      unfold utfL
      rw [if_neg (by omega), if_neg (by omega), if_neg (by omega)]
      simp only [List.take, List.map]
      congr 1
      · congr 1; omega
      · congr 1
        · congr 1; omega
        · congr 1
          · congr 1; omega
          · congr 2; omega
    · rw [if_neg q] at hc; exact absurd rfl hc
  · rw [if_neg a5] at hc; exact absurd rfl hc
/-- What Go reads at a place of a told text. -/
theorem utf_at (S : List UInt8) (i : Nat) (h : i < S.length) (hc : chr (S.drop i) ≠ 0) :
    ∃ c m, Utf8.decode ⟨S.toArray⟩ i = (c, m) ∧ chr (S.drop i) = m ∧ 1 ≤ m ∧ i + m ≤ S.length ∧ (c < 55296 ∨ 57344 ≤ c) ∧ c < 1114112 ∧ utfL c = (S.drop i).take m := by
  rw [Lib.decode_at]
  have hg : ∀ k, (⟨S.toArray⟩ : ByteArray).get! k = S.getD k 0 := by
    intro k
    show S.toArray.getD k default = _
    simp [List.getD_eq_getElem?_getD]
    rfl
  have hs : (⟨S.toArray⟩ : ByteArray).size = S.length := by simp [ByteArray.size]
  rw [hg, hg, hg, hg, hs]
  have hv := chr_val (S.drop i)
  simp only [getD_drop, List.length_drop, Nat.add_zero] at hv
  rw [hv] at hc ⊢
  obtain ⟨c, m, e1, e2, e3, e4, e5, e6, e7⟩ := utf_dec (S.length - i) (S.getD i 0).toNat (S.getD (i + 1) 0).toNat (S.getD (i + 2) 0).toNat (S.getD (i + 3) 0).toNat (UInt8.toNat_lt _) (UInt8.toNat_lt _) (UInt8.toNat_lt _) (UInt8.toNat_lt _) (by omega) hc
  refine ⟨c, m, e1, e2, e3, by omega, e5, e6, ?_⟩
  rw [e7]
  have hm4 : m ≤ 4 := by have := chr_le (S.drop i); omega
  apply List.ext_getElem
  · simp
    omega
  · intro j h1 h2
    simp only [List.length_map, List.length_take] at h1
    have hj : j < m := by omega
    have hi : i + j < S.length := by omega
    have hsj : (S.drop i |>.take m)[j] = S.getD (i + j) 0 := by
      rw [List.getElem_take, List.getElem_drop]
      simp [List.getD_eq_getElem?_getD, hi]
    rw [hsj]
    simp only [List.getElem_map, List.getElem_take]
    have h4 : j = 0 ∨ j = 1 ∨ j = 2 ∨ j = 3 := by omega
    rcases h4 with rfl | rfl | rfl | rfl <;> simp [UInt8.ofNat_toNat]
end Go.Proofs.Ytgcfikiajingcaa
/- What the statements need: a number's four digits. -/
set_option linter.unusedVariables false
namespace Go.Proofs.Ytgcfikiajingcaa
open Go.RowKit

def hexO (n : Nat) : Nat → Nat × List UInt8
  | 0 => (n, [])
  | j + 1 => ((hexO n j).1 / 16, lowL ((hexO n j).1 % 16) :: (hexO n j).2)
theorem hexO_len (n : Nat) : ∀ j, (hexO n j).2.length = j
  | 0 => rfl
  | j + 1 => by rw [hexO, List.length_cons, hexO_len n j]
theorem hexO_le (n : Nat) : ∀ j, (hexO n j).1 ≤ n
  | 0 => Nat.le_refl _
  | j + 1 => Nat.le_trans (Nat.div_le_self _ _) (hexO_le n j)
theorem hexO_4 (n : Nat) : 92 :: 117 :: (hexO n 4).2 = hex4 n := by
  simp only [hexO, hex4, Nat.div_div_eq_div_mul]
set_option maxRecDepth 100000 in
set_option maxHeartbeats 8000000 in
theorem madehex_any (n : Nat) (I : Int) (hI : I = (n : Int)) (w : World) (hn : n ≤ 10000000) :
    Calls Try.prog 24 #[.int .i64 I] w fun e w' => e = .returned (.string ⟨(hex4 n).toArray⟩) ∧ w' = w := by
  subst hI
  go_enter Try.func24, Try.ntmps24
  go_wp2_with fail
  go_loopg [0, 3, 4] 4 (fun k nv out cv wr => ∃ (j m : Nat) (T : List UInt8), nv = .int .i64 (m : Int) ∧ out = .string ⟨T.toArray⟩ ∧ cv = .int .i64 (j : Int) ∧ j + k = 4 ∧ m ≤ 10000000 ∧ T.length ≤ 4 ∧ Hid (hexO n j = (m, T)) ∧ wr = w)
  case atStart => exact ⟨0, n, [], rfl, rfl, rfl, by omega, hn, by simp, Lib.hid rfl, rfl⟩
  case round =>
    obtain ⟨j, m, T, rfl, rfl, rfl, hj, hm, hT, HO, rfl⟩ := hrel
    by_cases hlt : j < 4
    · have hltI : (j : Int) < 4 := by omega
      have hs := fun w => lows_slice64 (m % 16) (by omega) (((m : Nat) : Int) % 16) (((m : Nat) : Int) % 16 + 1) (by omega) (by omega) w
      have HN : Hid (hexO n (j + 1) = (m / 16, lowL (m % 16) :: T)) := Lib.hid (by rw [hexO, HO.out])
      have hl := hexO_len n (j + 1)
      rw [HN.out] at hl
      simp only at hl
      go_wp2_with fail
      go_roundg (gk - 1)
      case measure => omega
      case rel => exact ⟨j + 1, m / 16, lowL (m % 16) :: T, by first | rfl | (congr 1), by exact congrArg Value.string (st_cat [lowL (m % 16)] T), by first | rfl | (congr 1), by omega, by omega, by omega, HN, rfl⟩
    · have hge : ¬ (j : Int) < 4 := by omega
      obtain rfl : j = 4 := by omega
      have HE : Hid (92 :: 117 :: T = hex4 n) := Lib.hid (by rw [← hexO_4, HO.out])
      go_wp2_with fail
      refine bodyPost_ret (results_tmp rfl _ _ _) rfl ?_
      exact ⟨by rw [← HE.out]; exact congrArg (fun x => Ending.returned (Value.string x)) (st_cat [92, 117] T), rfl⟩
end Go.Proofs.Ytgcfikiajingcaa
/- The document's Quote. -/
set_option linter.unusedVariables false
namespace Go.Proofs.Ytgcfikiajingcaa
open Go.RowKit

def shortsL : List UInt8 := [98, 102, 110, 114, 116, 34, 92]
def meansL : List UInt8 := [8, 12, 10, 13, 9, 34, 92]
/-- A byte's text, when k of the short ones have been looked at. -/
def stK (c : UInt8) : Nat → List UInt8
  | 0 => if c.toNat < 32 then [92, 117, 48, 48, lowL (c.toNat / 16), lowL (c.toNat % 16)] else [c]
  | k + 1 => if meansL.getD k 0 = c then [92, shortsL.getD k 0] else stK c k
theorem stK7 : ∀ c, stK c 7 = quoteC c := u8_all _ (by decide +kernel)
theorem short_at (c : UInt8) (j : Nat) (hj : j < 7) : ∃ mj sj : UInt8, (∀ w, (Instr.index 9 (.string ⟨#[8, 12, 10, 13, 9, 34, 92]⟩) (.int .i64 (j : Int))).run Try.prog w = .ok (.int .u8 (mj.toNat : Nat)) w) ∧
    (∀ w, (Instr.slice 9 (.string ⟨#[98, 102, 110, 114, 116, 34, 92]⟩) (some (.int .i64 (j : Int))) (some (.int .i64 ((j : Int) + 1))) none).run Try.prog w = .ok (.string ⟨#[sj]⟩) w) ∧
    stK c (j + 1) = if mj = c then [92, sj] else stK c j := by
  have h1 : j < meansL.length := hj
  have h2 : j < shortsL.length := hj
  refine ⟨meansL[j], shortsL[j], fun w => str_at meansL j h1 w, fun w => st_one shortsL j h2 w, ?_⟩
  show (if meansL.getD j 0 = c then [92, shortsL.getD j 0] else stK c j) = _
  rw [List.getD_eq_getElem?_getD, List.getD_eq_getElem?_getD, List.getElem?_eq_getElem h1, List.getElem?_eq_getElem h2]
  rfl
set_option maxRecDepth 100000 in
set_option maxHeartbeats 8000000 in
theorem refquote_any (s : List UInt8) (w : World) (hs : s.length ≤ 1000000) :
    Calls Try.prog 12 #[.string ⟨s.toArray⟩] w fun e w' => e = .returned (.string ⟨(quoteL s).toArray⟩) ∧ Below w.heap.size w w' := by
  go_enter Try.func12, Try.ntmps12
  go_wp2_with fail
  go_loopg [5, 6] s.length (fun k out iv wr => ∃ i : Nat, out = .string ⟨(34 :: (s.take i).flatMap quoteC).toArray⟩ ∧ iv = .int .i64 (i : Int) ∧ i + k = s.length ∧ Hid (Below w.heap.size w wr))
  case atStart => exact ⟨0, rfl, rfl, by omega, Lib.hid (Below.refl _ _)⟩
  case round =>
    obtain ⟨i, rfl, rfl, hi, HB⟩ := hrel
    by_cases hlt : i < s.length
    · have hltI : (i : Int) < (s.length : Int) := by omega
      have hix := fun w => str_at s i hlt w
      have hsl := fun w => st_one s i hlt w
      have HT : Hid ((s.take (i + 1)).flatMap quoteC = (s.take i).flatMap quoteC ++ quoteC s[i]) := Lib.hid (by rw [List.take_succ_eq_append_getElem hlt, List.flatMap_append]; simp [List.flatMap_cons])
      generalize s[i] = c at *
      have hc256 := UInt8.toNat_lt c
      obtain ⟨E, hE⟩ : ∃ E, 34 :: (s.take i).flatMap quoteC = E := ⟨_, rfl⟩
      have hel : E.length ≤ 6000001 := by
        rw [← hE, List.length_cons]
        have h1 := quote_len6 (s.take i)
        have h2 : (s.take i).length ≤ s.length := by rw [List.length_take]; omega
        omega
      rw [hE]
      have HE := Lib.hid hE
      clear hE
      obtain ⟨gO, hgO⟩ : ∃ x : Nat, x = gk := ⟨_, rfl⟩
      by_cases hlo : c.toNat < 32
      · have hloI : decide (((c.toNat : Nat) : Int) < 32) = true := decide_eq_true (by omega)
        have HS0 : Hid ([92, 117, 48, 48, lowL (c.toNat / 16), lowL (c.toNat % 16)] = stK c 0) := Lib.hid (by unfold stK; rw [if_pos hlo])
        have hs1 := fun w => lows_slice8 (c.toNat / 16) (by omega) (((c.toNat : Nat) : Int) / 16) (((c.toNat : Nat) : Int) / 16 + 1) (by omega) (by omega) w
        have hs2 := fun w => lows_slice8 (c.toNat % 16) (by omega) (((c.toNat : Nat) : Int) % 16) (((c.toNat : Nat) : Int) % 16 + 1) (by omega) (by omega) w
        go_upto_region 9 with (fail)
        go_quiet (fail)
        go_wp2_with fail
        go_loopg [7, 8] 7 (fun k cv kv wr2 => ∃ j : Nat, cv = .string ⟨(stK c j).toArray⟩ ∧ kv = .int .i64 (j : Int) ∧ j + k = 7 ∧ Hid (Below w.heap.size w wr2))
        case atStart => exact ⟨0, by rw [← HS0.out]; rfl, rfl, by omega, Lib.hid (below_drewN HB.out _)⟩
        case round =>
          obtain ⟨j, rfl, rfl, hj, HB2⟩ := hrel
          by_cases hlt2 : j < 7
          · have hltJ : (j : Int) < 7 := by omega
            obtain ⟨mj, sj, hmx, hsx, hm⟩ := short_at c j hlt2
            have HM := Lib.hid hm
            clear hm
            by_cases e : mj = c
            · subst e
              have HN : Hid (stK mj (j + 1) = [92, sj]) := Lib.hid (by rw [HM.out, if_pos rfl])
              have qb : (((mj.toNat : Nat) : Int) == ((mj.toNat : Nat) : Int)) = true := by simp
              clear HM
              go_wp2_with fail
              go_quiet (fail)
              go_wp2_with fail
              go_roundg (gk - 1)
              case measure => omega
              case rel => exact ⟨j + 1, by rw [HN.out]; rfl, rfl, by omega, Lib.hid (below_drewN HB2.out _)⟩
            · have HN : Hid (stK c (j + 1) = stK c j) := Lib.hid (by rw [HM.out, if_neg e])
              have qb : (((mj.toNat : Nat) : Int) == ((c.toNat : Nat) : Int)) = false := by
                rw [beq_eq_false_iff_ne]
                exact fun h => e (UInt8.toNat_inj.1 (by omega))
              clear HM
              go_wp2_with fail
              go_quiet (fail)
              go_wp2_with fail
              go_roundg (gk - 1)
              case measure => omega
              case rel => exact ⟨j + 1, by rw [HN.out], rfl, by omega, Lib.hid (below_drewN HB2.out _)⟩
          · have hgeJ : ¬ (j : Int) < 7 := by omega
            obtain rfl : j = 7 := by omega
            obtain ⟨T, hT⟩ : ∃ T, stK c 7 = T := ⟨_, rfl⟩
            have htl : T.length ≤ 6 := by rw [← hT, stK7]; exact quoteC_six c
            have HX : Hid (E ++ T = 34 :: (s.take (i + 1)).flatMap quoteC) := Lib.hid (by rw [HT.out, ← HE.out, ← hT, stK7]; rfl)
            rw [hT]
            clear hT
            go_wp2_with fail
            go_roundg (gO - 1)
            case measure => omega
            case rel => exact ⟨i + 1, by rw [← HX.out]; exact congrArg Value.string (st_cat E T), rfl, by omega, HB2⟩
      · have hloI : decide (((c.toNat : Nat) : Int) < 32) = false := decide_eq_false (by omega)
        have HS0 : Hid ([c] = stK c 0) := Lib.hid (by unfold stK; rw [if_neg hlo])
        go_wp2_with fail
        go_loopg [7, 8] 7 (fun k cv kv wr2 => ∃ j : Nat, cv = .string ⟨(stK c j).toArray⟩ ∧ kv = .int .i64 (j : Int) ∧ j + k = 7 ∧ Hid (Below w.heap.size w wr2))
        case atStart => exact ⟨0, by rw [← HS0.out], rfl, by omega, HB⟩
        case round =>
          obtain ⟨j, rfl, rfl, hj, HB2⟩ := hrel
          by_cases hlt2 : j < 7
          · have hltJ : (j : Int) < 7 := by omega
            obtain ⟨mj, sj, hmx, hsx, hm⟩ := short_at c j hlt2
            have HM := Lib.hid hm
            clear hm
            by_cases e : mj = c
            · subst e
              have HN : Hid (stK mj (j + 1) = [92, sj]) := Lib.hid (by rw [HM.out, if_pos rfl])
              have qb : (((mj.toNat : Nat) : Int) == ((mj.toNat : Nat) : Int)) = true := by simp
              clear HM
              go_wp2_with fail
              go_quiet (fail)
              go_wp2_with fail
              go_roundg (gk - 1)
              case measure => omega
              case rel => exact ⟨j + 1, by rw [HN.out]; rfl, rfl, by omega, Lib.hid (below_drewN HB2.out _)⟩
            · have HN : Hid (stK c (j + 1) = stK c j) := Lib.hid (by rw [HM.out, if_neg e])
              have qb : (((mj.toNat : Nat) : Int) == ((c.toNat : Nat) : Int)) = false := by
                rw [beq_eq_false_iff_ne]
                exact fun h => e (UInt8.toNat_inj.1 (by omega))
              clear HM
              go_wp2_with fail
              go_quiet (fail)
              go_wp2_with fail
              go_roundg (gk - 1)
              case measure => omega
              case rel => exact ⟨j + 1, by rw [HN.out], rfl, by omega, Lib.hid (below_drewN HB2.out _)⟩
          · have hgeJ : ¬ (j : Int) < 7 := by omega
            obtain rfl : j = 7 := by omega
            obtain ⟨T, hT⟩ : ∃ T, stK c 7 = T := ⟨_, rfl⟩
            have htl : T.length ≤ 6 := by rw [← hT, stK7]; exact quoteC_six c
            have HX : Hid (E ++ T = 34 :: (s.take (i + 1)).flatMap quoteC) := Lib.hid (by rw [HT.out, ← HE.out, ← hT, stK7]; rfl)
            rw [hT]
            clear hT
            go_wp2_with fail
            go_roundg (gO - 1)
            case measure => omega
            case rel => exact ⟨i + 1, by rw [← HX.out]; exact congrArg Value.string (st_cat E T), rfl, by omega, HB2⟩
    · have hge : ¬ (i : Int) < (s.length : Int) := by omega
      obtain ⟨E, hE⟩ : ∃ E, 34 :: (s.take i).flatMap quoteC = E := ⟨_, rfl⟩
      have hel : E.length ≤ 6000001 := by
        rw [← hE, List.length_cons]
        have h1 := quote_len6 (s.take i)
        have h2 : (s.take i).length ≤ s.length := by rw [List.length_take]; omega
        omega
      have HX : Hid (E ++ [34] = quoteL s) := Lib.hid (by rw [← hE, List.take_of_length_le (by omega)]; rfl)
      rw [hE]
      clear hE
      go_wp2_with fail
      refine bodyPost_ret (results_tmp rfl _ _ _) rfl ?_
      exact ⟨by rw [← HX.out]; exact congrArg (fun x => Ending.returned (Value.string x)) (st_cat E [34]), HB.out⟩
end Go.Proofs.Ytgcfikiajingcaa
/- What the statements need: a character, written in a way. -/
set_option linter.unusedVariables false
namespace Go.Proofs.Ytgcfikiajingcaa
open Go.RowKit

theorem encode_utf (n : Nat) (h : n < 55296 ∨ 57344 ≤ n) (h2 : n < 1114112) : Utf8.encode (n : Int) = ⟨(utfL n).toArray⟩ := by
  have hv : Utf8.valid (n : Int) = true := by
    unfold Utf8.valid
    simp
    omega
  unfold Utf8.encode utfL
  rw [if_pos hv, Int.toNat_natCast]
  by_cases c1 : n < 128
  · rw [if_pos c1, if_pos c1]
  rw [if_neg c1, if_neg c1]
  by_cases c2 : n < 2048
  · rw [if_pos c2, if_pos c2]
  rw [if_neg c2, if_neg c2]
  by_cases c3 : n < 65536
  · rw [if_pos c3, if_pos c3]
  rw [if_neg c3, if_neg c3]
theorem runes_sum (n : Int) : runesBytes (List.take 1 [n]) = Utf8.encode n := by
  simp [runesBytes]
theorem runes_row {w : World} {g : Nat} {T : TypeId} {fr : Nat × Nat} (n : Int) (hg : w.heap[g]? = some (.cells #[.int .i32 n] T fr)) :
    (convert 58 9 (.slice (some ⟨g, 0, none⟩) 1 1)).run Try.prog w = .ok (.string (Utf8.encode n)) w := by
  rw [← runes_sum]
  exact run_convert_runes w 58 9 21 ⟨g, 0, none⟩ 1 1 [n] (by simp) Try.underlying58 Try.underlying21 Try.underlying9 (fun j hj => by
    have hj0 : j = 0 := by simpa using hj
    subst hj0
    rw [Addr.add_lit, Lib.cell_of_heap hg]
    rfl)
theorem byte_one {w : World} {g : Nat} {T : TypeId} {fr : Nat × Nat} (b : UInt8) (h : w.heap[g]? = some (.cells #[.int .u8 (b.toNat : Int)] T fr)) : Rd w (some ⟨g, 0, none⟩) [b] := by
  refine .inr ⟨g, 0, rfl, fun i hi => ?_⟩
  simp at hi
  subst hi
  rw [Lib.cell_of_heap h]
  rfl
theorem quoteL_one (c : UInt8) : quoteL [c] = 34 :: (quoteC c ++ [34]) := by simp [quoteL]
theorem quote_cut (c : UInt8) : ((quoteL [c]).drop 1).take 2 = quoteC c ∨ (quoteC c).length ≠ 2 := by
  by_cases h : (quoteC c).length = 2
  · left
    rw [quoteL_one, List.drop_succ_cons, List.drop_zero, List.take_append_of_le_length (by omega), List.take_of_length_le (by omega)]
  · exact .inr h
set_option maxRecDepth 100000 in
set_option maxHeartbeats 16000000 in
theorem written_any (n : Nat) (k I : Int) (hI : I = (n : Int)) (w : World) (h : n < 55296 ∨ 57344 ≤ n) (h2 : n < 1114112) :
    Calls Try.prog 10 #[.int .i32 I, .int .i64 k] w fun e w' => e = .returned (.string ⟨(writtenL n k).toArray⟩) ∧ Below w.heap.size w w' := by
  have HB0 : Hid (∀ ob, Below w.heap.size w (w.alloc ob)) := Lib.hid fun ob => (Below.refl _ _).alloc (Nat.le_refl _) _
  have hst : ∀ w : World, (convert 58 9 (.slice (some ⟨w.heap.size, 0, none⟩) 1 1)).run Try.prog (w.alloc (.cells #[.int .i32 I] 21)) = .ok (.string ⟨(utfL n).toArray⟩) (w.alloc (.cells #[.int .i32 I] 21)) := fun w => by
    rw [runes_row I (heap_alloc_new w (.cells #[.int .i32 I] 21)), hI, encode_utf n h h2]
  have hw64 : IntKind.i64.wrap I = I := IntWalk.i64_in _ (by omega)
  have HI := Lib.hid hI
  obtain ⟨D, hD⟩ : ∃ D : UInt8, D = UInt8.ofNat n := ⟨_, rfl⟩
  by_cases r0 : k.tmod 3 = 0
  · skip
    by_cases c1 : 32 ≤ n
    · skip
      by_cases c2 : n = 34
      · -- 34
        have q0 : (k.tmod 3 == 0) = true := by rw [r0]; rfl
        have b1 : decide ((32 : Int) ≤ I) = true := decide_eq_true (by omega)
        have b2 : (I != 34) = false := by rw [bne_eq_false_iff_eq]; omega
        have q1 : (k.tmod 3 == 1) = false := by rw [r0]; rfl
        have b6 : decide ((65536 : Int) ≤ I) = false := decide_eq_false (by omega)
        have HW : Hid (writtenL n k = hex4 n) := Lib.hid (by unfold writtenL; rw [if_neg (by rintro ⟨e, e1, e2, e3⟩; omega), if_neg (by rintro ⟨e, e1, e2⟩; omega), if_neg (by omega)])
        have HN : Hid (n ≤ 10000000) := Lib.hid (by omega)
        clear h h2 hI hD r0 c1 c2
        go_enter Try.func10, Try.ntmps10
        go_wp2_with fail
        refine (madehex_any n _ HI.out _ HN.out).mono ?_
        rintro e w5 ⟨rfl, rfl⟩
        go_wp2_with fail
        refine bodyPost_ret (results_tmp rfl _ _ _) rfl ?_
        exact ⟨by rw [HW.out]; rfl, Below.refl _ _⟩
      by_cases c3 : n = 92
      · -- 92
        have q0 : (k.tmod 3 == 0) = true := by rw [r0]; rfl
        have b1 : decide ((32 : Int) ≤ I) = true := decide_eq_true (by omega)
        have b2 : (I != 34) = true := by rw [bne_iff_ne]; omega
        have b3 : (I != 92) = false := by rw [bne_eq_false_iff_eq]; omega
        have q1 : (k.tmod 3 == 1) = false := by rw [r0]; rfl
        have b6 : decide ((65536 : Int) ≤ I) = false := decide_eq_false (by omega)
        have HW : Hid (writtenL n k = hex4 n) := Lib.hid (by unfold writtenL; rw [if_neg (by rintro ⟨e, e1, e2, e3⟩; omega), if_neg (by rintro ⟨e, e1, e2⟩; omega), if_neg (by omega)])
        have HN : Hid (n ≤ 10000000) := Lib.hid (by omega)
        clear h h2 hI hD r0 c1 c2 c3
        go_enter Try.func10, Try.ntmps10
        go_wp2_with fail
        refine (madehex_any n _ HI.out _ HN.out).mono ?_
        rintro e w5 ⟨rfl, rfl⟩
        go_wp2_with fail
        refine bodyPost_ret (results_tmp rfl _ _ _) rfl ?_
        exact ⟨by rw [HW.out]; rfl, Below.refl _ _⟩
      · -- utf
        have q0 : (k.tmod 3 == 0) = true := by rw [r0]; rfl
        have b1 : decide ((32 : Int) ≤ I) = true := decide_eq_true (by omega)
        have b2 : (I != 34) = true := by rw [bne_iff_ne]; omega
        have b3 : (I != 92) = true := by rw [bne_iff_ne]; omega
        have HW : Hid (writtenL n k = utfL n) := Lib.hid (by unfold writtenL; rw [if_pos ⟨r0, c1, c2, c3⟩])
        have HN : Hid (n ≤ 10000000) := Lib.hid (by omega)
        clear h h2 hI hD r0 c1 c2 c3
        go_enter Try.func10, Try.ntmps10
        go_wp2_with fail
        refine bodyPost_ret (results_tmp rfl _ _ _) rfl ?_
        exact ⟨by rw [HW.out]; rfl, HB0.out _⟩
    · -- low
      have q0 : (k.tmod 3 == 0) = true := by rw [r0]; rfl
      have b1 : decide ((32 : Int) ≤ I) = false := decide_eq_false (by omega)
      have q1 : (k.tmod 3 == 1) = false := by rw [r0]; rfl
      have b6 : decide ((65536 : Int) ≤ I) = false := decide_eq_false (by omega)
      have HW : Hid (writtenL n k = hex4 n) := Lib.hid (by unfold writtenL; rw [if_neg (by rintro ⟨e, e1, e2, e3⟩; omega), if_neg (by rintro ⟨e, e1, e2⟩; omega), if_neg (by omega)])
      have HN : Hid (n ≤ 10000000) := Lib.hid (by omega)
      clear h h2 hI hD r0 c1
      go_enter Try.func10, Try.ntmps10
      go_wp2_with fail
      refine (madehex_any n _ HI.out _ HN.out).mono ?_
      rintro e w5 ⟨rfl, rfl⟩
      go_wp2_with fail
      refine bodyPost_ret (results_tmp rfl _ _ _) rfl ?_
      exact ⟨by rw [HW.out]; rfl, Below.refl _ _⟩
  · skip
    by_cases r1 : k.tmod 3 = 1
    · skip
      by_cases c4 : n < 128
      · skip
        by_cases c5 : (quoteC D).length = 2
        · -- q
          have q0 : (k.tmod 3 == 0) = false := by rw [beq_eq_false_iff_ne]; exact r0
          have q1 : (k.tmod 3 == 1) = true := by rw [r1]; rfl
          have b4 : decide (I < 128) = true := decide_eq_true (by omega)
          have HW : Hid (writtenL n k = quoteC D) := Lib.hid (by unfold writtenL; rw [if_neg (by rintro ⟨e, e1, e2, e3⟩; exact r0 e), if_pos ⟨r1, c4, by rw [← hD]; exact c5⟩, hD])
          have HN : Hid (n ≤ 10000000) := Lib.hid (by omega)
          have HDL := Lib.hid (quoteL_one D)
          have hD8 : IntKind.u8.wrap I = (D.toNat : Int) := by rw [IntKind.wrap_u8, hD, u8ofNat (by omega)]; omega
          have hsb := fun w => str_of_rd (byte_one D (heap_alloc_new w (.cells #[.int .u8 (D.toNat : Int)] 5))) 1 1 rfl
          obtain ⟨Q, hQ⟩ : ∃ Q, quoteL [D] = Q := ⟨_, rfl⟩
          have hql : Q.length = (quoteC D).length + 2 := by rw [← hQ, quoteL_one]; simp
          have hq4 : Q.length = 4 := by omega
          have hqb : ((Q.length : Int) == 4) = true := by rw [hq4]; rfl
          have hsl := fun w => st_mid Q 1 3 (by omega) (by omega) 1 3 rfl rfl w
          have HQQ : Hid (Q.tail.take 2 = quoteC D) := Lib.hid (by rcases quote_cut D with e | e; rw [hQ, List.drop_one] at e; exact e; omega)
          have hq6 : Q.length ≤ 8 := by have := quoteC_six D; omega
          clear h h2 hI hD hql hq4 r0 r1 c4 c5
          go_enter Try.func10, Try.ntmps10
          go_wp2_with fail
          have HBA := HB0.out (.cells #[.int .u8 (D.toNat : Int)] 5)
          have HBX := Lib.hid HBA
          generalize w.alloc (.cells #[.int .u8 (D.toNat : Int)] 5) = w1 at *
          refine (refquote_any [D] w1 (by simp)).mono ?_
          rw [hQ]
          rintro e w2 ⟨rfl, hb2⟩
          have HB2 := Lib.hid (HBX.out.trans (hb2.mono HBX.out.size))
          clear hb2 HBA
          go_wp2_with fail
          have HBA := HB2.out.alloc HB2.out.size (.cells #[.int .u8 (D.toNat : Int)] 5)
          have HBX := Lib.hid HBA
          generalize w2.alloc (.cells #[.int .u8 (D.toNat : Int)] 5) = w3 at *
          refine (refquote_any [D] w3 (by simp)).mono ?_
          rw [hQ]
          rintro e w4 ⟨rfl, hb2⟩
          have HB4 := Lib.hid (HBX.out.trans (hb2.mono HBX.out.size))
          clear hb2 HBA
          go_wp2_with fail
          refine bodyPost_ret (results_tmp rfl _ _ _) rfl ?_
          exact ⟨by rw [HW.out, ← HQQ.out]; rfl, HB4.out⟩
        · -- noq
          have q0 : (k.tmod 3 == 0) = false := by rw [beq_eq_false_iff_ne]; exact r0
          have q1 : (k.tmod 3 == 1) = true := by rw [r1]; rfl
          have b4 : decide (I < 128) = true := decide_eq_true (by omega)
          have b6 : decide ((65536 : Int) ≤ I) = false := decide_eq_false (by omega)
          have HW : Hid (writtenL n k = hex4 n) := Lib.hid (by unfold writtenL; rw [if_neg (by rintro ⟨e, e1, e2, e3⟩; exact r0 e), if_neg (by rintro ⟨e, e1, e2⟩; rw [← hD] at e2; exact c5 e2), if_neg (by omega)])
          have HN : Hid (n ≤ 10000000) := Lib.hid (by omega)
          have HDL := Lib.hid (quoteL_one D)
          have hD8 : IntKind.u8.wrap I = (D.toNat : Int) := by rw [IntKind.wrap_u8, hD, u8ofNat (by omega)]; omega
          have hsb := fun w => str_of_rd (byte_one D (heap_alloc_new w (.cells #[.int .u8 (D.toNat : Int)] 5))) 1 1 rfl
          obtain ⟨Q, hQ⟩ : ∃ Q, quoteL [D] = Q := ⟨_, rfl⟩
          have hql : Q.length = (quoteC D).length + 2 := by rw [← hQ, quoteL_one]; simp
          have hq4 : Q.length ≠ 4 := by omega
          have hqb : ((Q.length : Int) == 4) = false := by rw [beq_eq_false_iff_ne]; omega
          have hq6 : Q.length ≤ 8 := by have := quoteC_six D; omega
          clear h h2 hI hD hql hq4 r0 r1 c4 c5
          go_enter Try.func10, Try.ntmps10
          go_wp2_with fail
          have HBA := HB0.out (.cells #[.int .u8 (D.toNat : Int)] 5)
          have HBX := Lib.hid HBA
          generalize w.alloc (.cells #[.int .u8 (D.toNat : Int)] 5) = w1 at *
          refine (refquote_any [D] w1 (by simp)).mono ?_
          rw [hQ]
          rintro e w2 ⟨rfl, hb2⟩
          have HB2 := Lib.hid (HBX.out.trans (hb2.mono HBX.out.size))
          clear hb2 HBA
          go_wp2_with fail
          refine (madehex_any n _ HI.out _ HN.out).mono ?_
          rintro e w5 ⟨rfl, rfl⟩
          go_wp2_with fail
          refine bodyPost_ret (results_tmp rfl _ _ _) rfl ?_
          exact ⟨by rw [HW.out]; rfl, HB2.out⟩
      by_cases c6 : 65536 ≤ n
      · -- p1
        have q0 : (k.tmod 3 == 0) = false := by rw [beq_eq_false_iff_ne]; exact r0
        have q1 : (k.tmod 3 == 1) = true := by rw [r1]; rfl
        have b4 : decide (I < 128) = false := decide_eq_false (by omega)
        have b6 : decide ((65536 : Int) ≤ I) = true := decide_eq_true (by omega)
        have HW : Hid (writtenL n k = hex4 (55296 + (n - 65536) / 1024) ++ hex4 (56320 + (n - 65536) % 1024)) := Lib.hid (by unfold writtenL; rw [if_neg (by rintro ⟨e, e1, e2, e3⟩; exact r0 e), if_neg (by rintro ⟨e, e1, e2⟩; omega), if_pos c6])
        have HN : Hid (n ≤ 10000000) := Lib.hid (by omega)
        obtain ⟨A, hA⟩ : ∃ A : Int, A = ((n - 65536) / 1024 : Nat) := ⟨_, rfl⟩
        obtain ⟨B, hB⟩ : ∃ B : Int, B = ((n - 65536) % 1024 : Nat) := ⟨_, rfl⟩
        obtain ⟨N1, hN1⟩ : ∃ N1, 55296 + (n - 65536) / 1024 = N1 := ⟨_, rfl⟩
        obtain ⟨N2, hN2⟩ : ∃ N2, 56320 + (n - 65536) % 1024 = N2 := ⟨_, rfl⟩
        have HP1 : Hid (55296 + A = (N1 : Int)) := Lib.hid (by omega)
        have HP2 : Hid (56320 + B = (N2 : Int)) := Lib.hid (by omega)
        have HN1 : Hid (N1 ≤ 10000000) := Lib.hid (by omega)
        have HN2 : Hid (N2 ≤ 10000000) := Lib.hid (by omega)
        rw [hN1, hN2] at HW
        clear hN1 hN2
        have p1 : IntKind.i64.wrap (I - 65536) = I - 65536 := IntWalk.i64_in _ (by omega)
        have a0 : 0 ≤ A := by omega
        have a1 : A ≤ 2000 := by omega
        have b0 : 0 ≤ B := by omega
        have b7 : B ≤ 2000 := by omega
        have p4 : Int.tdiv (I - 65536) 1024 = A := by rw [Int.tdiv_eq_ediv_of_nonneg (by omega)]; omega
        have p5 : Int.tmod (I - 65536) 1024 = B := by rw [Int.tmod_eq_emod_of_nonneg (by omega)]; omega
        clear hA hB
        clear h h2 hI hD r0 r1 c4 c6
        go_enter Try.func10, Try.ntmps10
        go_upto_region 8 with (fail)
        clear p1 b6 hw64 HI
        generalize I - 65536 = J at *
        go_wp2_with fail
        refine (madehex_any N1 _ HP1.out _ HN1.out).mono ?_
        rintro e w5 ⟨rfl, rfl⟩
        go_wp2_with fail
        refine (madehex_any N2 _ HP2.out _ HN2.out).mono ?_
        rintro e w6 ⟨rfl, rfl⟩
        go_wp2_with fail
        refine bodyPost_ret (results_tmp rfl _ _ _) rfl ?_
        exact ⟨by rw [HW.out]; exact congrArg (fun x => Ending.returned (Value.string x)) (st_cat (hex4 N1) (hex4 N2)), Below.refl _ _⟩
      · -- h1
        have q0 : (k.tmod 3 == 0) = false := by rw [beq_eq_false_iff_ne]; exact r0
        have q1 : (k.tmod 3 == 1) = true := by rw [r1]; rfl
        have b4 : decide (I < 128) = false := decide_eq_false (by omega)
        have b6 : decide ((65536 : Int) ≤ I) = false := decide_eq_false (by omega)
        have HW : Hid (writtenL n k = hex4 n) := Lib.hid (by unfold writtenL; rw [if_neg (by rintro ⟨e, e1, e2, e3⟩; exact r0 e), if_neg (by rintro ⟨e, e1, e2⟩; omega), if_neg (by omega)])
        have HN : Hid (n ≤ 10000000) := Lib.hid (by omega)
        clear h h2 hI hD r0 r1 c4 c6
        go_enter Try.func10, Try.ntmps10
        go_wp2_with fail
        refine (madehex_any n _ HI.out _ HN.out).mono ?_
        rintro e w5 ⟨rfl, rfl⟩
        go_wp2_with fail
        refine bodyPost_ret (results_tmp rfl _ _ _) rfl ?_
        exact ⟨by rw [HW.out]; rfl, Below.refl _ _⟩
    by_cases c6 : 65536 ≤ n
    · -- p2
      have q0 : (k.tmod 3 == 0) = false := by rw [beq_eq_false_iff_ne]; exact r0
      have q1 : (k.tmod 3 == 1) = false := by rw [beq_eq_false_iff_ne]; exact r1
      have b6 : decide ((65536 : Int) ≤ I) = true := decide_eq_true (by omega)
      have HW : Hid (writtenL n k = hex4 (55296 + (n - 65536) / 1024) ++ hex4 (56320 + (n - 65536) % 1024)) := Lib.hid (by unfold writtenL; rw [if_neg (by rintro ⟨e, e1, e2, e3⟩; exact r0 e), if_neg (by rintro ⟨e, e1, e2⟩; exact r1 e), if_pos c6])
      have HN : Hid (n ≤ 10000000) := Lib.hid (by omega)
      obtain ⟨A, hA⟩ : ∃ A : Int, A = ((n - 65536) / 1024 : Nat) := ⟨_, rfl⟩
      obtain ⟨B, hB⟩ : ∃ B : Int, B = ((n - 65536) % 1024 : Nat) := ⟨_, rfl⟩
      obtain ⟨N1, hN1⟩ : ∃ N1, 55296 + (n - 65536) / 1024 = N1 := ⟨_, rfl⟩
      obtain ⟨N2, hN2⟩ : ∃ N2, 56320 + (n - 65536) % 1024 = N2 := ⟨_, rfl⟩
      have HP1 : Hid (55296 + A = (N1 : Int)) := Lib.hid (by omega)
      have HP2 : Hid (56320 + B = (N2 : Int)) := Lib.hid (by omega)
      have HN1 : Hid (N1 ≤ 10000000) := Lib.hid (by omega)
      have HN2 : Hid (N2 ≤ 10000000) := Lib.hid (by omega)
      rw [hN1, hN2] at HW
      clear hN1 hN2
      have p1 : IntKind.i64.wrap (I - 65536) = I - 65536 := IntWalk.i64_in _ (by omega)
      have a0 : 0 ≤ A := by omega
      have a1 : A ≤ 2000 := by omega
      have b0 : 0 ≤ B := by omega
      have b7 : B ≤ 2000 := by omega
      have p4 : Int.tdiv (I - 65536) 1024 = A := by rw [Int.tdiv_eq_ediv_of_nonneg (by omega)]; omega
      have p5 : Int.tmod (I - 65536) 1024 = B := by rw [Int.tmod_eq_emod_of_nonneg (by omega)]; omega
      clear hA hB
      clear h h2 hI hD r0 r1 c6
      go_enter Try.func10, Try.ntmps10
      go_upto_region 8 with (fail)
      clear p1 b6 hw64 HI
      generalize I - 65536 = J at *
      go_wp2_with fail
      refine (madehex_any N1 _ HP1.out _ HN1.out).mono ?_
      rintro e w5 ⟨rfl, rfl⟩
      go_wp2_with fail
      refine (madehex_any N2 _ HP2.out _ HN2.out).mono ?_
      rintro e w6 ⟨rfl, rfl⟩
      go_wp2_with fail
      refine bodyPost_ret (results_tmp rfl _ _ _) rfl ?_
      exact ⟨by rw [HW.out]; exact congrArg (fun x => Ending.returned (Value.string x)) (st_cat (hex4 N1) (hex4 N2)), Below.refl _ _⟩
    · -- h2
      have q0 : (k.tmod 3 == 0) = false := by rw [beq_eq_false_iff_ne]; exact r0
      have q1 : (k.tmod 3 == 1) = false := by rw [beq_eq_false_iff_ne]; exact r1
      have b6 : decide ((65536 : Int) ≤ I) = false := decide_eq_false (by omega)
      have HW : Hid (writtenL n k = hex4 n) := Lib.hid (by unfold writtenL; rw [if_neg (by rintro ⟨e, e1, e2, e3⟩; exact r0 e), if_neg (by rintro ⟨e, e1, e2⟩; exact r1 e), if_neg (by omega)])
      have HN : Hid (n ≤ 10000000) := Lib.hid (by omega)
      clear h h2 hI hD r0 r1 c6
      go_enter Try.func10, Try.ntmps10
      go_wp2_with fail
      refine (madehex_any n _ HI.out _ HN.out).mono ?_
      rintro e w5 ⟨rfl, rfl⟩
      go_wp2_with fail
      refine bodyPost_ret (results_tmp rfl _ _ _) rfl ?_
      exact ⟨by rw [HW.out]; rfl, Below.refl _ _⟩
end Go.Proofs.Ytgcfikiajingcaa
/- Rows of whole numbers that come in. -/
set_option linter.unusedVariables false
namespace Go.Proofs.Ytgcfikiajingcaa
open Go.RowKit

/-- The numbers l lie at the address a. -/
def RdI (w : World) (a : Option Addr) (l : List Int) : Prop :=
  l = [] ∨ ∃ b off, a = some ⟨b, off, none⟩ ∧ ∀ i (h : i < l.length), w.cell? ⟨b, off + i, none⟩ = some (.int .i64 l[i])
theorem RdI.below {w w' : World} {a : Option Addr} {l : List Int} (h : RdI w a l) (hb : Below w.heap.size w w') : RdI w' a l := by
  rcases h with rfl | ⟨b, off, rfl, hc⟩
  · exact .inl rfl
  · refine .inr ⟨b, off, rfl, fun i hi => ?_⟩
    rw [hb.cell (World.block_lt_of_cell? w _ (hc i hi))]
    exact hc i hi
theorem rdi_of_row {w : World} {a : Option Addr} {len cap : Nat} {zs : List Int}
    (h : (a = none ∧ len = 0 ∧ cap = 0 ∧ zs = []) ∨ ∃ x, a = some x ∧ len ≤ cap ∧ cap ≤ maxLen ∧ zs.length = cap ∧ (∀ i, i < zs.length → w.cell? (x.add i) = some (.int .i64 (zs.getD i 0))) ∧ ∀ n ∈ zs, (Lit.int .i64 n).wf = true) :
    ∃ l : List Int, len = l.length ∧ RdI w a l ∧ l.length ≤ maxLen := by
  rcases h with ⟨rfl, rfl, rfl, rfl⟩ | ⟨x, rfl, hl, hm, hz, hc, hwf⟩
  · exact ⟨[], rfl, .inl rfl, by simp⟩
  · cases len with
    | zero => exact ⟨[], rfl, .inl rfl, by simp⟩
    | succ len =>
      obtain ⟨b, off, spot⟩ := x
      have h0 := hc 0 (by omega)
      have hsp : spot = none := by
        cases spot with
        | none => rfl
        | some k =>
          have e0 : (⟨b, off, some k⟩ : Addr).add 0 = ⟨b, off, some k⟩ := by simp [Addr.add]
          rw [e0] at h0
          unfold World.cell? at h0
          split at h0 <;> simp at h0
      subst hsp
      refine ⟨zs.take (len + 1), by simp; omega, .inr ⟨b, off, rfl, fun i hi => ?_⟩, by simp; omega⟩
      simp only [List.length_take] at hi
      have hi' : i < zs.length := by omega
      have h1 := hc i hi'
      rw [Addr.add_lit] at h1
      rw [h1]
      simp [List.getD_eq_getElem?_getD, hi']
end Go.Proofs.Ytgcfikiajingcaa
/- The walk of the law JsonStrings. -/
set_option linter.unusedVariables false
namespace Go.Proofs.Ytgcfikiajingcaa
open Go.RowKit

theorem bytes_list (s : ByteArray) : ∃ l : List UInt8, s = ⟨l.toArray⟩ := ⟨s.data.toList, by cases s; rfl⟩
theorem WR.quote (c : UInt8) : WR (quoteC c) [c] := by
  intro b r K hK
  have h1 := quoteC_pos c
  rw [List.length_append] at hK
  obtain ⟨K, rfl⟩ : ∃ k, K = k + 1 := ⟨K - 1, by omega⟩
  exact ⟨K, by omega, text_step K b c r⟩
theorem WR.quotes : ∀ s : List UInt8, WR (s.flatMap quoteC) s
  | [] => WR.nil
  | c :: s => by
    rw [List.flatMap_cons]
    exact WR.app (t := [c]) (WR.quote c) (WR.quotes s)
theorem parse_quote (S : List UInt8) (h : toldB S = true) (hl : S.length ≤ 1000) : parseL (quoteL S) 1 = (jstr S, 0) :=
  parse_WR (WR.quotes S) (told_quotes S.length S (Nat.le_refl _) h) (by have := quote_len6 S; omega)
theorem right_str (S : List UInt8) (h : toldB S = true) : rightJ (jstr S) = true := by
  unfold jstr
  rw [rightJ, h]
  rfl
theorem plain_str (S : List UInt8) : plainJ (jstr S) = quoteL S := by
  unfold jstr
  rw [plainJ]
  rfl
theorem size_str (S : List UInt8) : sizeJ (jstr S) = 1 + S.length := by
  unfold jstr
  rw [sizeJ]
  rfl
theorem chrV_cut (n b0 b1 b2 b3 : Nat) (h : chrV n b0 b1 b2 b3 ≠ 0) (c1 c2 c3 : Nat) (h1 : 1 < chrV n b0 b1 b2 b3 → c1 = b1) (h2 : 2 < chrV n b0 b1 b2 b3 → c2 = b2) (h3 : 3 < chrV n b0 b1 b2 b3 → c3 = b3) :
    chrV (chrV n b0 b1 b2 b3) b0 c1 c2 c3 = chrV n b0 b1 b2 b3 := by
  obtain ⟨m, hm⟩ : ∃ m, chrV n b0 b1 b2 b3 = m := ⟨_, rfl⟩
  rw [hm] at h h1 h2 h3 ⊢
  unfold chrV at hm ⊢
  by_cases a1 : b0 < 128
  · rw [if_pos a1] at hm ⊢; exact hm
  rw [if_neg a1] at hm ⊢
  by_cases a2 : b0 < 194
  · rw [if_pos a2] at hm; omega
  rw [if_neg a2] at hm ⊢
  by_cases a3 : b0 < 224
  · rw [if_pos a3] at hm ⊢
    split at hm
    · rename_i q
      subst hm
      rw [if_pos (by have := h1 (by omega); omega)]
    · omega
  rw [if_neg a3] at hm ⊢
  by_cases a4 : b0 < 240
  · rw [if_pos a4] at hm ⊢
    generalize (if b0 = 224 then 160 else 128) = lo at *
    generalize (if b0 = 237 then 159 else 191) = hi at *
    by_cases q : (1 < n ∧ lo ≤ b1 ∧ b1 ≤ hi) ∧ 2 < n ∧ 128 ≤ b2 ∧ b2 ≤ 191
    · rw [if_pos q] at hm
      subst hm
      rw [if_pos (by have := h1 (by omega); have := h2 (by omega); omega)]
    · rw [if_neg q] at hm; omega
  rw [if_neg a4] at hm ⊢
  by_cases a5 : b0 < 245
  · rw [if_pos a5] at hm ⊢
    generalize (if b0 = 240 then 144 else 128) = lo at *
    generalize (if b0 = 244 then 143 else 191) = hi at *
    by_cases q : ((1 < n ∧ lo ≤ b1 ∧ b1 ≤ hi) ∧ 2 < n ∧ 128 ≤ b2 ∧ b2 ≤ 191) ∧ 3 < n ∧ 128 ≤ b3 ∧ b3 ≤ 191
    · rw [if_pos q] at hm
      subst hm
      rw [if_pos (by have := h1 (by omega); have := h2 (by omega); have := h3 (by omega); omega)]
    · rw [if_neg q] at hm; omega
  · rw [if_neg a5] at hm; omega
theorem getD_take (u : List UInt8) (m i : Nat) (h : i < m) : (u.take m).getD i 0 = u.getD i 0 := by
  simp [List.getD_eq_getElem?_getD, h]
theorem told_chunk (u : List UInt8) (hne : u ≠ []) (h : chr u ≠ 0) : toldB (u.take (chr u)) = true := by
  have hl := chr_len u hne
  have hlen : (u.take (chr u)).length = chr u := by rw [List.length_take]; omega
  have hne2 : u.take (chr u) ≠ [] := by intro e; rw [e] at hlen; simp at hlen; omega
  have hc : chr (u.take (chr u)) = chr u := by
    rw [chr_val (u.take (chr u)), hlen, getD_take u _ 0 (by omega)]
    have hv := chr_val u
    obtain ⟨m, hm⟩ : ∃ m, chr u = m := ⟨_, rfl⟩
    rw [hm] at hv ⊢
    rw [hv]
    refine chrV_cut _ _ _ _ _ (by omega) _ _ _ (fun e => ?_) (fun e => ?_) (fun e => ?_)
    · rw [getD_take u _ 1 e]
    · rw [getD_take u _ 2 e]
    · rw [getD_take u _ 3 e]
  rw [told_ne _ hne2, hc, List.drop_eq_nil_of_le (by omega)]
  simp [h, told_nil]
theorem take_more (S : List UInt8) (p m : Nat) (h : p ≤ S.length) : S.take (p + m) = S.take p ++ (S.drop p).take m := by
  rw [List.take_add]
set_option maxRecDepth 100000 in
set_option maxHeartbeats 32000000 in
theorem jsonStrings_walk (s : ByteArray) (a : Option Addr) (c : Nat) (l : List Int) (w : World) (hs : s.size ≤ maxLen) (hr : RdI w a l ∧ l.length ≤ maxLen) :
    Calls Try.prog 3 #[.string s, .slice a l.length c] w fun e w' => e = .returned (.bool true) ∧ Below w.heap.size w w' := by
  unfold maxLen at hs hr
  obtain ⟨S, rfl⟩ := bytes_list s
  simp only [ByteArray.size, List.size_toArray] at hs
  have HRI := Lib.hid hr.1
  have hll := hr.2
  clear hr
  go_enter Try.func3, Try.ntmps3
  go_wp2_with fail
  refine (anchor06_any w).mono ?_
  rintro e w1 ⟨rfl, hb1⟩
  have HB1 := Lib.hid hb1
  clear hb1
  by_cases h1 : S.length ≤ 200
  case neg =>
    have h1I : (200 : Int) < (S.length : Int) := by omega
    go_wp2_with fail
    refine bodyPost_ret (results_tmp rfl _ _ _) rfl ?_
    exact ⟨rfl, HB1.out⟩
  by_cases h2 : l.length ≤ 300
  case neg =>
    have h1I : ¬ (200 : Int) < (S.length : Int) := by omega
    have h2I : (300 : Int) < (l.length : Int) := by omega
    go_wp2_with fail
    refine bodyPost_ret (results_tmp rfl _ _ _) rfl ?_
    exact ⟨rfl, HB1.out⟩
  have h1I : ¬ (200 : Int) < (S.length : Int) := by omega
  have h2I : ¬ (300 : Int) < (l.length : Int) := by omega
  go_wp2_with fail
  refine (refwrong_any S w1 (by omega)).mono ?_
  rintro e w2 ⟨rfl, rfl⟩
  have hneg := wrongI_neg S
  generalize wrongI S = wi at *
  cases ht : toldB S with
  | false =>
    rw [ht] at hneg
    have hwi : (0 : Int) ≤ wi := by have := of_decide_eq_false hneg; omega
    clear hneg
    go_wp2_with fail
    refine bodyPost_ret (results_tmp rfl _ _ _) rfl ?_
    exact ⟨rfl, HB1.out⟩
  | true =>
  rw [ht] at hneg
  have hwi : ¬ (0 : Int) ≤ wi := by have := of_decide_eq_true hneg; omega
  have HT := Lib.hid ht
  clear hneg ht
  go_wp2_with fail
  refine (jstr_fn S w2).mono ?_
  rintro e w3 ⟨rfl, hb3⟩
  have HB3 := Lib.hid (HB1.out.trans (hb3.mono HB1.out.size))
  clear hb3
  go_wp2_with fail
  refine (jprint_any (jstr S) (jright _ (by rw [size_str]; omega)) (fun _ => True) [.int .i64 4, .bool false, .string ⟨S.toArray⟩, .slice none 0 0, .slice none 0 0] w3 (Rep.leaf _ w3 4 false S) (by rw [plain_str]; have := quoteL_len6 S; omega)).mono ?_
  rw [right_str S HT.out, plain_str]
  rintro e w4 ⟨rfl, hb4⟩
  have HB4 := Lib.hid (HB3.out.trans (hb4.mono HB3.out.size))
  clear hb4
  obtain ⟨Q, hQ⟩ : ∃ Q, quoteL S = Q := ⟨_, rfl⟩
  have hql : Q.length ≤ 1202 := by rw [← hQ]; have := quoteL_len6 S; omega
  have HQ := Lib.hid hQ
  simp only [if_true, hQ]
  clear hQ
  go_wp2_with fail
  go_loopg [7] S.length (fun k tx wr => ∃ (pos : Nat) (W : List UInt8), tx = .string ⟨(34 :: W).toArray⟩ ∧ pos + k = S.length ∧ W.length ≤ 12 * pos ∧ Hid (WR W (S.take pos)) ∧ Hid (toldB W = true) ∧ Hid (toldB (S.drop pos) = true) ∧ Hid (wr.heap[w4.heap.size]? = some (.stringIter ⟨S.toArray⟩ pos)) ∧ Hid (Below w4.heap.size w4 wr))
  case atStart => exact ⟨0, [], rfl, by omega, by simp, Lib.hid WR.nil, Lib.hid rfl, Lib.hid HT.out, Lib.hid (World.iter_heap w4 _ _), Lib.hid ((Below.refl _ _).alloc (Nat.le_refl _) _)⟩
  case round =>
    obtain ⟨pos, W, rfl, hk, hWl, HW, HTW, HTD, HIT, HB⟩ := hrel
    by_cases hlt : pos < S.length
    · have htd := HTD.out
      rw [told_ne (S.drop pos) (by simp; omega)] at htd
      simp only [Bool.and_eq_true, decide_eq_true_eq] at htd
      obtain ⟨ch, m, hdec, hchr, hm1, hle, hcv, hc2, hutf⟩ := utf_at S pos hlt htd.1
      have hnx := fun ty => Lib.run_next_any_at (P := Try.prog) wr w4.heap.size ⟨S.toArray⟩ pos ty HIT.out (by simpa [ByteArray.size] using hlt)
      rw [hdec] at hnx
      simp only at hnx
      have HTD2 : Hid (toldB (S.drop (pos + m)) = true) := Lib.hid (by
        have := htd.2
        rw [hchr, List.drop_drop] at this
        exact this)
      have HWU : Hid (∀ k, WR (W ++ writtenL ch k) (S.take (pos + m))) := Lib.hid fun k => by
        rw [take_more S pos m (by omega), ← hutf]
        exact WR.app HW.out (written_read ch k hcv hc2)
      have HTU : Hid (∀ k, toldB (W ++ writtenL ch k) = true) := Lib.hid fun k => told_cat HTW.out (told_written ch k (by
        rw [hutf, ← hchr]
        exact told_chunk _ (by simp; omega) (by omega)))
      have HIT2 : Hid ((wr.iterAt w4.heap.size ⟨S.toArray⟩ (pos + m)).heap[w4.heap.size]? = some (.stringIter ⟨S.toArray⟩ (pos + m))) := Lib.hid (Lib.iterAt_heap wr w4.heap.size _ _ _ HIT.out)
      have HB2 : Hid (Below w4.heap.size w4 (wr.iterAt w4.heap.size ⟨S.toArray⟩ (pos + m))) := Lib.hid (Lib.below_iterAt HB.out (Nat.le_refl _) _ _)
      have hsz2 : (wr.iterAt w4.heap.size ⟨S.toArray⟩ (pos + m)).heap.size = wr.heap.size := Lib.iterAt_size _ _ _ _
      have hgl : w4.heap.size < wr.heap.size := (Array.getElem?_eq_some_iff.1 HIT.out).1
      have HCV := Lib.hid hcv
      have HC2 := Lib.hid hc2
      clear htd hdec hchr hcv hc2 hutf
      generalize wr.iterAt w4.heap.size ⟨S.toArray⟩ (pos + m) = w5 at *
      by_cases hp : pos < l.length
      · have hpI : (pos : Int) < (l.length : Int) := by omega
        obtain ⟨b, off, rfl, hcell⟩ := (HRI.out.below (HB4.out.trans (HB2.out.mono HB4.out.size))).resolve_left (by intro e; rw [e] at hp; simp at hp)
        have hcp := hcell pos hp
        generalize l[pos] = kk at *
        clear hcell
        go_wp2_with fail
        refine (written_any ch kk (ch : Int) rfl w5 HCV.out HC2.out).mono ?_
        rintro e w6 ⟨rfl, hb6⟩
        have hX := written_len ch kk
        have HWX := Lib.hid (HWU.out kk)
        have HTX := Lib.hid (HTU.out kk)
        generalize writtenL ch kk = X at *
        have HIT6 := Lib.hid ((hb6.block w4.heap.size (by omega)).trans HIT2.out)
        have HB6 := Lib.hid (HB2.out.trans (hb6.mono HB2.out.size))
        clear hb6 hcp hnx
        go_wp2_with fail
        go_roundg (gk - m)
        case measure => omega
        case rel => exact ⟨pos + m, W ++ X, congrArg Value.string (st_cat (34 :: W) X), by omega, by rw [List.length_append]; omega, HWX, HTX, HTD2, HIT6, HB6⟩
      · have hpI : ¬ (pos : Int) < (l.length : Int) := by omega
        go_wp2_with fail
        refine (written_any ch 0 (ch : Int) rfl w5 HCV.out HC2.out).mono ?_
        rintro e w6 ⟨rfl, hb6⟩
        have hX := written_len ch 0
        have HWX := Lib.hid (HWU.out 0)
        have HTX := Lib.hid (HTU.out 0)
        generalize writtenL ch 0 = X at *
        have HIT6 := Lib.hid ((hb6.block w4.heap.size (by omega)).trans HIT2.out)
        have HB6 := Lib.hid (HB2.out.trans (hb6.mono HB2.out.size))
        clear hb6 hnx
        go_wp2_with fail
        go_roundg (gk - m)
        case measure => omega
        case rel => exact ⟨pos + m, W ++ X, congrArg Value.string (st_cat (34 :: W) X), by omega, by rw [List.length_append]; omega, HWX, HTX, HTD2, HIT6, HB6⟩
    · obtain rfl : pos = S.length := by omega
      have hnx := fun ty => Lib.run_next_end_at (P := Try.prog) wr w4.heap.size ⟨S.toArray⟩ S.length ty HIT.out (by simp [ByteArray.size])
      have HPW : Hid (parseL (34 :: (W ++ [34])) 1 = (jstr S, 0)) := Lib.hid (by
        have := HW.out
        rw [List.take_length] at this
        exact parse_WR this HTW.out (by omega))
      have HPQ : Hid (parseL Q 1 = (jstr S, 0)) := Lib.hid (by rw [← HQ.out]; exact parse_quote S HT.out (by omega))
      obtain ⟨cc, w6, hcv, hb6, hrd6, -⟩ := bytes_of_str (34 :: (W ++ [34])) wr
      have hcat : (⟨(34 :: W).toArray⟩ : ByteArray) ++ ⟨#[34]⟩ = ⟨(34 :: (W ++ [34])).toArray⟩ := st_cat (34 :: W) [34]
      have hlen : (34 :: (W ++ [34])).length ≤ 3000 := by simp; omega
      have hP := parse_any (34 :: (W ++ [34])) (some ⟨wr.heap.size, 0, none⟩) cc 1 w6 hrd6 (by omega)
      rw [HPW.out] at hP
      have hle : (34 :: (W ++ [34])).length = W.length + 1 + 1 := by simp
      rw [hle] at hP
      have HP := Lib.hid hP
      have HB6 := Lib.hid (HB4.out.trans ((HB.out.trans (hb6.mono HB.out.size)).mono HB4.out.size))
      clear hP hle hrd6 hb6
      go_wp2_with fail
      refine HP.out.mono ?_
      rintro e w7 ⟨hb7, cs7, A7, rfl, hrep7⟩
      have HB7 := Lib.hid (HB6.out.trans (hb7.mono HB6.out.size))
      obtain ⟨xa, xc, xa', xc', _, _, rfl, -⟩ := hrep7.parts
      simp only [jstr, JV.kind, JV.yes, JV.text, JV.list, JV.mem, strV, List.length_nil] at *
      clear hb7 hrep7 hcv hcat hnx
      go_upto_region 15 with (fail)
      generalize hw8 : w7.alloc _ = w8
      have hb8 : Below w7.heap.size w7 w8 := by rw [← hw8]; exact (Below.refl _ _).alloc (Nat.le_refl _) _
      have hx8 : w8.heap[w7.heap.size]? = some (.cells #[.int .i64 4, .bool false, .string ⟨S.toArray⟩, .slice xa 0 xc, .slice xa' 0 xc'] 31 (0, 0)) := by rw [← hw8]; exact heap_alloc_new _ _
      have HB8 := Lib.hid (HB7.out.trans (hb8.mono HB7.out.size))
      have HX8 := Lib.hid hx8
      have hs8 : w7.heap.size < w8.heap.size := (Array.getElem?_eq_some_iff.1 hx8).1
      obtain ⟨cq, w9, hcv9, hb9, hrd9, -⟩ := bytes_of_str Q w8
      have HPA := Lib.hid (parse_any Q (some ⟨w8.heap.size, 0, none⟩) cq 1 w9 hrd9 (by omega))
      have HB9 := Lib.hid (HB8.out.trans (hb9.mono HB8.out.size))
      have HX9 := Lib.hid ((hb9.block _ hs8).trans HX8.out)
      have hs9 : w7.heap.size < w9.heap.size := Nat.lt_of_lt_of_le hs8 hb9.size
      clear hw8 hb8 hx8 hrd9 hb9 HX8 HB8
      go_wp2_with fail
      refine HPA.out.mono ?_
      rw [HPQ.out]
      rintro e wA ⟨hbA, csA, AA, rfl, hrepA⟩
      have HBA := Lib.hid (HB9.out.trans (hbA.mono HB9.out.size))
      have HXA := Lib.hid ((hbA.block _ hs9).trans HX9.out)
      have hsA : w7.heap.size < wA.heap.size := Nat.lt_of_lt_of_le hs9 hbA.size
      obtain ⟨ya, yc, ya', yc', _, _, rfl, -⟩ := hrepA.parts
      simp only [JV.kind, JV.yes, JV.text, JV.list, JV.mem, strV, List.length_nil] at *
      clear hbA hrepA hcv9
      go_upto_region 16 with (fail)
      generalize hwB : wA.alloc _ = wB
      have hbB : Below wA.heap.size wA wB := by rw [← hwB]; exact (Below.refl _ _).alloc (Nat.le_refl _) _
      have hxB : wB.heap[wA.heap.size]? = some (.cells #[.int .i64 4, .bool false, .string ⟨S.toArray⟩, .slice ya 0 yc, .slice ya' 0 yc'] 31 (0, 0)) := by rw [← hwB]; exact heap_alloc_new _ _
      have HBB := Lib.hid (HBA.out.trans (hbB.mono HBA.out.size))
      have HXB := Lib.hid hxB
      have HXV := Lib.hid ((hbB.block _ hsA).trans HXA.out)
      have hsB : wA.heap.size < wB.heap.size := (Array.getElem?_eq_some_iff.1 hxB).1
      clear hwB hbB hxB
      go_wp2_with fail
      refine (refquote_any S wB (by omega)).mono ?_
      rw [HQ.out]
      rintro e wC ⟨rfl, hbC⟩
      have HBC := Lib.hid (HBB.out.trans (hbC.mono HBB.out.size))
      have xC := (hbC.block _ hsB).trans HXB.out
      have xV := (hbC.block _ (by omega)).trans HXV.out
      have d0 : wC.cell? ⟨w7.heap.size, 0, none⟩ = some (.int .i64 4) := by rw [Lib.cell_of_heap xV]; rfl
      have d2 : wC.cell? ⟨w7.heap.size, 2, none⟩ = some (.string ⟨S.toArray⟩) := by rw [Lib.cell_of_heap xV]; rfl
      have d3 : wC.cell? ⟨wA.heap.size, 2, none⟩ = some (.string ⟨S.toArray⟩) := by rw [Lib.cell_of_heap xC]; rfl
      clear hbC xC xV
      go_wp2_with fail
      refine bodyPost_ret (results_tmp rfl _ _ _) rfl ?_
      exact ⟨by simp, HBC.out⟩
end Go.Proofs.Ytgcfikiajingcaa
