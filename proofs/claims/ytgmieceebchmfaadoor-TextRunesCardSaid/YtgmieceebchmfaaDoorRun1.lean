/- Go's own characters against the document's. Plain. -/
import Derived.Test.YtgmieceebchmfaaDoorTxtP
import Derived.Lib.DecodeN
set_option linter.unusedVariables false
namespace Go.Proofs.YtgmieceebchmfaaDoor

theorem take3 : ∀ (u : List UInt8), u.take 3 = [239, 191, 189] ↔ 3 ≤ u.length ∧ (u.getD 0 0).toNat = 239 ∧ (u.getD 1 0).toNat = 191 ∧ (u.getD 2 0).toNat = 189
  | [] => by simp
  | [a] => by simp
  | [a, b] => by simp
  | a :: b :: c :: r => by
    have h1 : a = 239 ↔ a.toNat = 239 := UInt8.toNat_inj.symm
    have h2 : b = 191 ↔ b.toNat = 191 := UInt8.toNat_inj.symm
    have h3 : c = 189 ↔ c.toNat = 189 := UInt8.toNat_inj.symm
    simp [h1, h2, h3]
/-- The document's, by numbers. -/
def chrV (n b0 b1 b2 b3 : Nat) : Nat :=
  if b0 < 128 then 1
  else if b0 < 194 then 0
  else if b0 < 224 then (if 1 < n ∧ 128 ≤ b1 ∧ b1 ≤ 191 then 2 else 0)
  else if b0 < 240 then (if (1 < n ∧ (if b0 = 224 then 160 else 128) ≤ b1 ∧ b1 ≤ (if b0 = 237 then 159 else 191)) ∧ 2 < n ∧ 128 ≤ b2 ∧ b2 ≤ 191 then 3 else 0)
  else if b0 < 245 then (if ((1 < n ∧ (if b0 = 240 then 144 else 128) ≤ b1 ∧ b1 ≤ (if b0 = 244 then 143 else 191)) ∧ 2 < n ∧ 128 ≤ b2 ∧ b2 ≤ 191) ∧ 3 < n ∧ 128 ≤ b3 ∧ b3 ≤ 191 then 4 else 0)
  else 0
theorem chr_val (u : List UInt8) : chr u = chrV u.length (u.getD 0 0).toNat (u.getD 1 0).toNat (u.getD 2 0).toNat (u.getD 3 0).toNat := by
  unfold chr chrC chrV inB lo3 hi3 lo4 hi4
  simp only [Bool.and_eq_true, decide_eq_true_eq]
theorem dec_chr_ascii (n b0 b1 b2 b3 : Nat) (h0 : b0 < 128) : Lib.decodeN n b0 b1 b2 b3 = (b0, 1) ∧ chrV n b0 b1 b2 b3 = 1 := by
  unfold Lib.decodeN chrV
  simp [h0]
theorem dec_chr (n b0 b1 b2 b3 : Nat) (h0 : b0 < 256) (h1 : b1 < 256) (h2 : b2 < 256) (h3 : b3 < 256) (hn : 1 ≤ n) :
    ∃ c m, Lib.decodeN n b0 b1 b2 b3 = (c, m) ∧
      ((chrV n b0 b1 b2 b3 = 0 ∧ c = 65533 ∧ m = 1 ∧ ¬ (3 ≤ n ∧ b0 = 239 ∧ b1 = 191 ∧ b2 = 189)) ∨ (chrV n b0 b1 b2 b3 = m ∧ 1 ≤ m ∧ (c = 65533 → 3 ≤ n ∧ b0 = 239 ∧ b1 = 191 ∧ b2 = 189))) := by
  by_cases a1 : b0 < 128
  · obtain ⟨e1, e2⟩ := dec_chr_ascii n b0 b1 b2 b3 a1
    exact ⟨b0, 1, e1, .inr ⟨e2, by omega, by omega⟩⟩
  unfold Lib.decodeN chrV
  rw [if_neg a1, if_neg a1]
  by_cases a2 : b0 < 194
  · rw [if_pos a2]
    have n1 : ¬ (b0 / 16 = 14 ∧ (1 < n ∧ b1 / 64 = 2) ∧ (2 < n ∧ b2 / 64 = 2)) := by omega
    have n2 : ¬ (b0 / 8 = 30 ∧ (1 < n ∧ b1 / 64 = 2) ∧ (2 < n ∧ b2 / 64 = 2) ∧ (3 < n ∧ b3 / 64 = 2)) := by omega
    rw [if_neg n1, if_neg n2]
    split
    · rename_i h
      rw [if_neg (by omega)]
      exact ⟨_, _, rfl, .inl ⟨rfl, rfl, rfl, by omega⟩⟩
    · exact ⟨_, _, rfl, .inl ⟨rfl, rfl, rfl, by omega⟩⟩
  rw [if_neg a2]
  by_cases a3 : b0 < 224
  · rw [if_pos a3]
    have n1 : ¬ (b0 / 16 = 14 ∧ (1 < n ∧ b1 / 64 = 2) ∧ (2 < n ∧ b2 / 64 = 2)) := by omega
    have n2 : ¬ (b0 / 8 = 30 ∧ (1 < n ∧ b1 / 64 = 2) ∧ (2 < n ∧ b2 / 64 = 2) ∧ (3 < n ∧ b3 / 64 = 2)) := by omega
    rw [if_neg n1, if_neg n2]
    by_cases k : 1 < n ∧ 128 ≤ b1 ∧ b1 ≤ 191
    · rw [if_pos k, if_pos (by omega), if_pos (by omega)]
      exact ⟨_, _, rfl, .inr ⟨rfl, by omega, by omega⟩⟩
    · rw [if_neg k, if_neg (by omega)]
      exact ⟨_, _, rfl, .inl ⟨rfl, rfl, rfl, by omega⟩⟩
  rw [if_neg a3]
  have n0 : ¬ (b0 / 32 = 6 ∧ (1 < n ∧ b1 / 64 = 2)) := by omega
  rw [if_neg n0]
  by_cases a4 : b0 < 240
  · rw [if_pos a4]
    have n2 : ¬ (b0 / 8 = 30 ∧ (1 < n ∧ b1 / 64 = 2) ∧ (2 < n ∧ b2 / 64 = 2) ∧ (3 < n ∧ b3 / 64 = 2)) := by omega
    rw [if_neg n2]
    by_cases k : (1 < n ∧ (if b0 = 224 then 160 else 128) ≤ b1 ∧ b1 ≤ (if b0 = 237 then 159 else 191)) ∧ 2 < n ∧ 128 ≤ b2 ∧ b2 ≤ 191
    · rw [if_pos k]
      have k' : 1 < n ∧ 128 ≤ b1 ∧ b1 ≤ 191 ∧ 2 < n ∧ 128 ≤ b2 ∧ b2 ≤ 191 ∧ (b0 = 224 → 160 ≤ b1) ∧ (b0 = 237 → b1 ≤ 159) := by
        split at k <;> split at k <;> omega
      rw [if_pos (by omega), if_pos (by omega)]
      exact ⟨_, _, rfl, .inr ⟨rfl, by omega, by omega⟩⟩
    · rw [if_neg k]
      have k' : ¬ (1 < n ∧ 128 ≤ b1 ∧ b1 ≤ 191 ∧ 2 < n ∧ 128 ≤ b2 ∧ b2 ≤ 191 ∧ (b0 = 224 → 160 ≤ b1) ∧ (b0 = 237 → b1 ≤ 159)) := by
        intro q
        apply k
        split <;> split <;> omega
      split
      · rw [if_neg (by omega)]
        exact ⟨_, _, rfl, .inl ⟨rfl, rfl, rfl, by omega⟩⟩
      · exact ⟨_, _, rfl, .inl ⟨rfl, rfl, rfl, by omega⟩⟩
  rw [if_neg a4]
  have n3 : ¬ (b0 / 16 = 14 ∧ (1 < n ∧ b1 / 64 = 2) ∧ (2 < n ∧ b2 / 64 = 2)) := by omega
  rw [if_neg n3]
  by_cases a5 : b0 < 245
  · rw [if_pos a5]
    by_cases k : ((1 < n ∧ (if b0 = 240 then 144 else 128) ≤ b1 ∧ b1 ≤ (if b0 = 244 then 143 else 191)) ∧ 2 < n ∧ 128 ≤ b2 ∧ b2 ≤ 191) ∧ 3 < n ∧ 128 ≤ b3 ∧ b3 ≤ 191
    · rw [if_pos k]
      have k' : 1 < n ∧ 128 ≤ b1 ∧ b1 ≤ 191 ∧ 2 < n ∧ 128 ≤ b2 ∧ b2 ≤ 191 ∧ 3 < n ∧ 128 ≤ b3 ∧ b3 ≤ 191 ∧ (b0 = 240 → 144 ≤ b1) ∧ (b0 = 244 → b1 ≤ 143) := by
        split at k <;> split at k <;> omega
      rw [if_pos (by omega), if_pos (by omega)]
      exact ⟨_, _, rfl, .inr ⟨rfl, by omega, by omega⟩⟩
    · rw [if_neg k]
      have k' : ¬ (1 < n ∧ 128 ≤ b1 ∧ b1 ≤ 191 ∧ 2 < n ∧ 128 ≤ b2 ∧ b2 ≤ 191 ∧ 3 < n ∧ 128 ≤ b3 ∧ b3 ≤ 191 ∧ (b0 = 240 → 144 ≤ b1) ∧ (b0 = 244 → b1 ≤ 143)) := by
        intro q
        apply k
        split <;> split <;> omega
      split
      · rw [if_neg (by omega)]
        exact ⟨_, _, rfl, .inl ⟨rfl, rfl, rfl, by omega⟩⟩
      · exact ⟨_, _, rfl, .inl ⟨rfl, rfl, rfl, by omega⟩⟩
  · rw [if_neg a5]
    split
    · rw [if_neg (by omega)]
      exact ⟨_, _, rfl, .inl ⟨rfl, rfl, rfl, by omega⟩⟩
    · exact ⟨_, _, rfl, .inl ⟨rfl, rfl, rfl, by omega⟩⟩
theorem decode_chr (S : List UInt8) (i : Nat) (h : i < S.length) :
    ∃ c m, Utf8.decode ⟨S.toArray⟩ i = (c, m) ∧
      ((chr (S.drop i) = 0 ∧ c = 65533 ∧ m = 1 ∧ (S.drop i).take 3 ≠ [239, 191, 189]) ∨ (chr (S.drop i) = m ∧ 1 ≤ m ∧ (c = 65533 → i + 3 ≤ S.length ∧ (S.drop i).take 3 = [239, 191, 189]))) := by
  rw [Lib.decode_at]
  have hg : ∀ k, (⟨S.toArray⟩ : ByteArray).get! k = S.getD k 0 := by
    intro k
    show S.toArray.getD k default = _
    simp [List.getD_eq_getElem?_getD]
    rfl
  have hs : (⟨S.toArray⟩ : ByteArray).size = S.length := by simp [ByteArray.size]
  rw [hg, hg, hg, hg, hs]
  have hc := chr_val (S.drop i)
  have ht := take3 (S.drop i)
  simp only [getD_drop, List.length_drop, Nat.add_zero] at hc ht
  obtain ⟨c, m, h1, h2⟩ := dec_chr (S.length - i) (S.getD i 0).toNat (S.getD (i + 1) 0).toNat (S.getD (i + 2) 0).toNat (S.getD (i + 3) 0).toNat (UInt8.toNat_lt _) (UInt8.toNat_lt _) (UInt8.toNat_lt _) (UInt8.toNat_lt _) (by omega)
  refine ⟨c, m, h1, ?_⟩
  rw [hc]
  rcases h2 with ⟨q1, q2, q3, q4⟩ | ⟨q1, q2, q3⟩
  · exact .inl ⟨q1, q2, q3, fun e => q4 (ht.1 e)⟩
  · exact .inr ⟨q1, q2, fun e => ⟨by have := q3 e; omega, ht.2 (q3 e)⟩⟩
theorem toldB_step (u : List UInt8) (h : u ≠ []) : toldB u = if chr u = 0 then false else toldB (u.drop (chr u)) := by
  unfold toldB
  rw [wrongL_ne u h]
  split
  · rfl
  · cases wrongL (u.drop (chr u)) <;> rfl
end Go.Proofs.YtgmieceebchmfaaDoor
