/- The reference of package b64: letters as bytes, four at a time. -/
import Derived.Test.YtofoadpnfeamoaaB64e
import Derived.Test.YtofoadpnfeamoaaB64s
import Derived.Deep.DeepCutAuto
set_option linter.unusedVariables false
namespace Go.Proofs.Ytofoadpnfeamoaa
open Go.RowKit

set_option maxHeartbeats 1000000 in
theorem number_walk (c : Nat) (w : World) (hc : c < 256) :
    Calls Try.prog 50 #[.int .u8 c] w fun e w' => e = .returned (.int .i64 (numC c)) ∧ w' = w := by
  by_cases h1 : 65 ≤ c ∧ c ≤ 90
  · have hv : numC c = c - 65 := by unfold numC; rw [if_pos h1]
    have HV := Lib.hid hv
    obtain ⟨h1, h2⟩ := h1
    clear hv
    go_enter Try.func50, Try.ntmps50
    go_wp2
    go_ret
    exact ⟨by rw [HV.out]; simp, rfl⟩
  by_cases h2 : 97 ≤ c ∧ c ≤ 122
  · have hv : numC c = c - 71 := by unfold numC; rw [if_neg h1, if_pos h2]
    have HV := Lib.hid hv
    obtain ⟨h3, h4⟩ := h2
    clear hv
    go_enter Try.func50, Try.ntmps50
    go_wp2
    go_ret
    exact ⟨by rw [HV.out]; simp; omega, rfl⟩
  by_cases h3 : 48 ≤ c ∧ c ≤ 57
  · have hv : numC c = c + 4 := by unfold numC; rw [if_neg h1, if_neg h2, if_pos h3]
    have HV := Lib.hid hv
    obtain ⟨h5, h6⟩ := h3
    clear hv
    go_enter Try.func50, Try.ntmps50
    go_wp2
    go_ret
    exact ⟨by rw [HV.out]; simp; omega, rfl⟩
  by_cases h4 : c = 45
  · subst h4
    go_enter Try.func50, Try.ntmps50
    go_wp2
    go_ret
    exact ⟨rfl, rfl⟩
  by_cases h5 : c = 95
  · subst h5
    go_enter Try.func50, Try.ntmps50
    go_wp2
    go_ret
    exact ⟨rfl, rfl⟩
  · have hv : numC c = -1 := by unfold numC; rw [if_neg h1, if_neg h2, if_neg h3, if_neg h4, if_neg h5]
    have HV := Lib.hid hv
    clear hv
    have e4 : ((c : Int) == 45) = false := by simp; omega
    have e5 : ((c : Int) == 95) = false := by simp; omega
    go_enter Try.func50, Try.ntmps50
    go_wp2
    all_goals (go_ret; exact ⟨by rw [HV.out]; rfl, rfl⟩)

theorem number_any (C : Int) (x : UInt8) (w : World) (hC : C = x.toNat) :
    Calls Try.prog 50 #[.int .u8 C] w fun e w' => e = .returned (.int .i64 (numI x)) ∧ w' = w := by
  subst hC
  rw [numI_eq]
  exact number_walk x.toNat w x.toNat_lt

/-- What the reference's Decode answers. -/
def RefDec (B : Nat) (l : List UInt8) (w : World) (e : Ending) (w' : World) : Prop :=
  Below B w w' ∧ ((dec l = none ∧ e = .returned (.tuple #[.slice none 0 0, .bool false])) ∨ ∃ b v, dec l = some b ∧ b.length ≤ l.length ∧ e = .returned (.tuple #[v, .bool true]) ∧ Own B w' v b)

/-- At the head of a group: what is told so far. -/
def Head4 (l : List UInt8) (i : Nat) (ns : List Nat) (o : List UInt8) : Prop :=
  nums (l.take i) = some ns ∧ (i < l.length → ns.length % 4 = 0) ∧ dec4 ns = some o ∧ i % 4 = 0
/-- In a group: the numbers of its letters. -/
def In4 (l : List UInt8) (i t : Nat) (ns ms : List Nat) : Prop :=
  nums (l.take (i + t)) = some (ns ++ ms) ∧ ms.length ≤ t ∧ ms.length + i = min (i + t) l.length

theorem In4.more {l : List UInt8} {i t k : Nat} {ns ms : List Nat} (h : In4 l i t ns ms) (hlt : i + t < l.length) (hk : num64 l[i + t] = some k) : In4 l i (t + 1) ns (ms ++ [k]) ∧ gv (t + 1) (ms ++ [k]) = gv t ms * 64 + k := by
  obtain ⟨h1, h2, h3⟩ := h
  refine ⟨⟨?_, by simp; omega, by simp; omega⟩, gv_more t ms k (by omega)⟩
  rw [show i + (t + 1) = (i + t) + 1 by omega, List.take_succ_eq_append_getElem hlt, ← List.append_assoc]
  exact nums_snoc _ _ _ _ h1 hk
theorem In4.skip {l : List UInt8} {i t : Nat} {ns ms : List Nat} (h : In4 l i t ns ms) (hlt : l.length ≤ i + t) : In4 l i (t + 1) ns ms ∧ gv (t + 1) ms = gv t ms * 64 := by
  obtain ⟨h1, h2, h3⟩ := h
  refine ⟨⟨?_, by omega, by omega⟩, gv_skip t ms h2⟩
  rw [List.take_of_length_le (by omega)] at h1 ⊢
  exact h1
theorem In4.lt {l : List UInt8} {i t : Nat} {ns ms : List Nat} (h : In4 l i t ns ms) : ∀ x ∈ ms, x < 64 := fun x hx => (nums_some _ _ h.1).1 x (by simp [hx])

set_option maxRecDepth 100000 in
set_option maxHeartbeats 4000000 in
theorem refDecode_any (s : ByteArray) (w : World) (hl : s.size ≤ 1000000) :
    Calls Try.prog 30 #[.string s] w fun e w' => RefDec w.heap.size s.data.toList w e w' := by
  have hsz : s.data.toList.length = s.size := by simp
  have HSZ := Lib.hid hsz
  by_cases hodd : s.size % 4 = 1
  · have ht : (((s.size : Int) % 4) == 1) = true := by simp; omega
    have hd := dec_odd s.data.toList (by rw [hsz]; exact hodd)
    clear hsz hodd
    have HD := Lib.hid hd
    clear hd
    go_enter Try.func30, Try.ntmps30
    go_wp2
    go_ret2
    exact ⟨Below.refl _ _, .inl ⟨HD.out, rfl⟩⟩
  have ht : (((s.size : Int) % 4) == 1) = false := by simp; omega
  have HODD := Lib.hid hodd
  clear hsz hodd
  go_enter Try.func30, Try.ntmps30
  go_wp2
  go_loopg [4, 5] (s.size + 4) (fun k v i wr => ∃ (j : Nat) (ns : List Nat) (o : List UInt8), j + k = s.size + 4 ∧ j < s.size + 4 ∧ i = .int .i64 j ∧ o.length ≤ j ∧ (s.size ≤ j → o.length ≤ s.size) ∧ Hid (Head4 s.data.toList j ns o) ∧ Own w.heap.size wr v o ∧ Below w.heap.size w wr)
  case atStart => exact ⟨0, [], [], by omega, by omega, rfl, by simp, by simp, Lib.hid ⟨rfl, fun _ => rfl, rfl, rfl⟩, Own.nil _ _, Below.refl _ _⟩
  case round =>
    obtain ⟨gO, rfl⟩ : ∃ x : Nat, x = gk := ⟨_, rfl⟩
    obtain ⟨j, ns, o, hj, hj4, rfl, hol, hol2, hhead, hown, hbel⟩ := hrel
    by_cases hlt : j < s.size
    · go_wp2
      go_loopg [6, 7, 8] 4 (fun q x y z wq => ∃ (t : Nat) (ms : List Nat), t + q = 4 ∧ z = .int .i64 (↑(j + t)) ∧ x = .int .i64 (gv t ms) ∧ y = .int .i64 ms.length ∧ Hid (In4 s.data.toList j t ns ms) ∧ wr = wq)
      case atStart =>
        refine ⟨0, [], by omega, rfl, rfl, rfl, Lib.hid ⟨?_, by simp, ?_⟩, rfl⟩
        · simpa using hhead.out.1
        · simp [HSZ.out]; omega
      case round =>
        obtain ⟨t, ms, ht4, rfl, rfl, rfl, hin, rfl⟩ := hrel
        have hgv := gv_lt t ms hin.out.2.1 hin.out.lt
        by_cases htt : t < 4
        · have hgv3 : gv t ms < 262144 := Nat.lt_of_lt_of_le hgv (Nat.pow_le_pow_right (by decide) (show t ≤ 3 by omega))
          have hml : ms.length ≤ 3 := by have := hin.out.2.1; omega
          obtain ⟨G, hG⟩ : ∃ G, gv t ms = G := ⟨_, rfl⟩
          rw [hG] at hgv3
          rw [hG]
          have HG := Lib.hid hG
          clear hgv hG
          by_cases hjt : j + t < s.size
          · have hix := index_at s (j + t) hjt
            have hjt2 : j + t < s.data.toList.length := by rw [HSZ.out]; exact hjt
            have hval : ((s[j + t].toNat : Nat) : Int) = ((s.data.toList[j + t]).toNat : Int) := by simp; rfl
            have HVAL := Lib.hid hval
            clear hix hval
            go_wp2_with fail
            refine (number_any _ s.data.toList[j + t] _ ?_).mono ?_
            · exact HVAL.out
            rintro e w1 ⟨rfl, rfl⟩
            rcases numI_cases s.data.toList[j + t] with ⟨hn, he⟩ | ⟨k, hn, he, hk64⟩
            · rw [he]
              have HN := Lib.hid hn
              clear hn he
              go_wp2
              go_ret2
              exact ⟨hbel, .inl ⟨dec_none _ _ hjt2 HN.out, rfl⟩⟩
            · rw [he]
              have HN := Lib.hid hn
              clear hn he
              go_wp2
              go_roundg (gk - 1)
              case measure => omega
              case rel =>
                obtain ⟨h1, h2⟩ := hin.out.more hjt2 HN.out
                rw [HG.out] at h2
                exact ⟨t + 1, ms ++ [k], by omega, by go_num, by rw [h2]; go_num, by simp, Lib.hid h1, rfl⟩
          · go_wp2
            go_roundg (gk - 1)
            case measure => omega
            case rel =>
              obtain ⟨h1, h2⟩ := hin.out.skip (by rw [HSZ.out]; omega)
              rw [HG.out] at h2
              exact ⟨t + 1, ms, by omega, by go_num, by rw [h2]; go_num, rfl, Lib.hid h1, rfl⟩
        · have ht4' : t = 4 := by omega
          subst ht4'
          have hgv4 : gv 4 ms < 16777216 := hgv
          obtain ⟨G, hG⟩ : ∃ G, gv 4 ms = G := ⟨_, rfl⟩
          rw [hG] at hgv4
          rw [hG]
          have HG := Lib.hid hG
          clear hgv hG
          have hml4 : ms.length ≤ 4 := hin.out.2.1
          have hml2 : 2 ≤ ms.length := by
            have h3 := hin.out.2.2
            have h4 := hhead.out.2.2.2
            have h5 := HODD.out
            rw [HSZ.out] at h3
            omega
          obtain ⟨m, hm⟩ : ∃ m, ms.length = m := ⟨_, rfl⟩
          rw [hm] at hml4 hml2
          rw [hm]
          have HM := Lib.hid hm
          clear hm
          have hcells : ints8 (three G) = [.int .u8 ((G : Int) / 65536), .int .u8 ((G : Int) / 256 % 256), .int .u8 ((G : Int) % 256)] := by simp [ints8, three]
          have HC := Lib.hid hcells
          clear hcells
          have hown2 := hown.alloc (.cells #[.int .u8 ((G : Int) / 65536), .int .u8 ((G : Int) / 256 % 256), .int .u8 ((G : Int) % 256)] 81)
          have hbel2 := hbel.alloc hbel.size (.cells #[.int .u8 ((G : Int) / 65536), .int .u8 ((G : Int) / 256 % 256), .int .u8 ((G : Int) % 256)] 81)
          have hblock : (wr.alloc (.cells #[.int .u8 ((G : Int) / 65536), .int .u8 ((G : Int) / 256 % 256), .int .u8 ((G : Int) % 256)] 81)).heap[wr.heap.size]? = some (.cells (ints8 (three G)).toArray 81) := by
            rw [HC.out]; exact heap_alloc_new wr _
          have HB := Lib.hid hblock
          clear hblock
          go_wp2
          obtain ⟨wo, rfl⟩ : ∃ wo : World, wo = wr := ⟨_, rfl⟩
          go_loopg [4, 11] 3 (fun k v2 x wq => ∃ q : Nat, q + k = 3 ∧ x = .int .i64 q ∧ Own w.heap.size wq v2 (o ++ ((three G).take (min q (m - 1))).map byt) ∧ Below w.heap.size w wq ∧ Hid (wq.heap[wo.heap.size]? = some (.cells (ints8 (three G)).toArray 81)) ∧ Hid (Zer G m q))
          case atStart =>
            refine ⟨0, by omega, rfl, ?_, ?_, ?_, ?_⟩
            · simpa using hown2
            · exact hbel2
            · exact HB
            · exact Lib.hid (fun i h3 hi => by omega)
          case round =>
            clear hown2 hbel2 HB
            obtain ⟨q, hq, rfl, hown3, hbel3, hblk, hzer⟩ := hrel
            by_cases hq3 : q < 3
            · have hq3L : q < (three G).length := hq3
              have hcell := cell_ints8 hblk.out (j := q) hq3L
              have hb256 : (three G)[q]'hq3L < 256 := three_lt G hgv4 q hq3
              obtain ⟨x, hx⟩ : ∃ x, (three G)[q]'hq3L = x := ⟨_, rfl⟩
              rw [hx] at hcell hb256
              have HX := Lib.hid hx
              clear hx
              by_cases hqm : q < m - 1
              · have hqm' : (q : Int) < (m : Int) - 1 := by omega
                have htk : (o ++ ((three G).take (min q (m - 1))).map byt) ++ [byt x] = o ++ ((three G).take (min (q + 1) (m - 1))).map byt := by
                  rw [Nat.min_eq_left (by omega), Nat.min_eq_left (by omega), List.take_succ_eq_append_getElem hq3L, HX.out]
                  simp
                have HT := Lib.hid htk
                have hle : (o ++ ((three G).take (min q (m - 1))).map byt).length ≤ 5000000 := by
                  have : ((three G).take (min q (m - 1))).length ≤ 3 := by
                    have := List.length_take_le (min q (m - 1)) (three G); have h3 : (three G).length = 3 := rfl; simp only [List.length_take, h3]; omega
                  simp only [List.length_append, List.length_map]
                  omega
                clear htk
                have hxb : (byt x).toNat = x := toNat_of x hb256
                have HXB := Lib.hid hxb
                clear hxb
                go_wp2_with (at_builtin; go_loud (refine wpList_append_rd rfl (.tmp 65) (.tmp 69) rfl w.heap.size _ (o ++ ((three G).take (min q (m - 1))).map byt) rfl (hown3.alloc _) (some ⟨wr.heap.size, 0, none⟩) [byt x] 1 1 rfl rfl (Rd.of_lit (T := 5) (fr := (0, 0)) [byt x] ?c0) ?c1 ?c2 ?_))
                case c0 => rw [heap_alloc_new]; simp [Lib.byteCells, HXB.out]
                case c1 => simp only [List.length_singleton]; omega
                case c2 => have := hbel3.size; simp; omega
                intro v4 w4 hown4 hg4
                have hblk4 := Lib.hid ((hown3.alloc (.cells #[.int .u8 (x : Int)] 5)).other hg4 (block_alloc hblk.out _) (by decide))
                have hbel4 := below_grow (hbel3.alloc hbel3.size (.cells #[.int .u8 (x : Int)] 5)) (hown3.alloc _) hg4 (by have := hbel3.size; simp; omega)
                go_wp2
                go_roundg (gk - 1)
                case measure => omega
                case rel => exact ⟨q + 1, by omega, by go_num, by rw [← HT.out]; simpa using hown4, hbel4, hblk4, Lib.hid (fun i h3 hi hm => by
                  rcases Nat.lt_or_ge i q with h' | h'
                  · exact hzer.out i h3 h' hm
                  · omega)⟩
              · have hqm' : ¬ (q : Int) < (m : Int) - 1 := by omega
                by_cases hx0 : x = 0
                · have ht0 : ((x : Int) != 0) = false := by simp [hx0]
                  have HX0 := Lib.hid hx0
                  clear hx0
                  go_wp2
                  go_roundg (gk - 1)
                  case measure => omega
                  case rel =>
                    refine ⟨q + 1, by omega, by go_num, ?_, hbel3, hblk, Lib.hid (fun i h3 hi hm => ?_)⟩
                    · rw [Nat.min_eq_right (by omega)] at hown3 ⊢
                      exact hown3
                    · rcases Nat.lt_or_ge i q with h' | h'
                      · exact hzer.out i h3 h' hm
                      · have : i = q := by omega
                        subst this
                        exact HX.out.trans HX0.out
                · have ht0 : ((x : Int) != 0) = true := by simp; omega
                  have hnot : dec s.data.toList = none := by
                    have h1 := hin.out.1
                    rw [List.take_of_length_le (by rw [HSZ.out]; have := hin.out.2.2; rw [HSZ.out, HM.out] at this; omega)] at h1
                    rw [dec_eq, h1]
                    simp only
                    rw [dec4_app ns ms (hhead.out.2.1 (by rw [HSZ.out]; exact hlt)), hhead.out.2.2.1, dec4_grp ms hin.out.lt (by rw [HM.out]; exact hml2) (by rw [HM.out]; exact hml4), HM.out, HG.out, if_neg (Zer.not hq3 (by omega) (fun e => hx0 (HX.out.symm.trans e)))]
                    rfl
                  have HNOT := Lib.hid hnot
                  clear hnot
                  go_wp2
                  go_ret2
                  exact ⟨hbel3, .inl ⟨HNOT.out, rfl⟩⟩
            · have hq3' : q = 3 := by omega
              subst hq3'
              rw [Nat.min_eq_right (by omega)] at hown3
              go_wp2
              go_roundg (gO - 4)
              case measure => omega
              case rel =>
                have h32 := hin.out.2.2
                rw [HSZ.out, HM.out] at h32
                have hd4 := dec4_app ns ms (hhead.out.2.1 (by rw [HSZ.out]; exact hlt))
                rw [hhead.out.2.2.1, dec4_grp ms hin.out.lt (by rw [HM.out]; exact hml2) (by rw [HM.out]; exact hml4), HM.out, HG.out, if_pos hzer.out.end] at hd4
                have h3l : (three G).length = 3 := rfl
                have hhl := hhead.out.2.1 (by rw [HSZ.out]; exact hlt)
                refine ⟨j + 4, ns ++ ms, _, by omega, by omega, by go_num, ?_, ?_, Lib.hid ⟨hin.out.1, ?_, hd4, by have := hhead.out.2.2.2; omega⟩, hown3, hbel3⟩
                · simp only [List.length_append, List.length_map, List.length_take, h3l]; omega
                · intro hsz; simp only [List.length_append, List.length_map, List.length_take, h3l]; omega
                · intro h; rw [HSZ.out] at h; simp only [List.length_append, HM.out]; omega
    · have hdec : dec s.data.toList = some o := by
        have h1 := hhead.out.1
        rw [List.take_of_length_le (by rw [HSZ.out]; omega)] at h1
        rw [dec_eq, h1]
        exact hhead.out.2.2.1
      have hol3 : o.length ≤ s.data.toList.length := by rw [HSZ.out]; exact hol2 (by omega)
      have HDEC := Lib.hid (And.intro hdec hol3)
      clear hdec hol3 hol2
      go_wp2
      go_ret2
      exact ⟨hbel, .inr ⟨o, _, HDEC.out.1, HDEC.out.2, rfl, hown⟩⟩
end Go.Proofs.Ytofoadpnfeamoaa
