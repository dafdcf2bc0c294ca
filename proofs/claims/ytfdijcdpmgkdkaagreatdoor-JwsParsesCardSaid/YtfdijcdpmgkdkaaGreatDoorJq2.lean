/- Merged: B64f, Jw9, JwA, GrowF, JwB, JwF. -/
import Derived.Deep.DeepCutAuto
import Derived.Lib.SlBytesConst
import Derived.Test.YtfdijcdpmgkdkaaGreatDoorJm1
import Derived.Test.YtfdijcdpmgkdkaaGreatDoorJm2
import Derived.Test.YtfdijcdpmgkdkaaGreatDoorJm3
import Derived.Test.YtfdijcdpmgkdkaaGreatDoorJm4
import Derived.Test.YtfdijcdpmgkdkaaGreatDoorJm5
import Derived.Test.YtfdijcdpmgkdkaaGreatDoorJm6
import Derived.Test.YtfdijcdpmgkdkaaGreatDoorJm7
import Derived.Test.YtfdijcdpmgkdkaaGreatDoorJq1
set_option linter.unusedVariables false
namespace Go.Proofs.YtfdijcdpmgkdkaaGreatDoor
open Go.RowKit

set_option maxHeartbeats 1000000 in
theorem number_walk (c : Nat) (w : World) (hc : c < 256) :
    Calls Tryz.prog 120 #[.int .u8 c] w fun e w' => e = .returned (.int .i64 (numCh c)) ∧ w' = w := by
  by_cases h1 : 65 ≤ c ∧ c ≤ 90
  · have hv : numCh c = c - 65 := by unfold numCh; rw [if_pos h1]
    have HV := Lib.hid hv
    obtain ⟨h1, h2⟩ := h1
    clear hv
    go_enter Tryz.func120, Tryz.ntmps120
    go_wp2
    go_ret
    exact ⟨by rw [HV.out]; simp, rfl⟩
  by_cases h2 : 97 ≤ c ∧ c ≤ 122
  · have hv : numCh c = c - 71 := by unfold numCh; rw [if_neg h1, if_pos h2]
    have HV := Lib.hid hv
    obtain ⟨h3, h4⟩ := h2
    clear hv
    go_enter Tryz.func120, Tryz.ntmps120
    go_wp2
    go_ret
    exact ⟨by rw [HV.out]; simp; omega, rfl⟩
  by_cases h3 : 48 ≤ c ∧ c ≤ 57
  · have hv : numCh c = c + 4 := by unfold numCh; rw [if_neg h1, if_neg h2, if_pos h3]
    have HV := Lib.hid hv
    obtain ⟨h5, h6⟩ := h3
    clear hv
    go_enter Tryz.func120, Tryz.ntmps120
    go_wp2
    go_ret
    exact ⟨by rw [HV.out]; simp; omega, rfl⟩
  by_cases h4 : c = 45
  · subst h4
    go_enter Tryz.func120, Tryz.ntmps120
    go_wp2
    go_ret
    exact ⟨rfl, rfl⟩
  by_cases h5 : c = 95
  · subst h5
    go_enter Tryz.func120, Tryz.ntmps120
    go_wp2
    go_ret
    exact ⟨rfl, rfl⟩
  · have hv : numCh c = -1 := by unfold numCh; rw [if_neg h1, if_neg h2, if_neg h3, if_neg h4, if_neg h5]
    have HV := Lib.hid hv
    clear hv
    have e4 : ((c : Int) == 45) = false := by simp; omega
    have e5 : ((c : Int) == 95) = false := by simp; omega
    go_enter Tryz.func120, Tryz.ntmps120
    go_wp2
    all_goals (go_ret; exact ⟨by rw [HV.out]; rfl, rfl⟩)

theorem number_any (C : Int) (x : UInt8) (w : World) (hC : C = x.toNat) :
    Calls Tryz.prog 120 #[.int .u8 C] w fun e w' => e = .returned (.int .i64 (numI x)) ∧ w' = w := by
  subst hC
  rw [numI_eq]
  exact number_walk x.toNat w x.toNat_lt

/-- What the reference's Decode answers. -/
def RefDec (B : Nat) (l : List UInt8) (w : World) (e : Ending) (w' : World) : Prop :=
  Below B w w' ∧ ((dec l = none ∧ e = .returned (.tuple #[.slice none 0 0, .bool false])) ∨ ∃ b v, dec l = some b ∧ b.length ≤ l.length ∧ e = .returned (.tuple #[v, .bool true]) ∧ Own B w' v b)

/-- At the head of a group: what is told so far. -/
def Head4 (l : List UInt8) (i : Nat) (ns : List Nat) (o : List UInt8) : Prop :=
  nums (l.take i) = some ns ∧ (i < l.length → ns.length % 4 = 0) ∧ dec4 ns = some o ∧ i % 4 = 0
/-- In a group: the numbers of its letters. -/
def In4 (l : List UInt8) (i t : Nat) (ns ms : List Nat) : Prop :=
  nums (l.take (i + t)) = some (ns ++ ms) ∧ ms.length ≤ t ∧ ms.length + i = min (i + t) l.length

theorem In4.more {l : List UInt8} {i t k : Nat} {ns ms : List Nat} (h : In4 l i t ns ms) (hlt : i + t < l.length) (hk : num64 l[i + t] = some k) : In4 l i (t + 1) ns (ms ++ [k]) ∧ gv (t + 1) (ms ++ [k]) = gv t ms * 64 + k := by
  obtain ⟨h1, h2, h3⟩ := h
  refine ⟨⟨?_, by simp; omega, by simp; omega⟩, gv_more t ms k (by omega)⟩
  rw [show i + (t + 1) = (i + t) + 1 by omega, List.take_succ_eq_append_getElem hlt, ← List.append_assoc]
  exact nums_snoc _ _ _ _ h1 hk
theorem In4.skip {l : List UInt8} {i t : Nat} {ns ms : List Nat} (h : In4 l i t ns ms) (hlt : l.length ≤ i + t) : In4 l i (t + 1) ns ms ∧ gv (t + 1) ms = gv t ms * 64 := by
  obtain ⟨h1, h2, h3⟩ := h
  refine ⟨⟨?_, by omega, by omega⟩, gv_skip t ms h2⟩
  rw [List.take_of_length_le (by omega)] at h1 ⊢
  exact h1
theorem In4.lt {l : List UInt8} {i t : Nat} {ns ms : List Nat} (h : In4 l i t ns ms) : ∀ x ∈ ms, x < 64 := fun x hx => (nums_some _ _ h.1).1 x (by simp [hx])

set_option maxRecDepth 100000 in
set_option maxHeartbeats 4000000 in
theorem refDecode_any (s : ByteArray) (w : World) (hl : s.size ≤ 1000000) :
    Calls Tryz.prog 79 #[.string s] w fun e w' => RefDec w.heap.size s.data.toList w e w' := by
  have hsz : s.data.toList.length = s.size := by simp
  have HSZ := Lib.hid hsz
  by_cases hodd : s.size % 4 = 1
  · have ht : (((s.size : Int) % 4) == 1) = true := by simp; omega
    have hd := dec_odd s.data.toList (by rw [hsz]; exact hodd)
    clear hsz hodd
    have HD := Lib.hid hd
    clear hd
    go_enter Tryz.func79, Tryz.ntmps79
    go_wp2
    go_ret2
    exact ⟨Below.refl _ _, .inl ⟨HD.out, rfl⟩⟩
  have ht : (((s.size : Int) % 4) == 1) = false := by simp; omega
  have HODD := Lib.hid hodd
  clear hsz hodd
  go_enter Tryz.func79, Tryz.ntmps79
  go_wp2
  go_loopg [4, 5] (s.size + 4) (fun k v i wr => ∃ (j : Nat) (ns : List Nat) (o : List UInt8), j + k = s.size + 4 ∧ j < s.size + 4 ∧ i = .int .i64 j ∧ o.length ≤ j ∧ (s.size ≤ j → o.length ≤ s.size) ∧ Hid (Head4 s.data.toList j ns o) ∧ Own w.heap.size wr v o ∧ Below w.heap.size w wr)
  case atStart => exact ⟨0, [], [], by omega, by omega, rfl, by simp, by simp, Lib.hid ⟨rfl, fun _ => rfl, rfl, rfl⟩, Own.nil _ _, Below.refl _ _⟩
  case round =>
    obtain ⟨gO, rfl⟩ : ∃ x : Nat, x = gk := ⟨_, rfl⟩
    obtain ⟨j, ns, o, hj, hj4, rfl, hol, hol2, hhead, hown, hbel⟩ := hrel
    by_cases hlt : j < s.size
    · go_wp2
      go_loopg [6, 7, 8] 4 (fun q x y z wq => ∃ (t : Nat) (ms : List Nat), t + q = 4 ∧ z = .int .i64 (↑(j + t)) ∧ x = .int .i64 (gv t ms) ∧ y = .int .i64 ms.length ∧ Hid (In4 s.data.toList j t ns ms) ∧ wr = wq)
      case atStart =>
        refine ⟨0, [], by omega, rfl, rfl, rfl, Lib.hid ⟨?_, by simp, ?_⟩, rfl⟩
        · simpa using hhead.out.1
        · simp [HSZ.out]; omega
      case round =>
        obtain ⟨t, ms, ht4, rfl, rfl, rfl, hin, rfl⟩ := hrel
        have hgv := gv_lt t ms hin.out.2.1 hin.out.lt
        by_cases htt : t < 4
        · have hgv3 : gv t ms < 262144 := Nat.lt_of_lt_of_le hgv (Nat.pow_le_pow_right (by decide) (show t ≤ 3 by omega))
          have hml : ms.length ≤ 3 := by have := hin.out.2.1; omega
          obtain ⟨G, hG⟩ : ∃ G, gv t ms = G := ⟨_, rfl⟩
          rw [hG] at hgv3
          rw [hG]
          have HG := Lib.hid hG
          clear hgv hG
          by_cases hjt : j + t < s.size
          · have hix := index_at s (j + t) hjt
            have hjt2 : j + t < s.data.toList.length := by rw [HSZ.out]; exact hjt
            have hval : ((s[j + t].toNat : Nat) : Int) = ((s.data.toList[j + t]).toNat : Int) := by simp; rfl
            have HVAL := Lib.hid hval
            clear hix hval
            go_wp2_with fail
            refine (number_any _ s.data.toList[j + t] _ ?_).mono ?_
            · exact HVAL.out
            rintro e w1 ⟨rfl, rfl⟩
            rcases numI_cases s.data.toList[j + t] with ⟨hn, he⟩ | ⟨k, hn, he, hk64⟩
            · rw [he]
              have HN := Lib.hid hn
              clear hn he
              go_wp2
              go_ret2
              exact ⟨hbel, .inl ⟨dec_none _ _ hjt2 HN.out, rfl⟩⟩
            · rw [he]
              have HN := Lib.hid hn
              clear hn he
              go_wp2
              go_roundg (gk - 1)
              case measure => omega
              case rel =>
                obtain ⟨h1, h2⟩ := hin.out.more hjt2 HN.out
                rw [HG.out] at h2
                exact ⟨t + 1, ms ++ [k], by omega, by go_num, by rw [h2]; go_num, by simp, Lib.hid h1, rfl⟩
          · go_wp2
            go_roundg (gk - 1)
            case measure => omega
            case rel =>
              obtain ⟨h1, h2⟩ := hin.out.skip (by rw [HSZ.out]; omega)
              rw [HG.out] at h2
              exact ⟨t + 1, ms, by omega, by go_num, by rw [h2]; go_num, rfl, Lib.hid h1, rfl⟩
        · have ht4' : t = 4 := by omega
          subst ht4'
          have hgv4 : gv 4 ms < 16777216 := hgv
          obtain ⟨G, hG⟩ : ∃ G, gv 4 ms = G := ⟨_, rfl⟩
          rw [hG] at hgv4
          rw [hG]
          have HG := Lib.hid hG
          clear hgv hG
          have hml4 : ms.length ≤ 4 := hin.out.2.1
          have hml2 : 2 ≤ ms.length := by
            have h3 := hin.out.2.2
            have h4 := hhead.out.2.2.2
            have h5 := HODD.out
            rw [HSZ.out] at h3
            omega
          obtain ⟨m, hm⟩ : ∃ m, ms.length = m := ⟨_, rfl⟩
          rw [hm] at hml4 hml2
          rw [hm]
          have HM := Lib.hid hm
          clear hm
          have hcells : ints8 (three G) = [.int .u8 ((G : Int) / 65536), .int .u8 ((G : Int) / 256 % 256), .int .u8 ((G : Int) % 256)] := by simp [ints8, three]
          have HC := Lib.hid hcells
          clear hcells
          have hown2 := hown.alloc (.cells #[.int .u8 ((G : Int) / 65536), .int .u8 ((G : Int) / 256 % 256), .int .u8 ((G : Int) % 256)] 157)
          have hbel2 := hbel.alloc hbel.size (.cells #[.int .u8 ((G : Int) / 65536), .int .u8 ((G : Int) / 256 % 256), .int .u8 ((G : Int) % 256)] 157)
          have hblock : (wr.alloc (.cells #[.int .u8 ((G : Int) / 65536), .int .u8 ((G : Int) / 256 % 256), .int .u8 ((G : Int) % 256)] 157)).heap[wr.heap.size]? = some (.cells (ints8 (three G)).toArray 157) := by
            rw [HC.out]; exact heap_alloc_new wr _
          have HB := Lib.hid hblock
          clear hblock
          go_wp2
          obtain ⟨wo, rfl⟩ : ∃ wo : World, wo = wr := ⟨_, rfl⟩
          go_loopg [4, 11] 3 (fun k v2 x wq => ∃ q : Nat, q + k = 3 ∧ x = .int .i64 q ∧ Own w.heap.size wq v2 (o ++ ((three G).take (min q (m - 1))).map byt) ∧ Below w.heap.size w wq ∧ Hid (wq.heap[wo.heap.size]? = some (.cells (ints8 (three G)).toArray 157)) ∧ Hid (Zer G m q))
          case atStart =>
            refine ⟨0, by omega, rfl, ?_, ?_, ?_, ?_⟩
            · simpa using hown2
            · exact hbel2
            · exact HB
            · exact Lib.hid (fun i h3 hi => by omega)
          case round =>
            clear hown2 hbel2 HB
            obtain ⟨q, hq, rfl, hown3, hbel3, hblk, hzer⟩ := hrel
            by_cases hq3 : q < 3
            · have hq3L : q < (three G).length := hq3
              have hcell := cell_ints8 hblk.out (j := q) hq3L
              have hb256 : (three G)[q]'hq3L < 256 := three_lt G hgv4 q hq3
              obtain ⟨x, hx⟩ : ∃ x, (three G)[q]'hq3L = x := ⟨_, rfl⟩
              rw [hx] at hcell hb256
              have HX := Lib.hid hx
              clear hx
              by_cases hqm : q < m - 1
              · have hqm' : (q : Int) < (m : Int) - 1 := by omega
                have htk : (o ++ ((three G).take (min q (m - 1))).map byt) ++ [byt x] = o ++ ((three G).take (min (q + 1) (m - 1))).map byt := by
                  rw [Nat.min_eq_left (by omega), Nat.min_eq_left (by omega), List.take_succ_eq_append_getElem hq3L, HX.out]
                  simp
                have HT := Lib.hid htk
                have hle : (o ++ ((three G).take (min q (m - 1))).map byt).length ≤ 5000000 := by
                  have : ((three G).take (min q (m - 1))).length ≤ 3 := by
                    have := List.length_take_le (min q (m - 1)) (three G); have h3 : (three G).length = 3 := rfl; simp only [List.length_take, h3]; omega
                  simp only [List.length_append, List.length_map]
                  omega
                clear htk
                have hxb : (byt x).toNat = x := toNat_of x hb256
                have HXB := Lib.hid hxb
                clear hxb
                go_wp2_with (at_builtin; go_loud (refine wpList_append_rd rfl (.tmp 65) (.tmp 69) rfl w.heap.size _ (o ++ ((three G).take (min q (m - 1))).map byt) rfl (hown3.alloc _) (some ⟨wr.heap.size, 0, none⟩) [byt x] 1 1 rfl rfl (Rd.of_lit (T := 5) (fr := (0, 0)) [byt x] ?c0) ?c1 ?c2 ?_))
                case c0 => rw [heap_alloc_new]; simp [Lib.byteCells, HXB.out]
                case c1 => simp only [List.length_singleton]; omega
                case c2 => have := hbel3.size; simp; omega
                intro v4 w4 hown4 hg4
                have hblk4 := Lib.hid ((hown3.alloc (.cells #[.int .u8 (x : Int)] 5)).other hg4 (block_alloc hblk.out _) (by decide))
                have hbel4 := below_grow (hbel3.alloc hbel3.size (.cells #[.int .u8 (x : Int)] 5)) (hown3.alloc _) hg4 (by have := hbel3.size; simp; omega)
                go_wp2
                go_roundg (gk - 1)
                case measure => omega
                case rel => exact ⟨q + 1, by omega, by go_num, by rw [← HT.out]; simpa using hown4, hbel4, hblk4, Lib.hid (fun i h3 hi hm => by
                  rcases Nat.lt_or_ge i q with h' | h'
                  · exact hzer.out i h3 h' hm
                  · omega)⟩
              · have hqm' : ¬ (q : Int) < (m : Int) - 1 := by omega
                by_cases hx0 : x = 0
                · have ht0 : ((x : Int) != 0) = false := by simp [hx0]
                  have HX0 := Lib.hid hx0
                  clear hx0
                  go_wp2
                  go_roundg (gk - 1)
                  case measure => omega
                  case rel =>
                    refine ⟨q + 1, by omega, by go_num, ?_, hbel3, hblk, Lib.hid (fun i h3 hi hm => ?_)⟩
                    · rw [Nat.min_eq_right (by omega)] at hown3 ⊢
                      exact hown3
                    · rcases Nat.lt_or_ge i q with h' | h'
                      · exact hzer.out i h3 h' hm
                      · have : i = q := by omega
                        subst this
                        exact HX.out.trans HX0.out
                · have ht0 : ((x : Int) != 0) = true := by simp; omega
                  have hnot : dec s.data.toList = none := by
                    have h1 := hin.out.1
                    rw [List.take_of_length_le (by rw [HSZ.out]; have := hin.out.2.2; rw [HSZ.out, HM.out] at this; omega)] at h1
                    rw [dec_eq, h1]
                    simp only
                    rw [dec4_app ns ms (hhead.out.2.1 (by rw [HSZ.out]; exact hlt)), hhead.out.2.2.1, dec4_grp ms hin.out.lt (by rw [HM.out]; exact hml2) (by rw [HM.out]; exact hml4), HM.out, HG.out, if_neg (Zer.not hq3 (by omega) (fun e => hx0 (HX.out.symm.trans e)))]
                    rfl
                  have HNOT := Lib.hid hnot
                  clear hnot
                  go_wp2
                  go_ret2
                  exact ⟨hbel3, .inl ⟨HNOT.out, rfl⟩⟩
            · have hq3' : q = 3 := by omega
              subst hq3'
              rw [Nat.min_eq_right (by omega)] at hown3
              go_wp2
              go_roundg (gO - 4)
              case measure => omega
              case rel =>
                have h32 := hin.out.2.2
                rw [HSZ.out, HM.out] at h32
                have hd4 := dec4_app ns ms (hhead.out.2.1 (by rw [HSZ.out]; exact hlt))
                rw [hhead.out.2.2.1, dec4_grp ms hin.out.lt (by rw [HM.out]; exact hml2) (by rw [HM.out]; exact hml4), HM.out, HG.out, if_pos hzer.out.end] at hd4
                have h3l : (three G).length = 3 := rfl
                have hhl := hhead.out.2.1 (by rw [HSZ.out]; exact hlt)
                refine ⟨j + 4, ns ++ ms, _, by omega, by omega, by go_num, ?_, ?_, Lib.hid ⟨hin.out.1, ?_, hd4, by have := hhead.out.2.2.2; omega⟩, hown3, hbel3⟩
                · simp only [List.length_append, List.length_map, List.length_take, h3l]; omega
                · intro hsz; simp only [List.length_append, List.length_map, List.length_take, h3l]; omega
                · intro h; rw [HSZ.out] at h; simp only [List.length_append, HM.out]; omega
    · have hdec : dec s.data.toList = some o := by
        have h1 := hhead.out.1
        rw [List.take_of_length_le (by rw [HSZ.out]; omega)] at h1
        rw [dec_eq, h1]
        exact hhead.out.2.2.1
      have hol3 : o.length ≤ s.data.toList.length := by rw [HSZ.out]; exact hol2 (by omega)
      have HDEC := Lib.hid (And.intro hdec hol3)
      clear hdec hol3 hol2
      go_wp2
      go_ret2
      exact ⟨hbel, .inr ⟨o, _, HDEC.out.1, HDEC.out.2, rfl, hown⟩⟩
end Go.Proofs.YtfdijcdpmgkdkaaGreatDoor
set_option linter.unusedVariables false
namespace Go.Proofs.YtfdijcdpmgkdkaaGreatDoor
open Go.RowKit

set_option maxRecDepth 100000 in
set_option maxHeartbeats 4000000 in
theorem jrefword_any (s : List UInt8) (w : World) (hs : s.length ≤ 1000000) :
    Calls Tryz.prog 39 #[.string ⟨s.toArray⟩] w fun e w' => e = .returned (.bool (wordH s)) ∧ Below w.heap.size w w' := by
  have HT := Lib.hid (refwrong_any s w hs)
  have HN := Lib.hid (wrongI_neg s)
  have HW : Hid (wordH s = (!s.isEmpty && (decide (s.length ≤ 40) && toldB s))) := Lib.hid rfl
  generalize wordH s = W at *
  generalize toldB s = T at *
  generalize wrongI s = I at *
  by_cases h0 : s = []
  · subst h0
    go_enter Tryz.func39, Tryz.ntmps39
    go_wp2_with fail
    refine bodyPost_ret (results_tmp rfl _ _ _) rfl ?_
    exact ⟨by rw [HW.out]; rfl, Below.refl _ _⟩
  have q1 : s.isEmpty = false := by cases s <;> simp_all
  have q2 : (1 : Int) ≤ ((s.length : Nat) : Int) := by
    have : s.length ≠ 0 := fun e => h0 (List.eq_nil_of_length_eq_zero e)
    omega
  by_cases h1 : s.length ≤ 40
  · have hI : ((s.length : Nat) : Int) ≤ 40 := by omega
    go_enter Tryz.func39, Tryz.ntmps39
    go_wp2_with fail
    refine HT.out.mono ?_
    rintro e w1 ⟨rfl, hb1⟩
    have HB1 := Lib.hid hb1
    clear hb1 HT
    go_wp2_with fail
    refine bodyPost_ret (results_tmp rfl _ _ _) rfl ?_
    exact ⟨by rw [HW.out, q1, decide_eq_true h1, ← HN.out]; rfl, by rw [HB1.out]; exact Below.refl _ _⟩
  · have hI : ¬ ((s.length : Nat) : Int) ≤ 40 := by omega
    go_enter Tryz.func39, Tryz.ntmps39
    go_wp2_with fail
    refine bodyPost_ret (results_tmp rfl _ _ _) rfl ?_
    exact ⟨by rw [HW.out, q1, decide_eq_false h1]; rfl, Below.refl _ _⟩
end Go.Proofs.YtfdijcdpmgkdkaaGreatDoor
set_option linter.unusedVariables false
namespace Go.Proofs.YtfdijcdpmgkdkaaGreatDoor
open Go.RowKit

theorem info_bs : (Tryz.prog.info? 41).map (fun i => (i.zero, i.size, i.bytes)) = some (some (.slice none 0 0), 1, 24) := by kernel_rfl
theorem own_apart {B B' n : Nat} {w w' : World} {v u : Value} {l : List UInt8} {xs : List Value} (h : Own B w v l) (hu : w.ownsRow B' 41 1 u n xs) (hg : w.grownBy w' u.ownBlock) : Own B w' v l := by
  refine World.ownsRow.kept (row := u.ownBlock) h hg ?_
  rcases h.2 with ⟨rfl, _⟩ | ⟨g, cap, cur, rfl, _, hgg, _⟩
  · exact .inl rfl
  · refine .inr ?_
    rcases hu.2 with ⟨rfl, _⟩ | ⟨g', cap', cur', rfl, _, hgg', _⟩
    · simp [Value.ownBlock]
    · simp only [Value.ownBlock]
      intro e
      have e' : g = g' := by simpa using e
      rw [e'] at hgg
      rw [hgg] at hgg'
      injection hgg' with h1
      injection h1 with _ h2
      revert h2
      decide
theorem ownRow_mono {B B' sz n : Nat} {E : TypeId} {w : World} {v : Value} {xs : List Value} (h : w.ownsRow B E sz v n xs) (hB : B' ≤ B) : w.ownsRow B' E sz v n xs :=
  ⟨h.1, h.2.imp id fun ⟨g, cap, cur, e, hb, r⟩ => ⟨g, cap, cur, e, Nat.le_trans hB hb, r⟩⟩
theorem ownRow_below {B sz n : Nat} {E : TypeId} {w w' : World} {v : Value} {xs : List Value} (h : w.ownsRow B E sz v n xs) (hb : Below w.heap.size w w') : w'.ownsRow B E sz v n xs :=
  World.ownsRow.kept (row := none) h ⟨hb.os, hb.tape, hb.output, hb.size, fun k hk _ => hb.block k hk⟩ (by cases v.ownBlock <;> simp)
abbrev SL := List (List UInt8 × List UInt8 × Value)
/-- The parts up to i, decoded. -/
def SplAt (B : Nat) (P : List (List UInt8)) (i : Nat) (L : SL) (w : World) : Prop :=
  L.length = i ∧ (∀ j (h : j < L.length), P[j]? = some (L[j]).1) ∧ ∀ x ∈ L, dec x.1 = some x.2.1 ∧ Own B w x.2.2 x.2.1
def SplitIs (t : List UInt8) (e : Ending) (w' : World) : Prop :=
  ((∀ A B C h p g, partsL 46 t = [A, B, C] → dec A = some h → dec B = some p → dec C = some g → False) ∧ e = .returned (.tuple #[.slice none 0 0, .string ⟨#[]⟩, .bool false])) ∨
  ∃ A B C h p g a c, partsL 46 t = [A, B, C] ∧ dec A = some h ∧ dec B = some p ∧ dec C = some g ∧ e = .returned (.tuple #[.slice a 3 c, .string ⟨(A ++ 46 :: B).toArray⟩, .bool true]) ∧ RdS w' a [h, p, g]
theorem SplitIs.below {t : List UInt8} {e : Ending} {w w' : World} (h : SplitIs t e w) (hb : Below w.heap.size w w') : SplitIs t e w' :=
  h.imp id fun ⟨A, B, C, h, p, g, a, c, h1, h2, h3, h4, h5, h6⟩ => ⟨A, B, C, h, p, g, a, c, h1, h2, h3, h4, h5, h6.below hb⟩
theorem split_bad {t : List UInt8} {P : List (List UInt8)} {i : Nat} (hP : partsL 46 t = P) (h3 : P.length = 3) (hi : i < P.length) (hd : dec P[i] = none) : ∀ A B C h p g, partsL 46 t = [A, B, C] → dec A = some h → dec B = some p → dec C = some g → False := by
  intro A B C h p g e q0 q1 q2
  rw [hP] at e
  subst e
  match i, hi, hd with
  | 0, _, hd => exact absurd (q0.symm.trans (show dec A = none from hd)) (by simp)
  | 1, _, hd => exact absurd (q1.symm.trans (show dec B = none from hd)) (by simp)
  | 2, _, hd => exact absurd (q2.symm.trans (show dec C = none from hd)) (by simp)
theorem SplAt.step {B i : Nat} {P : List (List UInt8)} {L : SL} {w w' : World} {x : List UInt8} {b : List UInt8} {v : Value} (h : SplAt B P i L w) (hx : P[i]? = some x) (hd : dec x = some b) (hv : Own B w' v b) (hk : ∀ y ∈ L, Own B w' y.2.2 y.2.1) : SplAt B P (i + 1) (L ++ [(x, b, v)]) w' := by
  obtain ⟨h1, h2, h3⟩ := h
  refine ⟨by simp [h1], fun j hj => ?_, fun y hy => ?_⟩
  · by_cases hj' : j < L.length
    · rw [List.getElem_append_left hj']
      exact h2 j hj'
    · have e : j = L.length := by simp at hj; omega
      subst e
      simp [h1, hx]
  · rcases List.mem_append.1 hy with hy | hy
    · exact ⟨(h3 y hy).1, hk y hy⟩
    · simp only [List.mem_cons, List.mem_nil_iff, or_false] at hy
      subst hy
      exact ⟨hd, hv⟩
theorem split_good {t : List UInt8} {P : List (List UInt8)} {L : SL} {B : Nat} {w : World} {out : Value} (hP : partsL 46 t = P) (h3 : P.length = 3) (h : SplAt B P 3 L w) (ho : w.ownsRow B 41 1 out L.length (L.map (·.2.2))) :
    ∃ A B C h p g a c, partsL 46 t = [A, B, C] ∧ dec A = some h ∧ dec B = some p ∧ dec C = some g ∧ out = .slice a 3 c ∧ RdS w a [h, p, g] := by
  obtain ⟨h1, h2, h4⟩ := h
  match L, h1 with
  | [⟨A, h, u⟩, ⟨B', p, u'⟩, ⟨C, g, u''⟩], _ =>
  have e0 := h2 0 (by simp)
  have e1 := h2 1 (by simp)
  have e2 := h2 2 (by simp)
  have hPP : P = [A, B', C] := by
    match P, h3 with
    | [x, y, z], _ =>
      simp at e0 e1 e2
      rw [e0, e1, e2]
  obtain ⟨d0, o0⟩ := h4 (A, h, u) (by simp)
  obtain ⟨d1, o1⟩ := h4 (B', p, u') (by simp)
  obtain ⟨d2, o2⟩ := h4 (C, g, u'') (by simp)
  obtain ⟨a0, c0, q0, r0⟩ := o0.shape
  obtain ⟨a1, c1, q1, r1⟩ := o1.shape
  obtain ⟨a2, c2, q2, r2⟩ := o2.shape
  obtain ⟨a, c, hout, hrc, _⟩ := RdC.of_own ho
  refine ⟨A, B', C, h, p, g, a, c, by rw [hP, hPP], d0, d1, d2, hout, ?_⟩
  obtain ⟨b, off, hb, hcs⟩ := hrc.at (by simp)
  refine .inr ⟨b, off, hb, fun i hi => ?_⟩
  match i, hi with
  | 0, _ => exact ⟨a0, c0, by rw [hcs 0 u rfl]; exact congrArg some q0, r0⟩
  | 1, _ => exact ⟨a1, c1, by rw [hcs 1 u' rfl]; exact congrArg some q1, r1⟩
  | 2, _ => exact ⟨a2, c2, by rw [hcs 2 u'' rfl]; exact congrArg some q2, r2⟩
set_option maxRecDepth 100000 in
set_option maxHeartbeats 16000000 in
theorem jrefsplit_any (t : List UInt8) (w : World) (hl : t.length ≤ 1000000) :
    Calls Tryz.prog 38 #[.string ⟨t.toArray⟩] w fun e w' => SplitIs t e w' ∧ Below w.heap.size w w' := by
  obtain ⟨i0, hi, hz0, hz1, hz2⟩ := info_parts info_bs
  have HI := Lib.hid hi
  have HZ0 := Lib.hid hz0
  have HZ1 := Lib.hid hz1
  have HZ2 := Lib.hid hz2
  have HPA := Lib.hid (parts_any t 46 w hl)
  clear hi hz0 hz1 hz2
  have hsum := partsL_sum 46 t
  go_enter Tryz.func38, Tryz.ntmps38
  go_wp2_with fail
  refine HPA.out.mono ?_
  rintro e w1 ⟨⟨la, lc, rfl, hrc⟩, hb1⟩
  have HB1 := Lib.hid hb1
  have HRC := Lib.hid hrc
  have HSPLIT := Lib.hid (fun e w' (h : SplitIs t e w') => h)
  obtain ⟨P, hP⟩ : ∃ P, partsL 46 t = P := ⟨_, rfl⟩
  have HPP := Lib.hid hP
  rw [hP] at HRC hsum ⊢
  clear hb1 hrc HPA hP
  by_cases h3 : P.length = 3
  case neg =>
    have h3I : ¬ ((P.length : Nat) : Int) = 3 := by omega
    have h3B : (((P.length : Nat) : Int) == 3) = false := beq_false_of_ne h3I
    have H3 := Lib.hid h3
    clear h3
    go_wp2_with fail
    refine bodyPost_ret (v := .tuple #[.slice none 0 0, .string ⟨#[]⟩, .bool false]) (by simp [results, Tryz.results38, go_sem]) rfl ?_
    refine ⟨.inl ⟨?_, rfl⟩, HB1.out⟩
    intro A B C h p g e
    rw [HPP.out] at e
    exact absurd (by rw [e]; rfl) H3.out
  have H3 := Lib.hid h3
  have hne : strs P ≠ [] := by
    intro e
    have h0 := congrArg List.length e
    unfold strs at h0
    rw [List.length_map, h3] at h0
    cases h0
  obtain ⟨lb, loff, rfl, hcs⟩ := HRC.out.at hne
  clear hne
  have HCS : Hid (∀ w' : World, Below w1.heap.size w1 w' → ∀ i (h : i < P.length), w'.cell? ⟨lb, loff + i, none⟩ = some (.string ⟨P[i].toArray⟩)) := Lib.hid fun w' hb i h => by
    have := hcs i (.string ⟨P[i].toArray⟩) (by simp [strs, List.getElem?_eq_getElem h])
    exact (hb.cell (World.block_lt_of_cell? _ _ this)).trans this
  have hsumH := Lib.hid hsum
  clear hcs HRC hsum
  rw [h3]
  have hgl : w.heap.size ≤ w1.heap.size := HB1.out.size
  go_wp2_with fail
  go_loopg [6, 7] 3 (fun k out x wr => ∃ (i : Nat) (L : SL), x = .int .i64 (i : Int) ∧ i + k = 3 ∧ L.length = i ∧ Hid (SplAt w1.heap.size P i L wr) ∧ Hid (wr.ownsRow w1.heap.size 41 1 out i (L.map (·.2.2))) ∧ Hid (Below w1.heap.size w1 wr))
  case atStart => exact ⟨0, [], rfl, rfl, rfl, Lib.hid ⟨rfl, fun j h => absurd h (by simp), fun x hx => absurd hx (by simp)⟩, Lib.hid (World.ownsRow_nil _ _ _ _), Lib.hid (Below.refl _ _)⟩
  case round =>
    obtain ⟨i, L, rfl, hi, hL, HS, HW, HB⟩ := hrel
    have hszB : w1.heap.size ≤ wr.heap.size := HB.out.size
    by_cases hlt : i < 3
    · have hI : (i : Int) < 3 := by omega
      have hiP : i < P.length := by omega
      have hcell := HCS.out wr HB.out i hiP
      have hpl : P[i].length ≤ 1000000 := by
        have := hsumH.out P[i] (List.getElem_mem hiP)
        omega
      have HBAD := Lib.hid (split_bad HPP.out H3.out hiP)
      have HGET : Hid (P[i]? = some P[i]) := Lib.hid (List.getElem?_eq_getElem hiP)
      have HD := Lib.hid (refDecode_any ⟨P[i].toArray⟩ wr (by simpa [ByteArray.size] using hpl))
      generalize P[i] = X at *
      go_wp2_with fail
      refine HD.out.mono ?_
      rintro e w4 ⟨hb4, ⟨hd, rfl⟩ | ⟨b, v, hd, hbl, rfl, hown⟩⟩
      · have hbad := HBAD.out hd
        have HBD := Lib.hid hbad
        have HB4 := Lib.hid (HB1.out.trans ((HB.out.trans (hb4.mono hszB)).mono hgl))
        clear hd hb4 hbad hcell HD
        go_wp2_with fail
        refine bodyPost_ret (v := .tuple #[.slice none 0 0, .string ⟨#[]⟩, .bool false]) (by simp [results, Tryz.results38, go_sem]) rfl ?_
        exact ⟨.inl ⟨HBD.out, rfl⟩, HB4.out⟩
      · have HDX : Hid (dec X = some b) := Lib.hid hd
        have HO4 : Hid (Own w1.heap.size w4 v b) := Lib.hid (ownRow_mono hown hszB)
        have HW4 := Lib.hid (ownRow_below HW.out hb4)
        have HB4 := Lib.hid (HB.out.trans (hb4.mono hszB))
        have HL4 : Hid (∀ y ∈ L, Own w1.heap.size w4 y.2.2 y.2.1) := Lib.hid fun y hy => (HS.out.2.2 y hy).2.below hb4
        obtain ⟨va, vc, rfl, -⟩ := hown.shape
        have hsz4 : w1.heap.size ≤ w4.heap.size := Nat.le_trans hszB hb4.size
        obtain ⟨ao, co, hout, -⟩ := RdC.of_own HW4.out
        subst hout
        have HLL := Lib.hid hL
        clear hL hd hown hb4 hcell HD HBAD
        go_wp2_with (at_builtin; refine wpList_append_new rfl (.tmp 29) (.tmp 31) 72 rfl w1.heap.size 41 i0 _ 1 24 Tryz.underlying72 HI.out HZ0.out HZ1.out HZ2.out rfl (by decide) _ _ _ rfl (HW4.out.alloc _) w4.heap.size 1 #[.slice va b.length vc] 41 (0, 0) ?c1 rfl rfl ?c2 ?c3 ?c4 ?c5 ?_)
        case c1 => exact heap_alloc_new _ _
        case c2 => rfl
        case c3 => omega
        case c4 => omega
        case c5 => simp; omega
        intro v' w5 hown' hgrow
        have hb5 := below_own (HB4.out.alloc hsz4 _) (HW4.out.alloc _) hgrow (by simp; omega)
        have hst := SplAt.step HS.out (by rw [← HGET.out]) HDX.out (own_apart (HO4.out.alloc _) (HW4.out.alloc _) hgrow) (fun y hy => own_apart ((HL4.out y hy).alloc _) (HW4.out.alloc _) hgrow)
        have HST := Lib.hid hst
        have HB5 := Lib.hid hb5
        have HW5 : Hid (w5.ownsRow w1.heap.size 41 1 v' (i + 1) ((show SL from L ++ [(X, b, Value.slice va b.length vc)]).map (·.2.2))) := Lib.hid (by have := hown'; simpa using this)
        clear hown' hgrow hb5 hst HW4 HB4 HL4 HO4 HW HB HS
        go_wp2_with fail
        go_roundg (gk - 1)
        case measure => omega
        case rel => exact ⟨i + 1, L ++ [(X, b, Value.slice va b.length vc)], by first | rfl | (congr 1), by omega, by simp [HLL.out], HST, HW5, HB5⟩
    · have hi3 : i = 3 := by omega
      subst hi3
      have hI : ¬ ((3 : Nat) : Int) < 3 := by omega
      have hgood := split_good HPP.out H3.out HS.out (by rw [hL]; exact HW.out)
      obtain ⟨A, B, C, h, p, g, oa, oc, hpp, hdA, hdB, hdC, rfl, hrds⟩ := hgood
      have hP3 : P = [A, B, C] := HPP.out.symm.trans hpp
      have lA := hsumH.out A (by rw [hP3]; simp)
      have lB := hsumH.out B (by rw [hP3]; simp)
      subst hP3
      have HG := Lib.hid (show SplitIs t (.returned (.tuple #[.slice oa 3 oc, .string ⟨(A ++ 46 :: B).toArray⟩, .bool true])) wr from .inr ⟨A, B, C, h, p, g, oa, oc, hpp, hdA, hdB, hdC, rfl, hrds⟩)
      have HBF := Lib.hid (HB1.out.trans (HB.out.mono hgl))
      obtain ⟨A1, hA1⟩ : ∃ A1, A ++ [46] = A1 := ⟨_, rfl⟩
      obtain ⟨G, hG⟩ : ∃ G, A1 ++ B = G := ⟨_, rfl⟩
      have hAB : A ++ 46 :: B = G := by rw [← hG, ← hA1, List.append_assoc]; rfl
      have hc1 : (⟨A.toArray⟩ : ByteArray) ++ ⟨#[46]⟩ = ⟨A1.toArray⟩ := by rw [← hA1]; exact st_cat A [46]
      have hc2 : (⟨A1.toArray⟩ : ByteArray) ++ ⟨B.toArray⟩ = ⟨G.toArray⟩ := by rw [← hG]; exact st_cat A1 B
      have hlA1 : A1.length ≤ 1000001 := by rw [← hA1, List.length_append]; simp; omega
      rw [hAB] at HG
      have HCA : Hid (∀ w' : World, Below wr.heap.size wr w' → w'.cell? ⟨lb, loff, none⟩ = some (.string ⟨A.toArray⟩)) := Lib.hid fun w' hb => HCS.out w' (HB.out.trans (hb.mono hszB)) 0 (by simp)
      have HCB : Hid (∀ w' : World, Below wr.heap.size wr w' → w'.cell? ⟨lb, loff + 1, none⟩ = some (.string ⟨B.toArray⟩)) := Lib.hid fun w' hb => HCS.out w' (HB.out.trans (hb.mono hszB)) 1 (by simp)
      clear hpp hdA hdB hdC hrds hA1 hG hAB HS HW HPP
      go_wp2_with fail
      refine wp_region_grow (by kernel_rfl) (by kernel_rfl) [33, 34, 35, 36, 37, 38, 39, 40, 41, 2, 3, 4] rfl (by decide) (by kernel_rfl) (fun iX => [VIs (.slice oa 3 oc), VIs (.slice (some ⟨lb, loff, none⟩) 3 lc), VIs (.pointer (some ⟨lb, loff, none⟩)), VIs (.string ⟨A.toArray⟩), VIs (.string ⟨A1.toArray⟩), VIs (.slice (some ⟨lb, loff, none⟩) 3 lc), VIs (.pointer (some ⟨lb, loff + 1, none⟩)), VIs (.string ⟨B.toArray⟩), VIs (.string ⟨G.toArray⟩), VIs (.slice oa 3 oc), VIs (.string ⟨G.toArray⟩), VIs (.bool true)].getD iX fun _ _ => True) (stab_list _ ?_) ?_ ?_
      · skip
        intro V hV
        simp only [List.mem_cons, List.mem_nil_iff, or_false] at hV
        rcases hV with rfl | rfl | rfl | rfl | rfl | rfl | rfl | rfl | rfl | rfl | rfl | rfl <;> first | exact VIs.stab _ | exact VBytes.stab _ | exact VStr.stab _ | exact VParts.stab _ | exact VRow.stab _ | exact VRow8.stab _ _ | exact VRowIs.stab _ _ _
      · intro iX o ho a' w' hf hb hd
        rcases iX with _ | _ | _ | _ | _ | _ | _ | _ | _ | _ | _ | _ | iX
        · cases ho
          refine grow_op rfl rfl rfl (grow_move rfl ?_)
          exact (hf.same 6 (by decide)).trans rfl
        · cases ho
          refine grow_op rfl rfl rfl (grow_move rfl ?_)
          exact (hf.same 5 (by decide)).trans rfl
        · cases ho
          refine grow_op rfl rfl rfl ?_
          have e1 : a'.tmps.getD 34 undef = .slice (some ⟨lb, loff, none⟩) 3 lc := hd 1 (by kernel_rfl)
          refine grow_value (v := .pointer (some ⟨lb, loff, none⟩)) (w' := w') ?_ rfl (Below.refl _ _)
          simp only [execOp, Act.eval, e1]
          go_simp
        · cases ho
          refine grow_op rfl rfl rfl ?_
          have e2 : a'.tmps.getD 35 undef = .pointer (some ⟨lb, loff, none⟩) := hd 2 (by kernel_rfl)
          have x0 := HCA.out w' hb
          refine grow_value (v := .string ⟨A.toArray⟩) (w' := w') ?_ rfl (Below.refl _ _)
          simp only [execOp, Act.eval, e2]
          go_simp
        · cases ho
          refine grow_op rfl rfl rfl ?_
          have e3 : a'.tmps.getD 36 undef = .string ⟨A.toArray⟩ := hd 3 (by kernel_rfl)
          have x0 := hc1
          refine grow_value (v := .string ⟨A1.toArray⟩) (w' := w') ?_ rfl (Below.refl _ _)
          simp only [execOp, Act.eval, e3]
          go_simp
          omega
        · cases ho
          refine grow_op rfl rfl rfl (grow_move rfl ?_)
          exact (hf.same 5 (by decide)).trans rfl
        · cases ho
          refine grow_op rfl rfl rfl ?_
          have e5 : a'.tmps.getD 38 undef = .slice (some ⟨lb, loff, none⟩) 3 lc := hd 5 (by kernel_rfl)
          refine grow_value (v := .pointer (some ⟨lb, loff + 1, none⟩)) (w' := w') ?_ rfl (Below.refl _ _)
          simp only [execOp, Act.eval, e5]
          go_simp
        · cases ho
          refine grow_op rfl rfl rfl ?_
          have e6 : a'.tmps.getD 39 undef = .pointer (some ⟨lb, loff + 1, none⟩) := hd 6 (by kernel_rfl)
          have x0 := HCB.out w' hb
          refine grow_value (v := .string ⟨B.toArray⟩) (w' := w') ?_ rfl (Below.refl _ _)
          simp only [execOp, Act.eval, e6]
          go_simp
        · cases ho
          refine grow_op rfl rfl rfl ?_
          have e4 : a'.tmps.getD 37 undef = .string ⟨A1.toArray⟩ := hd 4 (by kernel_rfl)
          have e7 : a'.tmps.getD 40 undef = .string ⟨B.toArray⟩ := hd 7 (by kernel_rfl)
          have x0 := hc2
          refine grow_value (v := .string ⟨G.toArray⟩) (w' := w') ?_ rfl (Below.refl _ _)
          simp only [execOp, Act.eval, e4, e7]
          go_simp
          omega
        · cases ho
          refine grow_op rfl rfl rfl (grow_assign rfl ?_)
          exact hd 0 (by kernel_rfl)
        · cases ho
          refine grow_op rfl rfl rfl (grow_assign rfl ?_)
          exact hd 8 (by kernel_rfl)
        · cases ho
          refine grow_op rfl rfl rfl ?_
          refine grow_value (v := .bool true) (w' := w') ?_ rfl (Below.refl _ _)
          simp only [execOp, Act.eval]
          go_simp
        · simp at ho
      · intro a' w' hf hb hd
        obtain rfl := hf.eq [Value.slice oa 3 oc, Value.slice (some ⟨lb, loff, none⟩) 3 lc, Value.pointer (some ⟨lb, loff, none⟩), Value.string ⟨A.toArray⟩, Value.string ⟨A1.toArray⟩, Value.slice (some ⟨lb, loff, none⟩) 3 lc, Value.pointer (some ⟨lb, loff + 1, none⟩), Value.string ⟨B.toArray⟩, Value.string ⟨G.toArray⟩, Value.slice oa 3 oc, Value.string ⟨G.toArray⟩, Value.bool true] (fun j hj => match j, hj with
          | 0, _ => hd 0 (by decide)
          | 1, _ => hd 1 (by decide)
          | 2, _ => hd 2 (by decide)
          | 3, _ => hd 3 (by decide)
          | 4, _ => hd 4 (by decide)
          | 5, _ => hd 5 (by decide)
          | 6, _ => hd 6 (by decide)
          | 7, _ => hd 7 (by decide)
          | 8, _ => hd 8 (by decide)
          | 9, _ => hd 9 (by decide)
          | 10, _ => hd 10 (by decide)
          | 11, _ => hd 11 (by decide)
          | k + 12, h => absurd h (by simp)) (by decide) (by kernel_rfl) rfl
        simp only [List.zip_cons_cons, List.zip_nil_right, List.foldl_cons, List.foldl_nil, Act.put, List.setIfInBounds_toArray, List.set_cons_succ, List.set_cons_zero]
        go_wp2_with fail
        refine bodyPost_ret (v := .tuple #[.slice oa 3 oc, .string ⟨G.toArray⟩, .bool true]) (by simp [results, Tryz.results38, go_sem]) rfl ?_
        exact ⟨HG.out.below hb, HBF.out.trans (hb.mono HBF.out.size)⟩
end Go.Proofs.YtfdijcdpmgkdkaaGreatDoor
set_option linter.unusedVariables false
namespace Go.Proofs.YtfdijcdpmgkdkaaGreatDoor
open Go.RowKit

/-- As it was, but for marks in rows from B on. -/
structure Like (B : Nat) (w w' : World) : Prop where
  below : Below B w w'
  row : ∀ (k : Nat) (C : Array Value) (T : TypeId) (fr : Nat × Nat), w.heap[k]? = some (.cells C T fr) → ∃ fr', w'.heap[k]? = some (.cells C T fr')
theorem like_of_below {B : Nat} {w w' : World} (h : Below w.heap.size w w') (hB : B ≤ w.heap.size) : Like B w w' :=
  ⟨h.mono hB, fun k C T fr e => ⟨fr, (h.block k (Array.getElem?_eq_some_iff.1 e).1).trans e⟩⟩
theorem wp_region_like {P : Program} {id : Nat} {l : List Oper} {Q : Exit → Act → World → Prop} {a : Act} {w : World} (hm : P.follows .mixedOrders = true)
    (hac : ((List.range l.length).all fun i => ((l[i]?).map fun o => o.after.all fun e => !Region.binds .any e || decide (e.on < i)).getD true) = true)
    (ds : List Nat) (hds : (l.map (·.dst)) = ds.map some) (hnd : ds.Nodup) (hlt : ds.all (fun d => decide (d < a.tmps.size)) = true)
    (V : Nat → Value → World → Prop) (hV : ∀ i v w1 w2, V i v w1 → Like w.heap.size w1 w2 → V i v w2)
    (step : ∀ i o, l[i]? = some o → ∀ a' w', Fr ds a a' → Below w.heap.size w w' → (∀ j, (o.after.any fun e => Region.binds .any e && e.on == j) = true → V j (a'.tmps.getD (ds.getD j 0) undef) w') →
      wpOp P l.toArray Q i (fun a'' w'' => ∃ v, a'' = a'.put (some (ds.getD i 0)) v ∧ V i v w'' ∧ Like w.heap.size w' w'') a' w')
    (done : ∀ a' w', Fr ds a a' → Below w.heap.size w w' → (∀ j, j < l.length → V j (a'.tmps.getD (ds.getD j 0) undef) w') → Q .normal a' w') :
    (Code.region id l.toArray true).wp P Q a w := by
  have hlen : l.length = ds.length := by have := congrArg List.length hds; simpa using this
  have hmem : ∀ j, j < l.length → ds.getD j 0 ∈ ds := by
    intro j hj
    rw [List.getD_eq_getElem?_getD, List.getElem?_eq_getElem (by omega)]
    exact List.getElem_mem _
  have hinj : ∀ i j, i < l.length → j < l.length → ds.getD i 0 = ds.getD j 0 → i = j := by
    intro i j hi hj e
    rw [List.getD_eq_getElem?_getD, List.getElem?_eq_getElem (by omega), List.getD_eq_getElem?_getD, List.getElem?_eq_getElem (by omega)] at e
    exact (List.getElem_inj hnd).1 e
  refine wp_region_inv hm hac (fun b a' w' => Fr ds a a' ∧ Below w.heap.size w w' ∧ ∀ j, j < l.length → b j = true → V j (a'.tmps.getD (ds.getD j 0) undef) w') ?_ ?_ ?_
  · exact ⟨Fr.refl _ _, (Below.refl _ _).drew, fun j _ h => by cases h⟩
  · rintro b a' w' ⟨hf, hb, hall⟩ i o ho hbi hpre
    have hil : i < l.length := (List.getElem?_eq_some_iff.1 ho).1
    refine wpOp_mono ?_ (step i o ho a' w' hf hb ?_)
    · rintro a'' w'' ⟨v, rfl, hv, hb'⟩
      refine ⟨hf.put (hmem i hil) v, hb.trans hb'.below, fun j hj hbj => ?_⟩
      by_cases e : j = i
      · subst e
        rw [put_at]
        · exact hv
        · rw [hf.size]
          have := (List.all_eq_true.1 hlt) _ (hmem j hil)
          simpa using this
      · simp only [e, if_false] at hbj
        rw [put_other _ _ _ _ (fun e' => e (hinj _ _ hj hil e'))]
        exact hV _ _ _ _ (hall j hj hbj) hb'
    · intro j hj
      obtain ⟨k, hk, hj⟩ := Array.any_eq_true.1 hj
      obtain ⟨e, he, e1⟩ : ∃ e, e ∈ o.after ∧ e = o.after[k] := ⟨_, Array.getElem_mem hk, rfl⟩
      rw [← e1] at hj
      simp only [Bool.and_eq_true, beq_iff_eq] at hj
      obtain ⟨hbd, rfl⟩ := hj
      have h1 : b e.on = true := by
        simp only [Array.all_eq_true_iff_forall_mem] at hpre
        have := hpre e he
        rw [hbd] at this
        simpa using this
      have h2 : e.on < i := by
        have hac' := (List.all_eq_true.1 hac) i (List.mem_range.2 hil)
        simp only [ho, Option.map_some, Option.getD_some, Array.all_eq_true_iff_forall_mem] at hac'
        have := hac' e he
        rw [hbd] at this
        simpa using this
      exact hall e.on (by omega) h1
  · rintro b a' w' ⟨hf, hb, hall⟩ hdone
    exact done a' w' hf hb fun j hj => hall j hj (hdone j hj)

def StabL (B : Nat) (V : Value → World → Prop) : Prop := ∀ v w1 w2, V v w1 → Like B w1 w2 → V v w2
theorem VIs.stabL (B : Nat) (x : Value) : StabL B (VIs x) := fun _ _ _ h _ => h
theorem stab_listL (B : Nat) (Vs : List (Value → World → Prop)) (h : ∀ V ∈ Vs, StabL B V) : ∀ i v w1 w2, (Vs.getD i fun _ _ => True) v w1 → Like B w1 w2 → (Vs.getD i fun _ _ => True) v w2 := by
  intro i v w1 w2 hv hb
  simp only [List.getD_eq_getElem?_getD] at *
  cases e : Vs[i]? with
  | none => simp
  | some V =>
    simp only [e, Option.getD_some] at hv ⊢
    exact h V (List.mem_of_getElem? e) v w1 w2 hv hb
theorem like_op {P : Program} {l : List Oper} {Q : Exit → Act → World → Prop} {i d B : Nat} {o : Oper} {a : Act} {w : World} {V : Value → World → Prop} (hB : B ≤ w.heap.size) (ho : l[i]? = some o) (hw : Region.wanted o (yielded l.toArray a.tmps) = true) (hd : o.dst = some d)
    (h : o.wp P a w (fun a'' w'' => ∃ v, a'' = a.put o.dst v ∧ V v w'' ∧ Below w.heap.size w w'') Q) : wpOp P l.toArray Q i (fun a'' w'' => ∃ v, a'' = a.put (some d) v ∧ V v w'' ∧ Like B w w'') a w :=
  wpOp_mono (fun _ _ ⟨v, h1, h2, h3⟩ => ⟨v, h1, h2, like_of_below h3 hB⟩) (grow_op ho hw hd h)
theorem mark_op {P : Program} {l : List Oper} {Q : Exit → Act → World → Prop} {i d B : Nat} {o : Oper} {a : Act} {w w' : World} {V : Value → World → Prop} {v : Value} (ho : l[i]? = some o) (hw : Region.wanted o (yielded l.toArray a.tmps) = true) (hd : o.dst = some d)
    (h : (execOp a.eval o).run P w = .ok (.value v) w') (hv : V v w') (hl : Like B w w') : wpOp P l.toArray Q i (fun a'' w'' => ∃ v, a'' = a.put (some d) v ∧ V v w'' ∧ Like B w w'') a w := by
  unfold wpOp
  rw [show l.toArray[i]? = some o by simpa using ho]
  simp only [hw, if_true]
  refine .inl ?_
  unfold Oper.wp
  rw [h]
  exact ⟨v, by rw [hd], hv, hl⟩
/-- A row of bytes that the call has laid, marked or not. -/
def VRw (B : Nat) (l : List UInt8) : Value → World → Prop := fun v w => ∃ g fr, v = .slice (some ⟨g, 0, none⟩) l.length l.length ∧ B ≤ g ∧ w.heap[g]? = some (.cells (Lib.byteCells l).toArray 5 fr)
theorem VRw.stabL (B : Nat) (l : List UInt8) : StabL B (VRw B l) := fun v w1 w2 ⟨g, fr, e, h0, h⟩ hb => by
  obtain ⟨fr', h'⟩ := hb.row g _ _ _ h
  exact ⟨g, fr', e, h0, h'⟩
theorem VRw.bytes {B : Nat} {l : List UInt8} {v : Value} {w : World} (h : VRw B l v w) : ∃ a, v = .slice a l.length l.length ∧ Rd w a l := by
  obtain ⟨g, fr, e, -, h⟩ := h
  exact ⟨_, e, Rd.of_lit l h⟩
theorem mark_row {B g n c : Nat} {C : Array Value} {fr : Nat × Nat} {w : World} (hB : B ≤ g) (h : w.heap[g]? = some (.cells C 5 fr)) :
    ∃ w' fr', (convert 41 41 (.slice (some ⟨g, 0, none⟩) n c)).run Tryz.prog w = .ok (.slice (some ⟨g, 0, none⟩) n c) w' ∧ w'.heap[g]? = some (.cells C 5 fr') ∧ Like B w w' := by
  have hsh : w.shape? g = some (5, C.size) := by
    unfold World.shape?
    rw [h]
  have hg : g < w.heap.size := (Array.getElem?_eq_some_iff.1 h).1
  have hw : (w.freeze ⟨g, C.size, none⟩ 1).heap = w.heap.modify g fun
      | .cells c elem (lo, hi) => .cells c elem (if lo == hi then (C.size, C.size + 1) else (min lo C.size, max hi (C.size + 1)))
      | o => o := by
    unfold World.freeze
    rw [if_neg (by decide)]
    rfl
  refine ⟨w.freeze ⟨g, C.size, none⟩ 1, if fr.1 == fr.2 then (C.size, C.size + 1) else (min fr.1 C.size, max fr.2 (C.size + 1)), ?_, ?_, ⟨⟨rfl, rfl, rfl, ?_, fun k hk => ?_⟩, fun k C' T fr0 hk => ?_⟩⟩
  · simp [convert, run_underlying Tryz.underlying41, run_underlying Tryz.underlying5, markStringish, hsh]
  · rw [hw, Array.getElem?_modify, if_pos rfl, h]
    rfl
  · rw [hw]; simp
  · rw [hw, Array.getElem?_modify, if_neg (by omega)]
  · rw [hw, Array.getElem?_modify]
    by_cases e : g = k
    · subst e
      rw [if_pos rfl, hk]
      exact ⟨_, rfl⟩
    · rw [if_neg e]
      exact ⟨fr0, hk⟩
end Go.Proofs.YtfdijcdpmgkdkaaGreatDoor
set_option linter.unusedVariables false
namespace Go.Proofs.YtfdijcdpmgkdkaaGreatDoor
open Go.RowKit

def an11k : List UInt8 := [48, 49, 50, 51, 52, 53, 54, 55, 56, 57, 97, 98, 99, 100, 101, 102]
theorem ent_enc : ∀ args w, (callFunc 36 args).run Tryz.prog w = .ok (.enter 36 args) w := run_enters Tryz.func36 (by kernel_rfl) rfl
theorem verify_token {kid typ p key : List UInt8} (hk : wordH kid = true) (ht : wordH typ = true) (hp : p.length ≤ 16384) (hkl : ¬ key.length < 16) :
    verifyJ (tokenL kid typ p key) key = (⟨kid, typ, p, signedL kid typ p, mac key (signedL kid typ p)⟩, 0) := by
  have h := parts_token (key := key) hk ht hp
  unfold verifyJ
  rw [h, if_neg (by simp), if_neg hkl, if_neg (by simp)]
theorem sign_good {kid typ p key : List UInt8} (hk : wordH kid = true) (ht : wordH typ = true) (hp : p.length ≤ 16384) (hkl : ¬ key.length < 16) : signL kid typ p key = (tokenL kid typ p key, 0) := by
  unfold signL
  rw [if_neg (by rw [hk, ht]; simp), if_neg (by omega), if_neg hkl]
theorem an11_word : wordH [107, 49] = true ∧ wordH [74, 87, 84] = true := by decide +kernel
theorem an11_take : (tokenL [107, 49] [74, 87, 84] [123, 125] an11k).take 4 = [101, 121, 74, 104] := by
  unfold tokenL signedL
  have h : (enc (headL [107, 49] [74, 87, 84])).take 4 = [101, 121, 74, 104] ∧ 4 ≤ (enc (headL [107, 49] [74, 87, 84])).length := by decide +kernel
  rw [List.take_append_of_le_length (by rw [List.length_append]; omega), List.take_append_of_le_length h.2]
  exact h.1
theorem enc_an11 : enc [123, 34, 97] = [101, 121, 74, 104] := by decide
set_option maxRecDepth 100000 in
set_option maxHeartbeats 32000000 in
theorem anchor11_any (m : Int) (w : World) (hm : w.cell? ⟨3, 0, none⟩ = some (.int .i64 m)) : Calls Tryz.prog 32 #[] w fun e w' => e = .returned (.bool true) ∧ Below w.heap.size w w' := by
  have kc : ∀ (W : World) (C : Array Value) (n c : Nat), (convert 41 41 (.slice (some ⟨W.heap.size, 0, none⟩) n c)).run Tryz.prog (W.alloc (.cells C 5)) = .ok (.slice (some ⟨W.heap.size, 0, none⟩) n c) (W.alloc (.cells C 5 (C.size, C.size + 1))) := fun W C n c => Lib.run_convert_bytes_const (P := Tryz.prog) W 41 5 C n c Tryz.underlying41 Tryz.underlying5
  have hml := World.block_lt_of_cell? _ _ hm
  go_enter Tryz.func32, Tryz.ntmps32
  go_upto_region 2 with (fail)
  generalize hw1 : w.alloc _ = w1
  have hb1 : Below w.heap.size w w1 := by rw [← hw1]; exact (Below.refl _ _).alloc (Nat.le_refl _) _
  have hr1 : Rd w1 (some ⟨w.heap.size, 0, none⟩) an11k := by rw [← hw1]; exact Rd.of_lit (T := 5) (fr := (16, 17)) _ (by rw [heap_alloc_new]; rfl)
  have HB1 := Lib.hid hb1
  have HR1 := Lib.hid hr1
  have HM1 := Lib.hid ((hb1.cell hml).trans hm)
  clear hw1 hb1 hr1 hm
  go_wp2_with fail
  have hb2 := (Below.refl w1.heap.size w1).alloc (Nat.le_refl _) (.cells #[.int .u8 123, .int .u8 125] 5 (2, 3))
  have hr2 : Rd (w1.alloc (.cells #[.int .u8 123, .int .u8 125] 5 (2, 3))) (some ⟨w1.heap.size, 0, none⟩) [123, 125] := Rd.of_lit (T := 5) (fr := (2, 3)) _ (by rw [heap_alloc_new]; rfl)
  have HS := Lib.hid (sign_any [107, 49] [74, 87, 84] [123, 125] an11k (some ⟨w1.heap.size, 0, none⟩) (some ⟨w.heap.size, 0, none⟩) 2 16 _ hr2 (HR1.out.below hb2) (by decide) (by decide) (by decide) (by decide))
  have hsv : signV [107, 49] [74, 87, 84] [123, 125] an11k = .tuple #[.string ⟨(tokenL [107, 49] [74, 87, 84] [123, 125] an11k).toArray⟩, .int .i64 0] := by
    unfold signV
    rw [sign_good an11_word.1 an11_word.2 (by decide) (by decide)]
  have hver := verify_token (key := an11k) an11_word.1 an11_word.2 (p := [123, 125]) (by decide) (by decide)
  have htk := an11_take
  have htl := (token_len (key := an11k) an11_word.1 an11_word.2 (p := [123, 125]) (by decide)).2.1
  rw [hsv] at HS
  generalize tokenL [107, 49] [74, 87, 84] [123, 125] an11k = T at *
  generalize mac an11k (signedL [107, 49] [74, 87, 84] [123, 125]) = M at *
  generalize signedL [107, 49] [74, 87, 84] [123, 125] = G at *
  have hT4 : 4 ≤ T.length := by
    have h := congrArg List.length htk
    rw [List.length_take] at h
    simp only [List.length_cons, List.length_nil] at h
    omega
  have HVE := Lib.hid hver
  have HSL : Hid (∀ w : World, (Instr.slice 9 (.string ⟨T.toArray⟩) none (some (.int .i64 4)) none).run Tryz.prog w = .ok (.string ⟨#[101, 121, 74, 104]⟩) w) := Lib.hid fun w => by
    have h := str_head T 4 hT4 4 rfl w
    rw [htk] at h
    exact h
  clear hsv hver htk
  generalize hw2 : w1.alloc _ = w2 at *
  have HB2 := Lib.hid (HB1.out.trans (hb2.mono HB1.out.size))
  clear hr2 hw2
  refine HS.out.mono ?_
  rintro e w3 ⟨rfl, hb3⟩
  have hbx := hb2.trans (hb3.mono hb2.size)
  have HB3 := Lib.hid (HB2.out.trans (hb3.mono HB2.out.size))
  have HR3 := Lib.hid (HR1.out.below hbx)
  have hm3 := (hbx.cell (World.block_lt_of_cell? _ _ HM1.out)).trans HM1.out
  have HV := Lib.hid (jwsVerify_any T an11k (some ⟨w.heap.size, 0, none⟩) 16 m w3 hm3 (by omega) HR3.out (by decide))
  rw [HVE.out] at HV
  clear hb2 hb3 hbx hm3 HS HM1
  go_wp2_with fail
  refine HV.out.mono ?_
  rintro e w4 ⟨hb4, v, rfl, pa, pc, ga, gc, rfl, hr1, hr2⟩
  have HB4 := Lib.hid (HB3.out.trans (hb4.mono HB3.out.size))
  have HP4 : Hid (Rd w4 pa [123, 125]) := Lib.hid hr1
  clear hb4 hr1 hr2 HV HVE
  go_upto_region 4 with (fail)
  generalize hw5 : w4.alloc _ = w5
  obtain ⟨pb, hpb⟩ : ∃ pb, w4.heap.size = pb := ⟨_, rfl⟩
  have hb5 : Below w4.heap.size w4 w5 := by rw [← hw5]; exact (Below.refl _ _).alloc (Nat.le_refl _) _
  have hx5 : w5.heap[pb]? = some (.cells #[.string ⟨#[107, 49]⟩, .string ⟨#[74, 87, 84]⟩, .slice pa 2 pc, .string ⟨G.toArray⟩, .slice ga M.length gc] 66 (0, 0)) := by rw [← hw5, ← hpb]; exact heap_alloc_new _ _
  have HB5 := Lib.hid (HB4.out.trans (hb5.mono HB4.out.size))
  have HP5 := Lib.hid (HP4.out.below hb5)
  have HX5 := Lib.hid hx5
  have hpl : pb < w5.heap.size := (Array.getElem?_eq_some_iff.1 hx5).1
  rw [hpb]
  clear hw5 hb5 hx5 HB4 HP4
  refine wp_region_like (by kernel_rfl) (by kernel_rfl) [22, 23, 24, 25, 26, 27, 28, 29, 30, 31, 32, 33, 34, 35, 36, 37, 38, 39, 40, 41, 42, 43, 44, 45, 46, 47, 0] rfl (by decide) (by kernel_rfl) (fun iX => [VIs (.int .i64 0), VIs (.bool true), VIs (.bool true), VIs (.int .i64 0), VIs (.bool true), VIs (.bool true), VIs (.bool true), VIs (.pointer (some ⟨pb, 0, none⟩)), VIs (.pointer (some ⟨pb, 0, none⟩)), VIs (.string ⟨#[107, 49]⟩), VIs (.bool true), VIs (.bool true), VIs (.bool true), VIs (.pointer (some ⟨pb, 2, none⟩)), VIs (.slice pa 2 pc), VIs (.string ⟨#[123, 125]⟩), VIs (.bool true), VIs (.bool true), VIs (.bool true), VIs (.string ⟨T.toArray⟩), VIs (.string ⟨#[101, 121, 74, 104]⟩), VRw w5.heap.size [123, 34, 97], VRw w5.heap.size [123, 34, 97], VIs (.string ⟨#[101, 121, 74, 104]⟩), VIs (.bool true), VIs (.bool true), VIs (.bool true)].getD iX fun _ _ => True) (stab_listL _ _ ?_) ?_ ?_
  · skip
    intro V hV
    simp only [List.mem_cons, List.mem_nil_iff, or_false] at hV
    rcases hV with rfl | rfl | rfl | rfl | rfl | rfl | rfl | rfl | rfl | rfl | rfl | rfl | rfl | rfl | rfl | rfl | rfl | rfl | rfl | rfl | rfl | rfl | rfl | rfl | rfl | rfl | rfl <;> first | exact VIs.stabL _ _ | exact VRw.stabL _ _
  · intro iX o ho a' w' hf hb hd
    rcases iX with _ | _ | _ | _ | _ | _ | _ | _ | _ | _ | _ | _ | _ | _ | _ | _ | _ | _ | _ | _ | _ | _ | _ | _ | _ | _ | _ | iX
    · cases ho
      refine like_op hb.size rfl rfl rfl (grow_move rfl ?_)
      exact (hf.same 3 (by decide)).trans rfl
    · cases ho
      refine like_op hb.size rfl rfl rfl ?_
      have e0 : a'.tmps.getD 22 undef = .int .i64 0 := hd 0 (by kernel_rfl)
      refine grow_value (v := .bool true) (w' := w') ?_ rfl (Below.refl _ _)
      simp only [execOp, Act.eval, e0]
      go_simp
    · cases ho
      refine like_op hb.size rfl rfl rfl (grow_move rfl ?_)
      exact hd 1 (by kernel_rfl)
    · cases ho
      have hg : a'.tmps.getD 24 undef = .bool true := hd 2 (by kernel_rfl)
      refine like_op hb.size rfl (grow_wanted rfl rfl hg) rfl (grow_move rfl ?_)
      exact (hf.same 5 (by decide)).trans rfl
    · cases ho
      have hg : a'.tmps.getD 24 undef = .bool true := hd 2 (by kernel_rfl)
      refine like_op hb.size rfl (grow_wanted rfl rfl hg) rfl ?_
      have e3 : a'.tmps.getD 25 undef = .int .i64 0 := hd 3 (by kernel_rfl)
      refine grow_value (v := .bool true) (w' := w') ?_ rfl (Below.refl _ _)
      simp only [execOp, Act.eval, e3]
      go_simp
    · cases ho
      refine like_op hb.size rfl rfl rfl ?_
      have e2 : a'.tmps.getD 24 undef = .bool true := hd 2 (by kernel_rfl)
      have e4 : a'.tmps.getD 26 undef = .bool true := hd 4 (by kernel_rfl)
      refine grow_value (v := .bool true) (w' := w') ?_ rfl (Below.refl _ _)
      simp only [execOp, Act.eval, e2, e4]
      go_simp
    · cases ho
      refine like_op hb.size rfl rfl rfl (grow_move rfl ?_)
      exact hd 5 (by kernel_rfl)
    · cases ho
      have hg : a'.tmps.getD 28 undef = .bool true := hd 6 (by kernel_rfl)
      refine like_op hb.size rfl (grow_wanted rfl rfl hg) rfl ?_
      have f4 : a'.tmps.getD 4 undef = .pointer (some ⟨pb, 0, none⟩) := (hf.same 4 (by decide)).trans rfl
      refine grow_value (v := .pointer (some ⟨pb, 0, none⟩)) (w' := w') ?_ rfl (Below.refl _ _)
      simp only [execOp, Act.eval]
      go_simp
    · cases ho
      have hg : a'.tmps.getD 28 undef = .bool true := hd 6 (by kernel_rfl)
      refine like_op hb.size rfl (grow_wanted rfl rfl hg) rfl ?_
      have e7 : a'.tmps.getD 29 undef = .pointer (some ⟨pb, 0, none⟩) := hd 7 (by kernel_rfl)
      refine grow_value (v := .pointer (some ⟨pb, 0, none⟩)) (w' := w') ?_ rfl (Below.refl _ _)
      simp only [execOp, Act.eval, e7]
      go_simp
    · cases ho
      have hg : a'.tmps.getD 28 undef = .bool true := hd 6 (by kernel_rfl)
      refine like_op hb.size rfl (grow_wanted rfl rfl hg) rfl ?_
      have e8 : a'.tmps.getD 30 undef = .pointer (some ⟨pb, 0, none⟩) := hd 8 (by kernel_rfl)
      obtain ⟨x0, x1, x2, x3, x4⟩ := five_at HX5.out hb hpl
      refine grow_value (v := .string ⟨#[107, 49]⟩) (w' := w') ?_ rfl (Below.refl _ _)
      simp only [execOp, Act.eval, e8]
      go_simp
    · cases ho
      have hg : a'.tmps.getD 28 undef = .bool true := hd 6 (by kernel_rfl)
      refine like_op hb.size rfl (grow_wanted rfl rfl hg) rfl ?_
      have e9 : a'.tmps.getD 31 undef = .string ⟨#[107, 49]⟩ := hd 9 (by kernel_rfl)
      refine grow_value (v := .bool true) (w' := w') ?_ rfl (Below.refl _ _)
      simp only [execOp, Act.eval, e9]
      go_simp
    · cases ho
      refine like_op hb.size rfl rfl rfl ?_
      have e6 : a'.tmps.getD 28 undef = .bool true := hd 6 (by kernel_rfl)
      have e10 : a'.tmps.getD 32 undef = .bool true := hd 10 (by kernel_rfl)
      refine grow_value (v := .bool true) (w' := w') ?_ rfl (Below.refl _ _)
      simp only [execOp, Act.eval, e6, e10]
      go_simp
    · cases ho
      refine like_op hb.size rfl rfl rfl (grow_move rfl ?_)
      exact hd 11 (by kernel_rfl)
    · cases ho
      have hg : a'.tmps.getD 34 undef = .bool true := hd 12 (by kernel_rfl)
      refine like_op hb.size rfl (grow_wanted rfl rfl hg) rfl ?_
      have f4 : a'.tmps.getD 4 undef = .pointer (some ⟨pb, 0, none⟩) := (hf.same 4 (by decide)).trans rfl
      refine grow_value (v := .pointer (some ⟨pb, 2, none⟩)) (w' := w') ?_ rfl (Below.refl _ _)
      simp only [execOp, Act.eval]
      go_simp
    · cases ho
      have hg : a'.tmps.getD 34 undef = .bool true := hd 12 (by kernel_rfl)
      refine like_op hb.size rfl (grow_wanted rfl rfl hg) rfl ?_
      have e13 : a'.tmps.getD 35 undef = .pointer (some ⟨pb, 2, none⟩) := hd 13 (by kernel_rfl)
      obtain ⟨x0, x1, x2, x3, x4⟩ := five_at HX5.out hb hpl
      refine grow_value (v := .slice pa 2 pc) (w' := w') ?_ rfl (Below.refl _ _)
      simp only [execOp, Act.eval, e13]
      go_simp
    · cases ho
      have hg : a'.tmps.getD 34 undef = .bool true := hd 12 (by kernel_rfl)
      refine like_op hb.size rfl (grow_wanted rfl rfl hg) rfl ?_
      have e14 : a'.tmps.getD 36 undef = .slice pa 2 pc := hd 14 (by kernel_rfl)
      have x0 := str_of_rd (HP5.out.below hb) 2 pc rfl
      refine grow_value (v := .string ⟨#[123, 125]⟩) (w' := w') ?_ rfl (Below.refl _ _)
      simp only [execOp, Act.eval, e14]
      go_simp
    · cases ho
      have hg : a'.tmps.getD 34 undef = .bool true := hd 12 (by kernel_rfl)
      refine like_op hb.size rfl (grow_wanted rfl rfl hg) rfl ?_
      have e15 : a'.tmps.getD 37 undef = .string ⟨#[123, 125]⟩ := hd 15 (by kernel_rfl)
      refine grow_value (v := .bool true) (w' := w') ?_ rfl (Below.refl _ _)
      simp only [execOp, Act.eval, e15]
      go_simp
    · cases ho
      refine like_op hb.size rfl rfl rfl ?_
      have e12 : a'.tmps.getD 34 undef = .bool true := hd 12 (by kernel_rfl)
      have e16 : a'.tmps.getD 38 undef = .bool true := hd 16 (by kernel_rfl)
      refine grow_value (v := .bool true) (w' := w') ?_ rfl (Below.refl _ _)
      simp only [execOp, Act.eval, e12, e16]
      go_simp
    · cases ho
      refine like_op hb.size rfl rfl rfl (grow_move rfl ?_)
      exact hd 17 (by kernel_rfl)
    · cases ho
      have hg : a'.tmps.getD 40 undef = .bool true := hd 18 (by kernel_rfl)
      refine like_op hb.size rfl (grow_wanted rfl rfl hg) rfl (grow_move rfl ?_)
      exact (hf.same 2 (by decide)).trans rfl
    · cases ho
      have hg : a'.tmps.getD 40 undef = .bool true := hd 18 (by kernel_rfl)
      refine like_op hb.size rfl (grow_wanted rfl rfl hg) rfl ?_
      have e19 : a'.tmps.getD 41 undef = .string ⟨T.toArray⟩ := hd 19 (by kernel_rfl)
      have x0 := HSL.out w'
      refine grow_value (v := .string ⟨#[101, 121, 74, 104]⟩) (w' := w') ?_ rfl (Below.refl _ _)
      simp only [execOp, Act.eval, e19]
      go_simp
    · cases ho
      have hg : a'.tmps.getD 40 undef = .bool true := hd 18 (by kernel_rfl)
      refine like_op hb.size rfl (grow_wanted rfl rfl hg) rfl ?_
      refine grow_value (v := .slice (some ⟨w'.heap.size, 0, none⟩) 3 3) (w' := w'.alloc (.cells #[.int .u8 123, .int .u8 34, .int .u8 97] 5)) ?_ ⟨_, _, rfl, hb.size, heap_alloc_new _ _⟩ ((Below.refl _ _).alloc (Nat.le_refl _) _)
      simp only [execOp]
      go_simp
    · cases ho
      have hg : a'.tmps.getD 40 undef = .bool true := hd 18 (by kernel_rfl)
      have e : VRw w5.heap.size [123, 34, 97] (a'.tmps.getD 43 undef) w' := hd 21 (by kernel_rfl)
      obtain ⟨g, fr, e1, hgB, hrow⟩ := e
      obtain ⟨wf, fr', hcv, hrow', hlk⟩ := mark_row (n := 3) (c := 3) hgB hrow
      refine mark_op (w' := wf) (v := .slice (some ⟨g, 0, none⟩) 3 3) rfl (grow_wanted rfl rfl hg) rfl ?_ ⟨g, fr', rfl, hgB, hrow'⟩ hlk
      simp only [execOp, Act.eval, e1]
      go_simp
    · cases ho
      have hg : a'.tmps.getD 40 undef = .bool true := hd 18 (by kernel_rfl)
      refine like_op hb.size rfl (grow_wanted rfl rfl hg) rfl ?_
      have e : VRw w5.heap.size [123, 34, 97] (a'.tmps.getD 44 undef) w' := hd 22 (by kernel_rfl)
      obtain ⟨g, fr, e1, hg, hrow⟩ := e
      refine grow_call ent_enc rfl ?_
      simp only [List.map_toArray, List.map_cons, List.map_nil, Act.eval, e1]
      refine (Encode_any (some ⟨g, 0, none⟩) [123, 34, 97] 3 w' (Rd.of_lit _ hrow) (by decide)).mono ?_
      rintro e w'' ⟨rfl, hb2⟩
      rw [enc_an11]
      exact ⟨_, rfl, rfl, hb2⟩
    · cases ho
      have hg : a'.tmps.getD 40 undef = .bool true := hd 18 (by kernel_rfl)
      refine like_op hb.size rfl (grow_wanted rfl rfl hg) rfl ?_
      have e20 : a'.tmps.getD 42 undef = .string ⟨#[101, 121, 74, 104]⟩ := hd 20 (by kernel_rfl)
      have e23 : a'.tmps.getD 45 undef = .string ⟨#[101, 121, 74, 104]⟩ := hd 23 (by kernel_rfl)
      refine grow_value (v := .bool true) (w' := w') ?_ rfl (Below.refl _ _)
      simp only [execOp, Act.eval, e20, e23]
      go_simp
    · cases ho
      refine like_op hb.size rfl rfl rfl ?_
      have e18 : a'.tmps.getD 40 undef = .bool true := hd 18 (by kernel_rfl)
      have e24 : a'.tmps.getD 46 undef = .bool true := hd 24 (by kernel_rfl)
      refine grow_value (v := .bool true) (w' := w') ?_ rfl (Below.refl _ _)
      simp only [execOp, Act.eval, e18, e24]
      go_simp
    · cases ho
      refine like_op hb.size rfl rfl rfl (grow_assign rfl ?_)
      exact hd 25 (by kernel_rfl)
    · simp at ho
  · intro a' w' hf hb hd
    have hd43 : VRw w5.heap.size [123, 34, 97] _ w' := hd 21 (by decide)
    obtain ⟨g43, -, hv43, -⟩ := hd43
    have hd44 : VRw w5.heap.size [123, 34, 97] _ w' := hd 22 (by decide)
    obtain ⟨g44, -, hv44, -⟩ := hd44
    have hv45 := hd 23 (by decide)
    obtain rfl := hf.eq [Value.int IntKind.i64 0, Value.bool true, Value.bool true, Value.int IntKind.i64 0, Value.bool true, Value.bool true, Value.bool true, Value.pointer (some ⟨pb, 0, none⟩), Value.pointer (some ⟨pb, 0, none⟩), Value.string ⟨#[107, 49]⟩, Value.bool true, Value.bool true, Value.bool true, Value.pointer (some ⟨pb, 2, none⟩), Value.slice pa 2 pc, Value.string ⟨#[123, 125]⟩, Value.bool true, Value.bool true, Value.bool true, Value.string ⟨T.toArray⟩, Value.string ⟨#[101, 121, 74, 104]⟩, Value.slice (some ⟨g43, 0, none⟩) 3 3, Value.slice (some ⟨g44, 0, none⟩) 3 3, Value.string ⟨#[101, 121, 74, 104]⟩, Value.bool true, Value.bool true, Value.bool true] (fun j hj => match j, hj with
      | 0, _ => hd 0 (by decide)
      | 1, _ => hd 1 (by decide)
      | 2, _ => hd 2 (by decide)
      | 3, _ => hd 3 (by decide)
      | 4, _ => hd 4 (by decide)
      | 5, _ => hd 5 (by decide)
      | 6, _ => hd 6 (by decide)
      | 7, _ => hd 7 (by decide)
      | 8, _ => hd 8 (by decide)
      | 9, _ => hd 9 (by decide)
      | 10, _ => hd 10 (by decide)
      | 11, _ => hd 11 (by decide)
      | 12, _ => hd 12 (by decide)
      | 13, _ => hd 13 (by decide)
      | 14, _ => hd 14 (by decide)
      | 15, _ => hd 15 (by decide)
      | 16, _ => hd 16 (by decide)
      | 17, _ => hd 17 (by decide)
      | 18, _ => hd 18 (by decide)
      | 19, _ => hd 19 (by decide)
      | 20, _ => hd 20 (by decide)
      | 21, _ => hv43
      | 22, _ => hv44
      | 23, _ => hv45
      | 24, _ => hd 24 (by decide)
      | 25, _ => hd 25 (by decide)
      | 26, _ => hd 26 (by decide)
      | k + 27, h => absurd h (by simp)) (by decide) (by kernel_rfl) rfl
    simp only [List.zip_cons_cons, List.zip_nil_right, List.foldl_cons, List.foldl_nil, Act.put, List.setIfInBounds_toArray, List.set_cons_succ, List.set_cons_zero]
    have HBF := Lib.hid (HB5.out.trans (hb.mono HB5.out.size))
    clear hd hf hb hv43 hv44 hv45
    go_wp2_with fail
    refine bodyPost_ret (results_tmp rfl _ _ _) rfl ?_
    exact ⟨rfl, HBF.out⟩
end Go.Proofs.YtfdijcdpmgkdkaaGreatDoor
set_option linter.unusedVariables false
namespace Go.Proofs.YtfdijcdpmgkdkaaGreatDoor
open Go.RowKit

theorem on_below {wi wj : World} {Pr : World → Prop} (h : Hid (∀ w', Below wi.heap.size wi w' → Pr w')) (hb : Below wi.heap.size wi wj) : Hid (∀ w', Below wj.heap.size wj w' → Pr w') := Lib.hid fun w' hb' => h.out w' (hb.trans (hb'.mono hb.size))
theorem kind_some (n : List UInt8) (v : JV) : ((getJ n v).isSome && ((getJ n v).getD .zero).kind == 4) = (((getJ n v).getD .zero).kind == 4) := by
  cases getJ n v <;> rfl
theorem dec_short {s b : List UInt8} (h : dec s = some b) : b.length ≤ s.length := by
  have h1 := enc_dec _ _ h
  have h2 := enc_len b
  rw [h1] at h2
  omega
theorem split_no {t : List UInt8} (hl : t.length ≤ 2000) (h : ∀ A B C h p g, partsL 46 t = [A, B, C] → dec A = some h → dec B = some p → dec C = some g → False) : partsJ t = (JP.no, 10) := by
  unfold partsJ
  rw [if_neg (by omega)]
  split
  · next a b c e =>
    split
    · next x y z h1 h2 h3 => exact (h _ _ _ _ _ _ e h1 h2 h3).elim
    · rfl
  · rfl
theorem split_yes {t A B C h p g : List UInt8} (hl : t.length ≤ 2000) (h3 : partsL 46 t = [A, B, C]) (hA : dec A = some h) (hB : dec B = some p) (hC : dec C = some g) :
    partsJ t = if (parseL h 4).2 ≠ 0 ∨ (parseL h 4).1.kind ≠ 6 ∨ ((getJ kidB (parseL h 4).1).getD .zero).kind ≠ 4 ∨ ((getJ typB (parseL h 4).1).getD .zero).kind ≠ 4 ∨ wordH ((getJ kidB (parseL h 4).1).getD .zero).text = false ∨ wordH ((getJ typB (parseL h 4).1).getD .zero).text = false ∨ g.length ≠ 32 then (JP.no, 10)
      else if (getJ crtB (parseL h 4).1).isSome = true ∨ ((getJ algB (parseL h 4).1).getD .zero).kind ≠ 4 ∨ (((getJ algB (parseL h 4).1).getD .zero).text == hsB) = false then (JP.no, 42)
      else (⟨((getJ kidB (parseL h 4).1).getD .zero).text, ((getJ typB (parseL h 4).1).getD .zero).text, p, A ++ 46 :: B, g⟩, 0) := by
  have hpl : p.length ≤ 2000 := by
    have h1 := dec_short hB
    have h2 := partsL_sum 46 t B (by rw [h3]; simp)
    omega
  rw [parts_good (by omega) h3 hA hB hC]
  generalize (parseL h 4).1 = V
  generalize (parseL h 4).2 = f
  have hhd : headB V = (V.kind == 6 && ((((getJ kidB V).getD .zero).kind == 4 && wordH ((getJ kidB V).getD .zero).text) && (((getJ typB V).getD .zero).kind == 4 && wordH ((getJ typB V).getD .zero).text))) := by
    unfold headB
    rw [strM_eq, strM_eq, kind_some, kind_some]
  have hmt : methB V = ((((getJ algB V).getD .zero).kind == 4 && ((getJ algB V).getD .zero).text == hsB) && (getJ crtB V).isNone) := by
    unfold methB
    rw [strM_eq, kind_some]
  have hk : (strM kidB V).1 = ((getJ kidB V).getD .zero).text := by rw [strM_eq]
  have ht : (strM typB V).1 = ((getJ typB V).getD .zero).text := by rw [strM_eq]
  rw [hk, ht, hhd, hmt]
  generalize (getJ kidB V).getD .zero = X
  generalize (getJ typB V).getD .zero = Y
  generalize (getJ algB V).getD .zero = Z
  generalize getJ crtB V = Q
  by_cases c1 : f ≠ 0 ∨ V.kind ≠ 6 ∨ X.kind ≠ 4 ∨ Y.kind ≠ 4 ∨ wordH X.text = false ∨ wordH Y.text = false ∨ g.length ≠ 32
  · rw [if_pos c1, if_pos]
    rcases c1 with c | c | c | c | c | c | c
    · exact .inl c
    · exact .inr (.inl (by rw [beq_false_of_ne c]; rfl))
    · exact .inr (.inl (by rw [beq_false_of_ne c]; simp))
    · exact .inr (.inl (by rw [beq_false_of_ne c]; simp))
    · exact .inr (.inl (by rw [c]; simp))
    · exact .inr (.inl (by rw [c]; simp))
    · exact .inr (.inr (.inr c))
  · rw [if_neg c1, if_neg]
    · by_cases c2 : Q.isSome = true ∨ Z.kind ≠ 4 ∨ (Z.text == hsB) = false
      · rw [if_pos c2, if_pos]
        rcases c2 with c | c | c
        · cases Q
          · cases c
          · simp
        · rw [beq_false_of_ne c]; simp
        · rw [c]; simp
      · rw [if_neg c2, if_neg]
        intro h
        apply c2
        cases Q with
        | some q => exact .inl rfl
        | none =>
          by_cases hz : Z.kind = 4
          · refine .inr (.inr ?_)
            rw [hz] at h
            simpa using h
          · exact .inr (.inl hz)
    · rintro (c | c | c | c)
      · exact c1 (.inl c)
      · apply c1
        by_cases e6 : V.kind = 6
        · by_cases ex : X.kind = 4
          · by_cases ey : Y.kind = 4
            · cases wx : wordH X.text
              · exact .inr (.inr (.inr (.inr (.inl rfl))))
              · cases wy : wordH Y.text
                · exact .inr (.inr (.inr (.inr (.inr (.inl rfl)))))
                · rw [e6, ex, ey, wx, wy] at c
                  cases c
            · exact .inr (.inr (.inr (.inl ey)))
          · exact .inr (.inr (.inl ex))
        · exact .inr (.inl e6)
      · omega
      · exact c1 (.inr (.inr (.inr (.inr (.inr (.inr c))))))
set_option maxRecDepth 100000 in
set_option maxHeartbeats 64000000 in
theorem jwsParses_walk (s : ByteArray) (w : World) (hs : s.size ≤ maxLen) (hm : ∃ m, w.cell? ⟨3, 0, none⟩ = some (.int .i64 m)) :
    Calls Tryz.prog 8 #[.string s] w fun e w' => e = .returned (.bool true) ∧ Below w.heap.size w w' := by
  obtain ⟨m, hm⟩ := hm
  obtain ⟨t, rfl⟩ : ∃ t : List UInt8, s = ⟨t.toArray⟩ := ⟨s.data.toList, by simp⟩
  have hml := World.block_lt_of_cell? _ _ hm
  clear hs
  go_enter Tryz.func8, Tryz.ntmps8
  go_wp2_with fail
  refine (anchor11_any m w hm).mono ?_
  rintro e w1 ⟨rfl, hb⟩
  have FB1 := Lib.hid (fun (w' : World) (hb' : Below w1.heap.size w1 w') => hb.trans (hb'.mono hb.size))
  have hm1 := (hb.cell hml).trans hm
  clear hb hm
  by_cases l1 : t.length ≤ 2000
  case neg =>
    have j1 : (2000 : Int) < (t.length : Int) := by omega
    go_wp2_with fail
    refine bodyPost_ret (results_tmp rfl _ _ _) rfl ?_
    exact ⟨rfl, FB1.out _ (Below.refl _ _)⟩
  have j1 : ¬ (2000 : Int) < (t.length : Int) := by omega
  have HPA := Lib.hid (jwsParse_any t m w1 hm1 (by omega))
  have HNO := Lib.hid (@split_no t l1)
  have HYE := Lib.hid (fun A B C h p g => @split_yes t A B C h p g l1)
  have HSU := Lib.hid (partsL_sum 46 t)
  clear hm1 hml
  obtain ⟨J, hJ⟩ : ∃ J, partsJ t = J := ⟨_, rfl⟩
  rw [hJ] at HPA HNO HYE
  clear hJ
  obtain ⟨⟨K, T, P, G, A⟩, E⟩ := J
  go_wp2_with fail
  refine HPA.out.mono ?_
  rintro e w2 ⟨hb, v, rfl, pa, pc, ga, gc, rfl, hr1, hr2⟩
  have FP2 := Lib.hid (fun (w' : World) (hb' : Below w2.heap.size w2 w') => (show Rd w2 pa P from hr1).below hb')
  have FA2 := Lib.hid (fun (w' : World) (hb' : Below w2.heap.size w2 w') => (show Rd w2 ga A from hr2).below hb')
  have FB2 := on_below FB1 hb
  clear FB1
  clear hb hr1 hr2 HPA
  go_upto_region 6 with (fail)
  generalize hw3 : w2.alloc _ = w3
  obtain ⟨pb, hpb⟩ : ∃ b, w2.heap.size = b := ⟨_, rfl⟩
  have hb : Below w2.heap.size w2 w3 := by rw [← hw3]; exact (Below.refl _ _).alloc (Nat.le_refl _) _
  have hx : w3.heap[pb]? = some (.cells #[.string ⟨K.toArray⟩, .string ⟨T.toArray⟩, .slice pa P.length pc, .string ⟨G.toArray⟩, .slice ga A.length gc] 66 (0, 0)) := by rw [← hw3, ← hpb]; exact heap_alloc_new _ _
  have hlt : pb < w3.heap.size := (Array.getElem?_eq_some_iff.1 hx).1
  have FJ3 := Lib.hid (fun (w' : World) (hb' : Below w3.heap.size w3 w') => five_at hx hb' hlt)
  rw [hpb]
  have FB3 := on_below FB2 hb
  have FP3 := on_below FP2 hb
  have FA3 := on_below FA2 hb
  clear FB2 FP2 FA2
  clear hw3 hpb hb hx hlt
  go_wp2_with fail
  refine (jrefsplit_any t w3 (by omega)).mono ?_
  rintro e w4 ⟨hsp, hb⟩
  have FB4 := on_below FB3 hb
  have FP4 := on_below FP3 hb
  have FA4 := on_below FA3 hb
  have FJ4 := on_below FJ3 hb
  clear FB3 FP3 FA3 FJ3
  clear hb
  rcases hsp with ⟨hno, rfl⟩ | ⟨A0, B0, C0, h, pl, g, la, lc, h3, hdA, hdB, hdC, rfl, hrds⟩
  · have hj := HNO.out hno
    simp only [Prod.mk.injEq, JP.no, JP.mk.injEq] at hj
    obtain ⟨⟨rfl, rfl, rfl, rfl, rfl⟩, rfl⟩ := hj
    obtain ⟨x0, x1, x2, x3, x4⟩ := FJ4.out w4 (Below.refl _ _)
    clear HNO HYE hno
    go_wp2_with fail
    refine bodyPost_ret (results_tmp rfl _ _ _) rfl ?_
    exact ⟨rfl, FB4.out _ (Below.refl _ _)⟩
  have hj := HYE.out A0 B0 C0 h pl g h3 hdA hdB hdC
  have hhl : h.length ≤ 2000 := by
    have h1 := dec_short hdA
    have h2 := HSU.out A0 (by rw [h3]; simp)
    omega
  obtain ⟨lb, loff, rfl, hc⟩ := hrds.resolve_left (by simp)
  obtain ⟨y0, z0, hc0, hr0⟩ := hc 0 (by simp)
  obtain ⟨y1, z1, hc1, hr1⟩ := hc 1 (by simp)
  obtain ⟨y2, z2, hc2, hr2⟩ := hc 2 (by simp)
  simp only [List.getElem_cons_zero, List.getElem_cons_succ, Nat.add_zero] at hc0 hr0 hc1 hr1 hc2 hr2
  have FC4 := Lib.hid (fun (w' : World) (hb' : Below w4.heap.size w4 w') => And.intro ((hb'.cell (World.block_lt_of_cell? _ _ hc0)).trans hc0) (And.intro ((hb'.cell (World.block_lt_of_cell? _ _ hc1)).trans hc1) ((hb'.cell (World.block_lt_of_cell? _ _ hc2)).trans hc2)))
  have FR4 := Lib.hid (fun (w' : World) (hb' : Below w4.heap.size w4 w') => hr1.below hb')
  have FS4 := Lib.hid (fun (w' : World) (hb' : Below w4.heap.size w4 w') => hr2.below hb')
  have HPR := Lib.hid (parse_any h y0 z0 4 w4 hr0 (by omega))
  have hps := parse_size h 4
  obtain ⟨V, f, hVf⟩ : ∃ V f, parseL h 4 = (V, f) := ⟨_, _, rfl⟩
  rw [hVf] at hps HPR hj
  simp only at hps HPR hj
  obtain ⟨S0, hS0⟩ : ∃ S0, A0 ++ 46 :: B0 = S0 := ⟨_, rfl⟩
  rw [hS0] at hj ⊢
  clear hVf hc hc0 hc1 hc2 hr0 hr1 hr2 hrds hS0 hdA hdB hdC h3 HNO HYE HSU hhl
  have HJ := Lib.hid hj
  clear hj
  obtain ⟨c0, c1, c2⟩ := FC4.out w4 (Below.refl _ _)
  go_wp2_with fail
  refine HPR.out.mono ?_
  rintro e w5 ⟨hb, cs5, at5, rfl, hrep⟩
  have FV5 := Lib.hid (fun (w' : World) (hb' : Below w5.heap.size w5 w') => hrep.under hb')
  obtain ⟨va, vc, va', vc', _, _, rfl, -⟩ := hrep.parts
  unfold strV at *
  have hvm := mem_size V
  obtain ⟨k, y, vt, vl, vm, hk, hy, hvt, hvl, hvm'⟩ : ∃ k y t l1 m1, V.kind = k ∧ V.yes = y ∧ (⟨V.text.toArray⟩ : ByteArray) = t ∧ V.list.length = l1 ∧ V.mem.length = m1 := ⟨_, _, _, _, _, rfl, rfl, rfl, rfl, rfl⟩
  rw [hk, hy, hvt, hvl, hvm'] at FV5
  rw [hk, hy, hvt, hvl, hvm']
  rw [hk] at HJ
  have hlx := strM_len kidB V
  have hly := strM_len typB V
  rw [strM_eq] at hlx hly
  have HLxb := Lib.hid (show ((getJ kidB V).getD .zero).text.length ≤ 1000000 from by simp only at hlx; omega)
  have HLyb := Lib.hid (show ((getJ typB V).getD .zero).text.length ≤ 1000000 from by simp only at hly; omega)
  clear hlx hly
  have hvm10 : V.mem.length ≤ 10000000 := by omega
  have HG := Lib.hid (fun (n : List UInt8) (w' : World) (hb' : Below w5.heap.size w5 w') => get_any _ [.int .i64 k, .bool y, .string vt, .slice va vl vc, .slice va' vm vc'] V n w' (FV5.out w' hb') hvm10)
  clear hk hy hvt hvl hvm' hvm hrep c0 c1 c2 HPR FV5 hps hvm10
  have HGK5 := Lib.hid (fun (w' : World) (hb' : Below w5.heap.size w5 w') => HG.out kidB w' hb')
  have HGT5 := Lib.hid (fun (w' : World) (hb' : Below w5.heap.size w5 w') => HG.out typB w' hb')
  have HGA5 := Lib.hid (fun (w' : World) (hb' : Below w5.heap.size w5 w') => HG.out algB w' hb')
  have HGC5 := Lib.hid (fun (w' : World) (hb' : Below w5.heap.size w5 w') => HG.out crtB w' hb')
  clear HG
  generalize getJ kidB V = GK at *
  generalize getJ typB V = GT at *
  generalize getJ algB V = GA at *
  generalize getJ crtB V = GC at *
  unfold kidB at HGK5
  unfold typB at HGT5
  unfold algB at HGA5
  unfold crtB at HGC5
  unfold hsB at HJ
  have FB5 := on_below FB4 hb
  have FP5 := on_below FP4 hb
  have FA5 := on_below FA4 hb
  have FJ5 := on_below FJ4 hb
  have FC5 := on_below FC4 hb
  have FR5 := on_below FR4 hb
  have FS5 := on_below FS4 hb
  clear FB4 FP4 FA4 FJ4 FC4 FR4 FS4
  clear hb
  go_upto_region 10 with (fail)
  generalize hw6 : w5.alloc _ = w6
  obtain ⟨vb, hvb⟩ : ∃ b, w5.heap.size = b := ⟨_, rfl⟩
  have hb : Below w5.heap.size w5 w6 := by rw [← hw6]; exact (Below.refl _ _).alloc (Nat.le_refl _) _
  have hx : w6.heap[vb]? = some (.cells #[.int .i64 k, .bool y, .string vt, .slice va vl vc, .slice va' vm vc'] 26 (0, 0)) := by rw [← hw6, ← hvb]; exact heap_alloc_new _ _
  have hlt : vb < w6.heap.size := (Array.getElem?_eq_some_iff.1 hx).1
  have FW6 := Lib.hid (fun (w' : World) (hb' : Below w6.heap.size w6 w') => five_at hx hb' hlt)
  rw [hvb]
  have FB6 := on_below FB5 hb
  have FP6 := on_below FP5 hb
  have FA6 := on_below FA5 hb
  have FJ6 := on_below FJ5 hb
  have FC6 := on_below FC5 hb
  have FR6 := on_below FR5 hb
  have FS6 := on_below FS5 hb
  have HGK6 := on_below HGK5 hb
  have HGT6 := on_below HGT5 hb
  have HGA6 := on_below HGA5 hb
  have HGC6 := on_below HGC5 hb
  clear FB5 FP5 FA5 FJ5 FC5 FR5 FS5 HGK5 HGT5 HGA5 HGC5
  clear hw6 hvb hb hx hlt
  obtain ⟨v0, v1, v2, v3, v4⟩ := FW6.out w6 (Below.refl _ _)
  go_wp2_with fail
  refine (HGK6.out w6 (Below.refl _ _)).mono ?_
  rintro e w7 ⟨hb, cs, rfl, hrep⟩
  have FB7 := on_below FB6 hb
  have FP7 := on_below FP6 hb
  have FA7 := on_below FA6 hb
  have FJ7 := on_below FJ6 hb
  have FC7 := on_below FC6 hb
  have FR7 := on_below FR6 hb
  have FS7 := on_below FS6 hb
  have HGK7 := on_below HGK6 hb
  have HGT7 := on_below HGT6 hb
  have HGA7 := on_below HGA6 hb
  have HGC7 := on_below HGC6 hb
  have FW7 := on_below FW6 hb
  clear FB6 FP6 FA6 FJ6 FC6 FR6 FS6 HGK6 HGT6 HGA6 HGC6 FW6
  clear hb v0 v1 v2 v3 v4
  obtain ⟨axb, cxb, bxb, dxb, _, _, rfl, -⟩ := hrep.parts
  unfold strV at *
  clear hrep
  generalize GK.getD .zero = X at *
  obtain ⟨kxb, yxb, txb, lxb, mxb, hk, hy, ht, hl, hm⟩ : ∃ k y t l1 m1, X.kind = k ∧ X.yes = y ∧ X.text = t ∧ X.list.length = l1 ∧ X.mem.length = m1 := ⟨_, _, _, _, _, rfl, rfl, rfl, rfl, rfl⟩
  rw [hk, ht] at HJ
  rw [ht] at HLxb
  rw [hk, hy, ht, hl, hm]
  clear hk hy ht hl hm
  generalize GK.isSome = Sxb at *
  go_upto_region 11 with (fail)
  generalize hw8 : w7.alloc _ = w8
  obtain ⟨xb, hxb⟩ : ∃ b, w7.heap.size = b := ⟨_, rfl⟩
  have hb : Below w7.heap.size w7 w8 := by rw [← hw8]; exact (Below.refl _ _).alloc (Nat.le_refl _) _
  have hx : w8.heap[xb]? = some (.cells #[.int .i64 kxb, .bool yxb, .string ⟨txb.toArray⟩, .slice axb lxb cxb, .slice bxb mxb dxb] 26 (0, 0)) := by rw [← hw8, ← hxb]; exact heap_alloc_new _ _
  have hlt : xb < w8.heap.size := (Array.getElem?_eq_some_iff.1 hx).1
  have FX8 := Lib.hid (fun (w' : World) (hb' : Below w8.heap.size w8 w') => five_at hx hb' hlt)
  rw [hxb]
  have FB8 := on_below FB7 hb
  have FP8 := on_below FP7 hb
  have FA8 := on_below FA7 hb
  have FJ8 := on_below FJ7 hb
  have FC8 := on_below FC7 hb
  have FR8 := on_below FR7 hb
  have FS8 := on_below FS7 hb
  have HGK8 := on_below HGK7 hb
  have HGT8 := on_below HGT7 hb
  have HGA8 := on_below HGA7 hb
  have HGC8 := on_below HGC7 hb
  have FW8 := on_below FW7 hb
  clear FB7 FP7 FA7 FJ7 FC7 FR7 FS7 HGK7 HGT7 HGA7 HGC7 FW7
  clear hw8 hxb hb hx hlt
  obtain ⟨v0, v1, v2, v3, v4⟩ := FW8.out w8 (Below.refl _ _)
  go_wp2_with fail
  refine (HGT8.out w8 (Below.refl _ _)).mono ?_
  rintro e w9 ⟨hb, cs, rfl, hrep⟩
  have FB9 := on_below FB8 hb
  have FP9 := on_below FP8 hb
  have FA9 := on_below FA8 hb
  have FJ9 := on_below FJ8 hb
  have FC9 := on_below FC8 hb
  have FR9 := on_below FR8 hb
  have FS9 := on_below FS8 hb
  have HGK9 := on_below HGK8 hb
  have HGT9 := on_below HGT8 hb
  have HGA9 := on_below HGA8 hb
  have HGC9 := on_below HGC8 hb
  have FW9 := on_below FW8 hb
  have FX9 := on_below FX8 hb
  clear FB8 FP8 FA8 FJ8 FC8 FR8 FS8 HGK8 HGT8 HGA8 HGC8 FW8 FX8
  clear hb v0 v1 v2 v3 v4
  obtain ⟨ayb, cyb, byb, dyb, _, _, rfl, -⟩ := hrep.parts
  unfold strV at *
  clear hrep
  generalize GT.getD .zero = Y at *
  obtain ⟨kyb, yyb, tyb, lyb, myb, hk, hy, ht, hl, hm⟩ : ∃ k y t l1 m1, Y.kind = k ∧ Y.yes = y ∧ Y.text = t ∧ Y.list.length = l1 ∧ Y.mem.length = m1 := ⟨_, _, _, _, _, rfl, rfl, rfl, rfl, rfl⟩
  rw [hk, ht] at HJ
  rw [ht] at HLyb
  rw [hk, hy, ht, hl, hm]
  clear hk hy ht hl hm
  generalize GT.isSome = Syb at *
  go_upto_region 12 with (fail)
  generalize hw10 : w9.alloc _ = w10
  obtain ⟨yb, hyb⟩ : ∃ b, w9.heap.size = b := ⟨_, rfl⟩
  have hb : Below w9.heap.size w9 w10 := by rw [← hw10]; exact (Below.refl _ _).alloc (Nat.le_refl _) _
  have hx : w10.heap[yb]? = some (.cells #[.int .i64 kyb, .bool yyb, .string ⟨tyb.toArray⟩, .slice ayb lyb cyb, .slice byb myb dyb] 26 (0, 0)) := by rw [← hw10, ← hyb]; exact heap_alloc_new _ _
  have hlt : yb < w10.heap.size := (Array.getElem?_eq_some_iff.1 hx).1
  have FY10 := Lib.hid (fun (w' : World) (hb' : Below w10.heap.size w10 w') => five_at hx hb' hlt)
  rw [hyb]
  have FB10 := on_below FB9 hb
  have FP10 := on_below FP9 hb
  have FA10 := on_below FA9 hb
  have FJ10 := on_below FJ9 hb
  have FC10 := on_below FC9 hb
  have FR10 := on_below FR9 hb
  have FS10 := on_below FS9 hb
  have HGK10 := on_below HGK9 hb
  have HGT10 := on_below HGT9 hb
  have HGA10 := on_below HGA9 hb
  have HGC10 := on_below HGC9 hb
  have FW10 := on_below FW9 hb
  have FX10 := on_below FX9 hb
  clear FB9 FP9 FA9 FJ9 FC9 FR9 FS9 HGK9 HGT9 HGA9 HGC9 FW9 FX9
  clear hw10 hyb hb hx hlt
  obtain ⟨v0, v1, v2, v3, v4⟩ := FW10.out w10 (Below.refl _ _)
  obtain ⟨x0, x1, x2, x3, x4⟩ := FX10.out w10 (Below.refl _ _)
  obtain ⟨y0', y1', y2', y3', y4'⟩ := FY10.out w10 (Below.refl _ _)
  obtain ⟨j0, j1, j2, j3, j4⟩ := FJ10.out w10 (Below.refl _ _)
  obtain ⟨c0, c1, c2⟩ := FC10.out w10 (Below.refl _ _)
  by_cases q0 : f = 0
  case neg =>
    have hj := HJ.out
    rw [if_pos (.inl q0)] at hj
    simp only [Prod.mk.injEq, JP.no, JP.mk.injEq] at hj
    obtain ⟨⟨rfl, rfl, rfl, rfl, rfl⟩, rfl⟩ := hj
    clear HJ
    have qb : (f != 0) = true := by simp [q0]
    go_wp2_with fail
    refine bodyPost_ret (results_tmp rfl _ _ _) rfl ?_
    exact ⟨rfl, FB10.out _ (Below.refl _ _)⟩
  subst q0
  by_cases q1 : k = 6
  case neg =>
    have hj := HJ.out
    rw [if_pos (.inr (.inl q1))] at hj
    simp only [Prod.mk.injEq, JP.no, JP.mk.injEq] at hj
    obtain ⟨⟨rfl, rfl, rfl, rfl, rfl⟩, rfl⟩ := hj
    clear HJ
    have qb : (k != 6) = true := by simp [q1]
    go_wp2_with fail
    refine bodyPost_ret (results_tmp rfl _ _ _) rfl ?_
    exact ⟨rfl, FB10.out _ (Below.refl _ _)⟩
  subst q1
  by_cases q2 : kxb = 4
  case neg =>
    have hj := HJ.out
    rw [if_pos (.inr (.inr (.inl q2)))] at hj
    simp only [Prod.mk.injEq, JP.no, JP.mk.injEq] at hj
    obtain ⟨⟨rfl, rfl, rfl, rfl, rfl⟩, rfl⟩ := hj
    clear HJ
    have qb : (kxb != 4) = true := by simp [q2]
    go_wp2_with fail
    refine bodyPost_ret (results_tmp rfl _ _ _) rfl ?_
    exact ⟨rfl, FB10.out _ (Below.refl _ _)⟩
  subst q2
  by_cases q3 : kyb = 4
  case neg =>
    have hj := HJ.out
    rw [if_pos (.inr (.inr (.inr (.inl q3))))] at hj
    simp only [Prod.mk.injEq, JP.no, JP.mk.injEq] at hj
    obtain ⟨⟨rfl, rfl, rfl, rfl, rfl⟩, rfl⟩ := hj
    clear HJ
    have qb : (kyb != 4) = true := by simp [q3]
    go_wp2_with fail
    refine bodyPost_ret (results_tmp rfl _ _ _) rfl ?_
    exact ⟨rfl, FB10.out _ (Below.refl _ _)⟩
  subst q3
  have HWX := Lib.hid (fun w' => jrefword_any txb w' HLxb.out)
  have HWY := Lib.hid (fun w' => jrefword_any tyb w' HLyb.out)
  go_wp2_with fail
  refine (HWX.out w10).mono ?_
  rintro e w11 ⟨rfl, hb⟩
  have FB11 := on_below FB10 hb
  have FP11 := on_below FP10 hb
  have FA11 := on_below FA10 hb
  have FJ11 := on_below FJ10 hb
  have FC11 := on_below FC10 hb
  have FR11 := on_below FR10 hb
  have FS11 := on_below FS10 hb
  have HGK11 := on_below HGK10 hb
  have HGT11 := on_below HGT10 hb
  have HGA11 := on_below HGA10 hb
  have HGC11 := on_below HGC10 hb
  have FW11 := on_below FW10 hb
  have FX11 := on_below FX10 hb
  have FY11 := on_below FY10 hb
  clear FB10 FP10 FA10 FJ10 FC10 FR10 FS10 HGK10 HGT10 HGA10 HGC10 FW10 FX10 FY10
  clear hb v0 v1 v2 v3 v4 x0 x1 x2 x3 x4 y0' y1' y2' y3' y4' j0 j1 j2 j3 j4 c0 c1 c2
  obtain ⟨v0, v1, v2, v3, v4⟩ := FW11.out w11 (Below.refl _ _)
  obtain ⟨x0, x1, x2, x3, x4⟩ := FX11.out w11 (Below.refl _ _)
  obtain ⟨y0', y1', y2', y3', y4'⟩ := FY11.out w11 (Below.refl _ _)
  obtain ⟨j0, j1, j2, j3, j4⟩ := FJ11.out w11 (Below.refl _ _)
  obtain ⟨c0, c1, c2⟩ := FC11.out w11 (Below.refl _ _)
  by_cases wx : wordH txb = true
  case neg =>
    have wx : wordH txb = false := by simpa using wx
    have hj := HJ.out
    rw [if_pos (.inr (.inr (.inr (.inr (.inl wx)))))] at hj
    simp only [Prod.mk.injEq, JP.no, JP.mk.injEq] at hj
    obtain ⟨⟨rfl, rfl, rfl, rfl, rfl⟩, rfl⟩ := hj
    clear HJ
    rw [wx]
    go_wp2_with fail
    refine bodyPost_ret (results_tmp rfl _ _ _) rfl ?_
    exact ⟨rfl, FB11.out _ (Below.refl _ _)⟩
  rw [wx]
  go_wp2_with fail
  refine (HWY.out w11).mono ?_
  rintro e w12 ⟨rfl, hb⟩
  have FB12 := on_below FB11 hb
  have FP12 := on_below FP11 hb
  have FA12 := on_below FA11 hb
  have FJ12 := on_below FJ11 hb
  have FC12 := on_below FC11 hb
  have FR12 := on_below FR11 hb
  have FS12 := on_below FS11 hb
  have HGK12 := on_below HGK11 hb
  have HGT12 := on_below HGT11 hb
  have HGA12 := on_below HGA11 hb
  have HGC12 := on_below HGC11 hb
  have FW12 := on_below FW11 hb
  have FX12 := on_below FX11 hb
  have FY12 := on_below FY11 hb
  clear FB11 FP11 FA11 FJ11 FC11 FR11 FS11 HGK11 HGT11 HGA11 HGC11 FW11 FX11 FY11
  clear hb v0 v1 v2 v3 v4 x0 x1 x2 x3 x4 y0' y1' y2' y3' y4' j0 j1 j2 j3 j4 c0 c1 c2
  obtain ⟨v0, v1, v2, v3, v4⟩ := FW12.out w12 (Below.refl _ _)
  obtain ⟨x0, x1, x2, x3, x4⟩ := FX12.out w12 (Below.refl _ _)
  obtain ⟨y0', y1', y2', y3', y4'⟩ := FY12.out w12 (Below.refl _ _)
  obtain ⟨j0, j1, j2, j3, j4⟩ := FJ12.out w12 (Below.refl _ _)
  obtain ⟨c0, c1, c2⟩ := FC12.out w12 (Below.refl _ _)
  by_cases wy : wordH tyb = true
  case neg =>
    have wy : wordH tyb = false := by simpa using wy
    have hj := HJ.out
    rw [if_pos (.inr (.inr (.inr (.inr (.inr (.inl wy))))))] at hj
    simp only [Prod.mk.injEq, JP.no, JP.mk.injEq] at hj
    obtain ⟨⟨rfl, rfl, rfl, rfl, rfl⟩, rfl⟩ := hj
    clear HJ
    rw [wy]
    go_wp2_with fail
    refine bodyPost_ret (results_tmp rfl _ _ _) rfl ?_
    exact ⟨rfl, FB12.out _ (Below.refl _ _)⟩
  rw [wy]
  by_cases q4 : g.length = 32
  case neg =>
    have hj := HJ.out
    rw [if_pos (.inr (.inr (.inr (.inr (.inr (.inr (q4)))))))] at hj
    simp only [Prod.mk.injEq, JP.no, JP.mk.injEq] at hj
    obtain ⟨⟨rfl, rfl, rfl, rfl, rfl⟩, rfl⟩ := hj
    clear HJ
    have qb : ((g.length : Int) != 32) = true := by
      rw [bne_iff_ne]
      omega
    go_wp2_with fail
    refine bodyPost_ret (results_tmp rfl _ _ _) rfl ?_
    exact ⟨rfl, FB12.out _ (Below.refl _ _)⟩
  have hj := HJ.out
  rw [if_neg (by rintro (c | c | c | c | c | c | c) <;> first | exact c rfl | (rw [wx] at c; cases c) | (rw [wy] at c; cases c) | exact c q4)] at hj
  have HJ2 := Lib.hid hj
  have qb4 : ((g.length : Int) != 32) = false := by rw [q4]; rfl
  clear hj HJ q4 wx wy HWX HWY v0 v1 v2 v3 v4 x0 x1 x2 x3 x4 y0' y1' y2' y3' y4' j0 j1 j2 j3 j4
  go_upto_region 14 with (fail)
  clear c0 c1 c2
  obtain ⟨v0, v1, v2, v3, v4⟩ := FW12.out w12 (Below.refl _ _)
  go_wp2_with fail
  refine (HGA12.out w12 (Below.refl _ _)).mono ?_
  rintro e w13 ⟨hb, cs, rfl, hrep⟩
  have FB13 := on_below FB12 hb
  have FP13 := on_below FP12 hb
  have FA13 := on_below FA12 hb
  have FJ13 := on_below FJ12 hb
  have FC13 := on_below FC12 hb
  have FR13 := on_below FR12 hb
  have FS13 := on_below FS12 hb
  have HGK13 := on_below HGK12 hb
  have HGT13 := on_below HGT12 hb
  have HGA13 := on_below HGA12 hb
  have HGC13 := on_below HGC12 hb
  have FW13 := on_below FW12 hb
  have FX13 := on_below FX12 hb
  have FY13 := on_below FY12 hb
  clear FB12 FP12 FA12 FJ12 FC12 FR12 FS12 HGK12 HGT12 HGA12 HGC12 FW12 FX12 FY12
  clear hb v0 v1 v2 v3 v4
  obtain ⟨azb, czb, bzb, dzb, _, _, rfl, -⟩ := hrep.parts
  unfold strV at *
  clear hrep
  generalize GA.getD .zero = Z at *
  obtain ⟨kzb, yzb, tzb, lzb, mzb, hk, hy, ht, hl, hm⟩ : ∃ k y t l1 m1, Z.kind = k ∧ Z.yes = y ∧ Z.text = t ∧ Z.list.length = l1 ∧ Z.mem.length = m1 := ⟨_, _, _, _, _, rfl, rfl, rfl, rfl, rfl⟩
  rw [hk, ht] at HJ2
  rw [hk, hy, ht, hl, hm]
  clear hk hy ht hl hm
  generalize GA.isSome = Szb at *
  go_upto_region 15 with (fail)
  generalize hw14 : w13.alloc _ = w14
  obtain ⟨zb, hzb⟩ : ∃ b, w13.heap.size = b := ⟨_, rfl⟩
  have hb : Below w13.heap.size w13 w14 := by rw [← hw14]; exact (Below.refl _ _).alloc (Nat.le_refl _) _
  have hx : w14.heap[zb]? = some (.cells #[.int .i64 kzb, .bool yzb, .string ⟨tzb.toArray⟩, .slice azb lzb czb, .slice bzb mzb dzb] 26 (0, 0)) := by rw [← hw14, ← hzb]; exact heap_alloc_new _ _
  have hlt : zb < w14.heap.size := (Array.getElem?_eq_some_iff.1 hx).1
  have FZ14 := Lib.hid (fun (w' : World) (hb' : Below w14.heap.size w14 w') => five_at hx hb' hlt)
  rw [hzb]
  have FB14 := on_below FB13 hb
  have FP14 := on_below FP13 hb
  have FA14 := on_below FA13 hb
  have FJ14 := on_below FJ13 hb
  have FC14 := on_below FC13 hb
  have FR14 := on_below FR13 hb
  have FS14 := on_below FS13 hb
  have HGK14 := on_below HGK13 hb
  have HGT14 := on_below HGT13 hb
  have HGA14 := on_below HGA13 hb
  have HGC14 := on_below HGC13 hb
  have FW14 := on_below FW13 hb
  have FX14 := on_below FX13 hb
  have FY14 := on_below FY13 hb
  clear FB13 FP13 FA13 FJ13 FC13 FR13 FS13 HGK13 HGT13 HGA13 HGC13 FW13 FX13 FY13
  clear hw14 hzb hb hx hlt
  obtain ⟨v0, v1, v2, v3, v4⟩ := FW14.out w14 (Below.refl _ _)
  go_wp2_with fail
  refine (HGC14.out w14 (Below.refl _ _)).mono ?_
  rintro e w15 ⟨hb, cs, rfl, hrep⟩
  have FB15 := on_below FB14 hb
  have FP15 := on_below FP14 hb
  have FA15 := on_below FA14 hb
  have FJ15 := on_below FJ14 hb
  have FC15 := on_below FC14 hb
  have FR15 := on_below FR14 hb
  have FS15 := on_below FS14 hb
  have HGK15 := on_below HGK14 hb
  have HGT15 := on_below HGT14 hb
  have HGA15 := on_below HGA14 hb
  have HGC15 := on_below HGC14 hb
  have FW15 := on_below FW14 hb
  have FX15 := on_below FX14 hb
  have FY15 := on_below FY14 hb
  have FZ15 := on_below FZ14 hb
  clear FB14 FP14 FA14 FJ14 FC14 FR14 FS14 HGK14 HGT14 HGA14 HGC14 FW14 FX14 FY14 FZ14
  clear hb v0 v1 v2 v3 v4
  obtain ⟨aqb, cqb, bqb, dqb, _, _, rfl, -⟩ := hrep.parts
  unfold strV at *
  clear hrep
  generalize GC.getD .zero = Q at *
  obtain ⟨kqb, yqb, tqb, lqb, mqb, hk, hy, ht, hl, hm⟩ : ∃ k y t l1 m1, Q.kind = k ∧ Q.yes = y ∧ Q.text = t ∧ Q.list.length = l1 ∧ Q.mem.length = m1 := ⟨_, _, _, _, _, rfl, rfl, rfl, rfl, rfl⟩
  rw [hk, hy, ht, hl, hm]
  clear hk hy ht hl hm
  generalize GC.isSome = Sqb at *
  go_upto_region 16 with (fail)
  generalize hw16 : w15.alloc _ = w16
  obtain ⟨qb, hqb⟩ : ∃ b, w15.heap.size = b := ⟨_, rfl⟩
  have hb : Below w15.heap.size w15 w16 := by rw [← hw16]; exact (Below.refl _ _).alloc (Nat.le_refl _) _
  have hx : w16.heap[qb]? = some (.cells #[.int .i64 kqb, .bool yqb, .string ⟨tqb.toArray⟩, .slice aqb lqb cqb, .slice bqb mqb dqb] 26 (0, 0)) := by rw [← hw16, ← hqb]; exact heap_alloc_new _ _
  have hlt : qb < w16.heap.size := (Array.getElem?_eq_some_iff.1 hx).1
  have FQ16 := Lib.hid (fun (w' : World) (hb' : Below w16.heap.size w16 w') => five_at hx hb' hlt)
  rw [hqb]
  have FB16 := on_below FB15 hb
  have FP16 := on_below FP15 hb
  have FA16 := on_below FA15 hb
  have FJ16 := on_below FJ15 hb
  have FC16 := on_below FC15 hb
  have FR16 := on_below FR15 hb
  have FS16 := on_below FS15 hb
  have HGK16 := on_below HGK15 hb
  have HGT16 := on_below HGT15 hb
  have HGA16 := on_below HGA15 hb
  have HGC16 := on_below HGC15 hb
  have FW16 := on_below FW15 hb
  have FX16 := on_below FX15 hb
  have FY16 := on_below FY15 hb
  have FZ16 := on_below FZ15 hb
  clear FB15 FP15 FA15 FJ15 FC15 FR15 FS15 HGK15 HGT15 HGA15 HGC15 FW15 FX15 FY15 FZ15
  clear hw16 hqb hb hx hlt
  obtain ⟨z0', z1', z2', z3', z4'⟩ := FZ16.out w16 (Below.refl _ _)
  obtain ⟨j0, j1, j2, j3, j4⟩ := FJ16.out w16 (Below.refl _ _)
  by_cases q5 : Sqb = false
  case neg =>
    have q5 : Sqb = true := by simpa using q5
    have hj := HJ2.out
    rw [if_pos (.inl q5)] at hj
    simp only [Prod.mk.injEq, JP.no, JP.mk.injEq] at hj
    obtain ⟨⟨rfl, rfl, rfl, rfl, rfl⟩, rfl⟩ := hj
    clear HJ2
    subst q5
    go_wp2_with fail
    refine bodyPost_ret (results_tmp rfl _ _ _) rfl ?_
    exact ⟨rfl, FB16.out _ (Below.refl _ _)⟩
  subst q5
  by_cases q6 : kzb = 4
  case neg =>
    have hj := HJ2.out
    rw [if_pos (.inr (.inl q6))] at hj
    simp only [Prod.mk.injEq, JP.no, JP.mk.injEq] at hj
    obtain ⟨⟨rfl, rfl, rfl, rfl, rfl⟩, rfl⟩ := hj
    clear HJ2
    have qb6 : (kzb != 4) = true := by simp [q6]
    go_wp2_with fail
    refine bodyPost_ret (results_tmp rfl _ _ _) rfl ?_
    exact ⟨rfl, FB16.out _ (Below.refl _ _)⟩
  subst q6
  by_cases q7 : (tzb == [72, 83, 50, 53, 54]) = true
  case neg =>
    have q7 : (tzb == [72, 83, 50, 53, 54]) = false := by simpa using q7
    have hj := HJ2.out
    rw [if_pos (.inr (.inr q7))] at hj
    simp only [Prod.mk.injEq, JP.no, JP.mk.injEq] at hj
    obtain ⟨⟨rfl, rfl, rfl, rfl, rfl⟩, rfl⟩ := hj
    clear HJ2
    go_wp2_with fail
    refine bodyPost_ret (results_tmp rfl _ _ _) rfl ?_
    exact ⟨rfl, FB16.out _ (Below.refl _ _)⟩
  have hj := HJ2.out
  rw [if_neg (by rintro (c | c | c) <;> first | cases c | exact c rfl | (rw [q7] at c; cases c))] at hj
  simp only [Prod.mk.injEq, JP.mk.injEq] at hj
  obtain ⟨⟨rfl, rfl, rfl, rfl, rfl⟩, rfl⟩ := hj
  have hz : tzb = [72, 83, 50, 53, 54] := by simpa using q7
  subst hz
  clear HJ2 q7
  go_upto_region 18 with (fail)
  clear z0' z1' z2' z3' z4' j0 j1 j2 j3 j4
  refine wp_region_grow (by kernel_rfl) (by kernel_rfl) [133, 134, 135, 136, 137, 138, 139, 140, 141, 142, 143, 144, 145, 146, 147, 148, 149, 150, 151, 152, 153, 154, 155, 156, 157, 158, 159, 160, 161, 162, 163, 164, 165, 166, 167, 168, 169, 170, 2] rfl (by decide) (by kernel_rfl) (fun iX => [VIs (.int .i64 0), VIs (.bool true), VIs (.bool true), VIs (.pointer (some ⟨pb, 3, none⟩)), VIs (.string ⟨G.toArray⟩), VIs (.string ⟨G.toArray⟩), VIs (.bool true), VIs (.bool true), VIs (.bool true), VIs (.pointer (some ⟨pb, 2, none⟩)), VIs (.slice pa P.length pc), VIs (.string ⟨P.toArray⟩), VIs (.slice (some ⟨lb, loff, none⟩) 3 lc), VIs (.pointer (some ⟨lb, loff + 1, none⟩)), VIs (.slice y1 P.length z1), VIs (.string ⟨P.toArray⟩), VIs (.bool true), VIs (.bool true), VIs (.bool true), VIs (.pointer (some ⟨pb, 4, none⟩)), VIs (.slice ga A.length gc), VIs (.string ⟨A.toArray⟩), VIs (.slice (some ⟨lb, loff, none⟩) 3 lc), VIs (.pointer (some ⟨lb, loff + 2, none⟩)), VIs (.slice y2 A.length z2), VIs (.string ⟨A.toArray⟩), VIs (.bool true), VIs (.bool true), VIs (.bool true), VIs (.pointer (some ⟨pb, 0, none⟩)), VIs (.agg #[.string ⟨K.toArray⟩, .string ⟨T.toArray⟩]), VIs (.pointer (some ⟨xb, 2, none⟩)), VIs (.string ⟨K.toArray⟩), VIs (.pointer (some ⟨yb, 2, none⟩)), VIs (.string ⟨T.toArray⟩), VIs (.agg #[.string ⟨K.toArray⟩, .string ⟨T.toArray⟩]), VIs (.bool true), VIs (.bool true), VIs (.bool true)].getD iX fun _ _ => True) (stab_list _ ?_) ?_ ?_
  · skip
    intro V hV
    simp only [List.mem_cons, List.mem_nil_iff, or_false] at hV
    rcases hV with rfl | rfl | rfl | rfl | rfl | rfl | rfl | rfl | rfl | rfl | rfl | rfl | rfl | rfl | rfl | rfl | rfl | rfl | rfl | rfl | rfl | rfl | rfl | rfl | rfl | rfl | rfl | rfl | rfl | rfl | rfl | rfl | rfl | rfl | rfl | rfl | rfl | rfl | rfl <;> first | exact VIs.stab _ | exact VBytes.stab _ | exact VStr.stab _ | exact VParts.stab _ | exact VRow.stab _ | exact VRow8.stab _ _ | exact VRowIs.stab _ _ _
  · intro iX o ho a' w' hf hb hd
    rcases iX with _ | _ | _ | _ | _ | _ | _ | _ | _ | _ | _ | _ | _ | _ | _ | _ | _ | _ | _ | _ | _ | _ | _ | _ | _ | _ | _ | _ | _ | _ | _ | _ | _ | _ | _ | _ | _ | _ | _ | iX
    · cases ho
      refine grow_op rfl rfl rfl (grow_move rfl ?_)
      exact (hf.same 4 (by decide)).trans rfl
    · cases ho
      refine grow_op rfl rfl rfl ?_
      have e0 : a'.tmps.getD 133 undef = .int .i64 0 := hd 0 (by kernel_rfl)
      refine grow_value (v := .bool true) (w' := w') ?_ rfl (Below.refl _ _)
      simp only [execOp, Act.eval, e0]
      go_simp
    · cases ho
      refine grow_op rfl rfl rfl (grow_move rfl ?_)
      exact hd 1 (by kernel_rfl)
    · cases ho
      have hg : a'.tmps.getD 135 undef = .bool true := hd 2 (by kernel_rfl)
      refine grow_op rfl (grow_wanted rfl rfl hg) rfl ?_
      have f3 : a'.tmps.getD 3 undef = .pointer (some ⟨pb, 0, none⟩) := (hf.same 3 (by decide)).trans rfl
      refine grow_value (v := .pointer (some ⟨pb, 3, none⟩)) (w' := w') ?_ rfl (Below.refl _ _)
      simp only [execOp, Act.eval]
      go_simp
    · cases ho
      have hg : a'.tmps.getD 135 undef = .bool true := hd 2 (by kernel_rfl)
      refine grow_op rfl (grow_wanted rfl rfl hg) rfl ?_
      have e3 : a'.tmps.getD 136 undef = .pointer (some ⟨pb, 3, none⟩) := hd 3 (by kernel_rfl)
      obtain ⟨x0, x1, x2, x3, x4⟩ := FJ16.out w' hb
      refine grow_value (v := .string ⟨G.toArray⟩) (w' := w') ?_ rfl (Below.refl _ _)
      simp only [execOp, Act.eval, e3]
      go_simp
    · cases ho
      have hg : a'.tmps.getD 135 undef = .bool true := hd 2 (by kernel_rfl)
      refine grow_op rfl (grow_wanted rfl rfl hg) rfl (grow_move rfl ?_)
      exact (hf.same 6 (by decide)).trans rfl
    · cases ho
      have hg : a'.tmps.getD 135 undef = .bool true := hd 2 (by kernel_rfl)
      refine grow_op rfl (grow_wanted rfl rfl hg) rfl ?_
      have e4 : a'.tmps.getD 137 undef = .string ⟨G.toArray⟩ := hd 4 (by kernel_rfl)
      have e5 : a'.tmps.getD 138 undef = .string ⟨G.toArray⟩ := hd 5 (by kernel_rfl)
      refine grow_value (v := .bool true) (w' := w') ?_ rfl (Below.refl _ _)
      simp only [execOp, Act.eval, e4, e5]
      go_simp
    · cases ho
      refine grow_op rfl rfl rfl ?_
      have e2 : a'.tmps.getD 135 undef = .bool true := hd 2 (by kernel_rfl)
      have e6 : a'.tmps.getD 139 undef = .bool true := hd 6 (by kernel_rfl)
      refine grow_value (v := .bool true) (w' := w') ?_ rfl (Below.refl _ _)
      simp only [execOp, Act.eval, e2, e6]
      go_simp
    · cases ho
      refine grow_op rfl rfl rfl (grow_move rfl ?_)
      exact hd 7 (by kernel_rfl)
    · cases ho
      have hg : a'.tmps.getD 141 undef = .bool true := hd 8 (by kernel_rfl)
      refine grow_op rfl (grow_wanted rfl rfl hg) rfl ?_
      have f3 : a'.tmps.getD 3 undef = .pointer (some ⟨pb, 0, none⟩) := (hf.same 3 (by decide)).trans rfl
      refine grow_value (v := .pointer (some ⟨pb, 2, none⟩)) (w' := w') ?_ rfl (Below.refl _ _)
      simp only [execOp, Act.eval]
      go_simp
    · cases ho
      have hg : a'.tmps.getD 141 undef = .bool true := hd 8 (by kernel_rfl)
      refine grow_op rfl (grow_wanted rfl rfl hg) rfl ?_
      have e9 : a'.tmps.getD 142 undef = .pointer (some ⟨pb, 2, none⟩) := hd 9 (by kernel_rfl)
      obtain ⟨x0, x1, x2, x3, x4⟩ := FJ16.out w' hb
      refine grow_value (v := .slice pa P.length pc) (w' := w') ?_ rfl (Below.refl _ _)
      simp only [execOp, Act.eval, e9]
      go_simp
    · cases ho
      have hg : a'.tmps.getD 141 undef = .bool true := hd 8 (by kernel_rfl)
      refine grow_op rfl (grow_wanted rfl rfl hg) rfl ?_
      have e10 : a'.tmps.getD 143 undef = .slice pa P.length pc := hd 10 (by kernel_rfl)
      have x0 := str_of_rd (FP16.out w' hb) P.length pc rfl
      refine grow_value (v := .string ⟨P.toArray⟩) (w' := w') ?_ rfl (Below.refl _ _)
      simp only [execOp, Act.eval, e10]
      go_simp
    · cases ho
      have hg : a'.tmps.getD 141 undef = .bool true := hd 8 (by kernel_rfl)
      refine grow_op rfl (grow_wanted rfl rfl hg) rfl (grow_move rfl ?_)
      exact (hf.same 5 (by decide)).trans rfl
    · cases ho
      have hg : a'.tmps.getD 141 undef = .bool true := hd 8 (by kernel_rfl)
      refine grow_op rfl (grow_wanted rfl rfl hg) rfl ?_
      have e12 : a'.tmps.getD 145 undef = .slice (some ⟨lb, loff, none⟩) 3 lc := hd 12 (by kernel_rfl)
      refine grow_value (v := .pointer (some ⟨lb, loff + 1, none⟩)) (w' := w') ?_ rfl (Below.refl _ _)
      simp only [execOp, Act.eval, e12]
      go_simp
    · cases ho
      have hg : a'.tmps.getD 141 undef = .bool true := hd 8 (by kernel_rfl)
      refine grow_op rfl (grow_wanted rfl rfl hg) rfl ?_
      have e13 : a'.tmps.getD 146 undef = .pointer (some ⟨lb, loff + 1, none⟩) := hd 13 (by kernel_rfl)
      obtain ⟨c0, c1, c2⟩ := FC16.out w' hb
      refine grow_value (v := .slice y1 P.length z1) (w' := w') ?_ rfl (Below.refl _ _)
      simp only [execOp, Act.eval, e13]
      go_simp
    · cases ho
      have hg : a'.tmps.getD 141 undef = .bool true := hd 8 (by kernel_rfl)
      refine grow_op rfl (grow_wanted rfl rfl hg) rfl ?_
      have e14 : a'.tmps.getD 147 undef = .slice y1 P.length z1 := hd 14 (by kernel_rfl)
      have x0 := str_of_rd (FR16.out w' hb) P.length z1 rfl
      refine grow_value (v := .string ⟨P.toArray⟩) (w' := w') ?_ rfl (Below.refl _ _)
      simp only [execOp, Act.eval, e14]
      go_simp
    · cases ho
      have hg : a'.tmps.getD 141 undef = .bool true := hd 8 (by kernel_rfl)
      refine grow_op rfl (grow_wanted rfl rfl hg) rfl ?_
      have e11 : a'.tmps.getD 144 undef = .string ⟨P.toArray⟩ := hd 11 (by kernel_rfl)
      have e15 : a'.tmps.getD 148 undef = .string ⟨P.toArray⟩ := hd 15 (by kernel_rfl)
      refine grow_value (v := .bool true) (w' := w') ?_ rfl (Below.refl _ _)
      simp only [execOp, Act.eval, e11, e15]
      go_simp
    · cases ho
      refine grow_op rfl rfl rfl ?_
      have e8 : a'.tmps.getD 141 undef = .bool true := hd 8 (by kernel_rfl)
      have e16 : a'.tmps.getD 149 undef = .bool true := hd 16 (by kernel_rfl)
      refine grow_value (v := .bool true) (w' := w') ?_ rfl (Below.refl _ _)
      simp only [execOp, Act.eval, e8, e16]
      go_simp
    · cases ho
      refine grow_op rfl rfl rfl (grow_move rfl ?_)
      exact hd 17 (by kernel_rfl)
    · cases ho
      have hg : a'.tmps.getD 151 undef = .bool true := hd 18 (by kernel_rfl)
      refine grow_op rfl (grow_wanted rfl rfl hg) rfl ?_
      have f3 : a'.tmps.getD 3 undef = .pointer (some ⟨pb, 0, none⟩) := (hf.same 3 (by decide)).trans rfl
      refine grow_value (v := .pointer (some ⟨pb, 4, none⟩)) (w' := w') ?_ rfl (Below.refl _ _)
      simp only [execOp, Act.eval]
      go_simp
    · cases ho
      have hg : a'.tmps.getD 151 undef = .bool true := hd 18 (by kernel_rfl)
      refine grow_op rfl (grow_wanted rfl rfl hg) rfl ?_
      have e19 : a'.tmps.getD 152 undef = .pointer (some ⟨pb, 4, none⟩) := hd 19 (by kernel_rfl)
      obtain ⟨x0, x1, x2, x3, x4⟩ := FJ16.out w' hb
      refine grow_value (v := .slice ga A.length gc) (w' := w') ?_ rfl (Below.refl _ _)
      simp only [execOp, Act.eval, e19]
      go_simp
    · cases ho
      have hg : a'.tmps.getD 151 undef = .bool true := hd 18 (by kernel_rfl)
      refine grow_op rfl (grow_wanted rfl rfl hg) rfl ?_
      have e20 : a'.tmps.getD 153 undef = .slice ga A.length gc := hd 20 (by kernel_rfl)
      have x0 := str_of_rd (FA16.out w' hb) A.length gc rfl
      refine grow_value (v := .string ⟨A.toArray⟩) (w' := w') ?_ rfl (Below.refl _ _)
      simp only [execOp, Act.eval, e20]
      go_simp
    · cases ho
      have hg : a'.tmps.getD 151 undef = .bool true := hd 18 (by kernel_rfl)
      refine grow_op rfl (grow_wanted rfl rfl hg) rfl (grow_move rfl ?_)
      exact (hf.same 5 (by decide)).trans rfl
    · cases ho
      have hg : a'.tmps.getD 151 undef = .bool true := hd 18 (by kernel_rfl)
      refine grow_op rfl (grow_wanted rfl rfl hg) rfl ?_
      have e22 : a'.tmps.getD 155 undef = .slice (some ⟨lb, loff, none⟩) 3 lc := hd 22 (by kernel_rfl)
      refine grow_value (v := .pointer (some ⟨lb, loff + 2, none⟩)) (w' := w') ?_ rfl (Below.refl _ _)
      simp only [execOp, Act.eval, e22]
      go_simp
    · cases ho
      have hg : a'.tmps.getD 151 undef = .bool true := hd 18 (by kernel_rfl)
      refine grow_op rfl (grow_wanted rfl rfl hg) rfl ?_
      have e23 : a'.tmps.getD 156 undef = .pointer (some ⟨lb, loff + 2, none⟩) := hd 23 (by kernel_rfl)
      obtain ⟨c0, c1, c2⟩ := FC16.out w' hb
      refine grow_value (v := .slice y2 A.length z2) (w' := w') ?_ rfl (Below.refl _ _)
      simp only [execOp, Act.eval, e23]
      go_simp
    · cases ho
      have hg : a'.tmps.getD 151 undef = .bool true := hd 18 (by kernel_rfl)
      refine grow_op rfl (grow_wanted rfl rfl hg) rfl ?_
      have e24 : a'.tmps.getD 157 undef = .slice y2 A.length z2 := hd 24 (by kernel_rfl)
      have x0 := str_of_rd (FS16.out w' hb) A.length z2 rfl
      refine grow_value (v := .string ⟨A.toArray⟩) (w' := w') ?_ rfl (Below.refl _ _)
      simp only [execOp, Act.eval, e24]
      go_simp
    · cases ho
      have hg : a'.tmps.getD 151 undef = .bool true := hd 18 (by kernel_rfl)
      refine grow_op rfl (grow_wanted rfl rfl hg) rfl ?_
      have e21 : a'.tmps.getD 154 undef = .string ⟨A.toArray⟩ := hd 21 (by kernel_rfl)
      have e25 : a'.tmps.getD 158 undef = .string ⟨A.toArray⟩ := hd 25 (by kernel_rfl)
      refine grow_value (v := .bool true) (w' := w') ?_ rfl (Below.refl _ _)
      simp only [execOp, Act.eval, e21, e25]
      go_simp
    · cases ho
      refine grow_op rfl rfl rfl ?_
      have e18 : a'.tmps.getD 151 undef = .bool true := hd 18 (by kernel_rfl)
      have e26 : a'.tmps.getD 159 undef = .bool true := hd 26 (by kernel_rfl)
      refine grow_value (v := .bool true) (w' := w') ?_ rfl (Below.refl _ _)
      simp only [execOp, Act.eval, e18, e26]
      go_simp
    · cases ho
      refine grow_op rfl rfl rfl (grow_move rfl ?_)
      exact hd 27 (by kernel_rfl)
    · cases ho
      have hg : a'.tmps.getD 161 undef = .bool true := hd 28 (by kernel_rfl)
      refine grow_op rfl (grow_wanted rfl rfl hg) rfl ?_
      have f3 : a'.tmps.getD 3 undef = .pointer (some ⟨pb, 0, none⟩) := (hf.same 3 (by decide)).trans rfl
      refine grow_value (v := .pointer (some ⟨pb, 0, none⟩)) (w' := w') ?_ rfl (Below.refl _ _)
      simp only [execOp, Act.eval]
      go_simp
    · cases ho
      have hg : a'.tmps.getD 161 undef = .bool true := hd 28 (by kernel_rfl)
      refine grow_op rfl (grow_wanted rfl rfl hg) rfl ?_
      have e29 : a'.tmps.getD 162 undef = .pointer (some ⟨pb, 0, none⟩) := hd 29 (by kernel_rfl)
      obtain ⟨x0, x1, x2, x3, x4⟩ := FJ16.out w' hb
      refine grow_value (v := .agg #[.string ⟨K.toArray⟩, .string ⟨T.toArray⟩]) (w' := w') ?_ rfl (Below.refl _ _)
      simp only [execOp, Act.eval, e29]
      go_simp
    · cases ho
      have hg : a'.tmps.getD 161 undef = .bool true := hd 28 (by kernel_rfl)
      refine grow_op rfl (grow_wanted rfl rfl hg) rfl ?_
      have f11 : a'.tmps.getD 11 undef = .pointer (some ⟨xb, 0, none⟩) := (hf.same 11 (by decide)).trans rfl
      refine grow_value (v := .pointer (some ⟨xb, 2, none⟩)) (w' := w') ?_ rfl (Below.refl _ _)
      simp only [execOp, Act.eval]
      go_simp
    · cases ho
      have hg : a'.tmps.getD 161 undef = .bool true := hd 28 (by kernel_rfl)
      refine grow_op rfl (grow_wanted rfl rfl hg) rfl ?_
      have e31 : a'.tmps.getD 164 undef = .pointer (some ⟨xb, 2, none⟩) := hd 31 (by kernel_rfl)
      obtain ⟨x0, x1, x2, x3, x4⟩ := FX16.out w' hb
      refine grow_value (v := .string ⟨K.toArray⟩) (w' := w') ?_ rfl (Below.refl _ _)
      simp only [execOp, Act.eval, e31]
      go_simp
    · cases ho
      have hg : a'.tmps.getD 161 undef = .bool true := hd 28 (by kernel_rfl)
      refine grow_op rfl (grow_wanted rfl rfl hg) rfl ?_
      have f13 : a'.tmps.getD 13 undef = .pointer (some ⟨yb, 0, none⟩) := (hf.same 13 (by decide)).trans rfl
      refine grow_value (v := .pointer (some ⟨yb, 2, none⟩)) (w' := w') ?_ rfl (Below.refl _ _)
      simp only [execOp, Act.eval]
      go_simp
    · cases ho
      have hg : a'.tmps.getD 161 undef = .bool true := hd 28 (by kernel_rfl)
      refine grow_op rfl (grow_wanted rfl rfl hg) rfl ?_
      have e33 : a'.tmps.getD 166 undef = .pointer (some ⟨yb, 2, none⟩) := hd 33 (by kernel_rfl)
      obtain ⟨x0, x1, x2, x3, x4⟩ := FY16.out w' hb
      refine grow_value (v := .string ⟨T.toArray⟩) (w' := w') ?_ rfl (Below.refl _ _)
      simp only [execOp, Act.eval, e33]
      go_simp
    · cases ho
      have hg : a'.tmps.getD 161 undef = .bool true := hd 28 (by kernel_rfl)
      refine grow_op rfl (grow_wanted rfl rfl hg) rfl ?_
      have e32 : a'.tmps.getD 165 undef = .string ⟨K.toArray⟩ := hd 32 (by kernel_rfl)
      have e34 : a'.tmps.getD 167 undef = .string ⟨T.toArray⟩ := hd 34 (by kernel_rfl)
      refine grow_value (v := .agg #[.string ⟨K.toArray⟩, .string ⟨T.toArray⟩]) (w' := w') ?_ rfl (Below.refl _ _)
      simp only [execOp, Act.eval, List.map_toArray, List.map_cons, List.map_nil, e32, e34]
      go_simp
    · cases ho
      have hg : a'.tmps.getD 161 undef = .bool true := hd 28 (by kernel_rfl)
      refine grow_op rfl (grow_wanted rfl rfl hg) rfl ?_
      have e30 : a'.tmps.getD 163 undef = .agg #[.string ⟨K.toArray⟩, .string ⟨T.toArray⟩] := hd 30 (by kernel_rfl)
      have e35 : a'.tmps.getD 168 undef = .agg #[.string ⟨K.toArray⟩, .string ⟨T.toArray⟩] := hd 35 (by kernel_rfl)
      refine grow_value (v := .bool true) (w' := w') ?_ rfl (Below.refl _ _)
      simp only [execOp, Act.eval, e30, e35]
      go_simp
    · cases ho
      refine grow_op rfl rfl rfl ?_
      have e28 : a'.tmps.getD 161 undef = .bool true := hd 28 (by kernel_rfl)
      have e36 : a'.tmps.getD 169 undef = .bool true := hd 36 (by kernel_rfl)
      refine grow_value (v := .bool true) (w' := w') ?_ rfl (Below.refl _ _)
      simp only [execOp, Act.eval, e28, e36]
      go_simp
    · cases ho
      refine grow_op rfl rfl rfl (grow_assign rfl ?_)
      exact hd 37 (by kernel_rfl)
    · simp at ho
  · intro a' w' hf hb hd
    obtain rfl := hf.eq [Value.int IntKind.i64 0, Value.bool true, Value.bool true, Value.pointer (some ⟨pb, 3, none⟩), Value.string ⟨G.toArray⟩, Value.string ⟨G.toArray⟩, Value.bool true, Value.bool true, Value.bool true, Value.pointer (some ⟨pb, 2, none⟩), Value.slice pa P.length pc, Value.string ⟨P.toArray⟩, Value.slice (some ⟨lb, loff, none⟩) 3 lc, Value.pointer (some ⟨lb, loff + 1, none⟩), Value.slice y1 P.length z1, Value.string ⟨P.toArray⟩, Value.bool true, Value.bool true, Value.bool true, Value.pointer (some ⟨pb, 4, none⟩), Value.slice ga A.length gc, Value.string ⟨A.toArray⟩, Value.slice (some ⟨lb, loff, none⟩) 3 lc, Value.pointer (some ⟨lb, loff + 2, none⟩), Value.slice y2 A.length z2, Value.string ⟨A.toArray⟩, Value.bool true, Value.bool true, Value.bool true, Value.pointer (some ⟨pb, 0, none⟩), Value.agg #[.string ⟨K.toArray⟩, .string ⟨T.toArray⟩], Value.pointer (some ⟨xb, 2, none⟩), Value.string ⟨K.toArray⟩, Value.pointer (some ⟨yb, 2, none⟩), Value.string ⟨T.toArray⟩, Value.agg #[.string ⟨K.toArray⟩, .string ⟨T.toArray⟩], Value.bool true, Value.bool true, Value.bool true] (fun j hj => match j, hj with
      | 0, _ => hd 0 (by decide)
      | 1, _ => hd 1 (by decide)
      | 2, _ => hd 2 (by decide)
      | 3, _ => hd 3 (by decide)
      | 4, _ => hd 4 (by decide)
      | 5, _ => hd 5 (by decide)
      | 6, _ => hd 6 (by decide)
      | 7, _ => hd 7 (by decide)
      | 8, _ => hd 8 (by decide)
      | 9, _ => hd 9 (by decide)
      | 10, _ => hd 10 (by decide)
      | 11, _ => hd 11 (by decide)
      | 12, _ => hd 12 (by decide)
      | 13, _ => hd 13 (by decide)
      | 14, _ => hd 14 (by decide)
      | 15, _ => hd 15 (by decide)
      | 16, _ => hd 16 (by decide)
      | 17, _ => hd 17 (by decide)
      | 18, _ => hd 18 (by decide)
      | 19, _ => hd 19 (by decide)
      | 20, _ => hd 20 (by decide)
      | 21, _ => hd 21 (by decide)
      | 22, _ => hd 22 (by decide)
      | 23, _ => hd 23 (by decide)
      | 24, _ => hd 24 (by decide)
      | 25, _ => hd 25 (by decide)
      | 26, _ => hd 26 (by decide)
      | 27, _ => hd 27 (by decide)
      | 28, _ => hd 28 (by decide)
      | 29, _ => hd 29 (by decide)
      | 30, _ => hd 30 (by decide)
      | 31, _ => hd 31 (by decide)
      | 32, _ => hd 32 (by decide)
      | 33, _ => hd 33 (by decide)
      | 34, _ => hd 34 (by decide)
      | 35, _ => hd 35 (by decide)
      | 36, _ => hd 36 (by decide)
      | 37, _ => hd 37 (by decide)
      | 38, _ => hd 38 (by decide)
      | k + 39, h => absurd h (by simp)) (by decide) (by kernel_rfl) rfl
    simp only [List.zip_cons_cons, List.zip_nil_right, List.foldl_cons, List.foldl_nil, Act.put, List.setIfInBounds_toArray, List.set_cons_succ, List.set_cons_zero]
    have HBF := Lib.hid (FB16.out w' hb)
    clear hd hf hb
    go_wp2_with fail
    refine bodyPost_ret (results_tmp rfl _ _ _) rfl ?_
    exact ⟨rfl, HBF.out⟩
end Go.Proofs.YtfdijcdpmgkdkaaGreatDoor
