/- Merged: JsWx, OpnL. -/
import Derived.Deep.Strs
import Derived.ChangeSame
import GoSem.ClaimJoined
import Derived.Test.YtfcokdkbjajohaaGreatDoorMg1
import Derived.Test.YtfcokdkbjajohaaGreatDoorMg2
import Derived.Test.YtfcokdkbjajohaaGreatDoorMg3
import Derived.Test.YtfcokdkbjajohaaGreatDoorMg4
import Derived.Test.YtfcokdkbjajohaaGreatDoorMg5
import Derived.Test.YtfcokdkbjajohaaGreatDoorMg6
import Derived.Test.YtfcokdkbjajohaaGreatDoorMg7
import Derived.Test.YtfcokdkbjajohaaGreatDoorWx1
/- The walk of JsonWith. -/
set_option linter.unusedVariables false
namespace Go.Proofs.YtfcokdkbjajohaaGreatDoor
open Go.RowKit

theorem ent_jnumx : ∀ args w, (callFunc 14 args).run Tryz.prog w = .ok (.enter 14 args) w := run_enters Tryz.func14 (by kernel_rfl) rfl
theorem ent_jwith : ∀ args w, (callFunc 29 args).run Tryz.prog w = .ok (.enter 29 args) w := run_enters Tryz.func29 (by kernel_rfl) rfl
theorem ent_jwithout : ∀ args w, (callFunc 30 args).run Tryz.prog w = .ok (.enter 30 args) w := run_enters Tryz.func30 (by kernel_rfl) rfl
theorem ent_jsame : ∀ args w, (callFunc 21 args).run Tryz.prog w = .ok (.enter 21 args) w := run_enters Tryz.func21 (by kernel_rfl) rfl
/-- An object's cells. -/
def VOb (M : List (List UInt8 × JV)) : Value → World → Prop := fun x w => ∃ cs, x = .agg cs.toArray ∧ Rep (fun _ => True) w cs (jobj M)
theorem VOb.stab (M : List (List UInt8 × JV)) : Stab (VOb M) := fun x w1 w2 ⟨cs, e, h⟩ hb => ⟨cs, e, h.under hb⟩
def zeroV : Obj := .cells #[.int .i64 0, .bool false, .string ⟨#[]⟩, .slice none 0 0, .slice none 0 0] 26
theorem numF_rc (l : List (List UInt8)) (hl : l.length ≤ 1000) (x : List UInt8 × JV) (hx : x ∈ numF 0 l) : RightC x.2 := by
  obtain ⟨i, hi, e⟩ := numF_val l 0 x hx
  rw [e]
  refine jright _ ?_
  have := itoa_len (i : Int) (by omega) (by omega)
  simp only [jnum, sizeJ, sizeL, sizeM]
  omega
theorem numF_sz (l : List (List UInt8)) (hl : l.length ≤ 1000) (x : List UInt8 × JV) (hx : x ∈ numF 0 l) : sizeJ x.2 ≤ 100 := by
  obtain ⟨i, hi, e⟩ := numF_val l 0 x hx
  rw [e]
  have := itoa_len (i : Int) (by omega) (by omega)
  simp only [jnum, sizeJ, sizeL, sizeM]
  omega
theorem num_rc (n : Int) (h0 : 0 ≤ n) (h1 : n ≤ 9007199254740992) : RightC (jnum (Lib.itoa n)) := by
  refine jright _ ?_
  have := itoa_len n (by omega) (by omega)
  simp only [jnum, sizeJ, sizeL, sizeM]
  omega
theorem six_at {B x : Nat} {w w' : World} {a b c d e f : Value} {T : TypeId} {fr : Nat × Nat} (h : w.heap[x]? = some (.cells #[a, b, c, d, e, f] T fr)) (hb : Below B w w') (hx : x < B) :
    w'.cell? ⟨x, 0, none⟩ = some a ∧ w'.cell? ⟨x, 1, none⟩ = some b ∧ w'.cell? ⟨x, 2, none⟩ = some c ∧ w'.cell? ⟨x, 3, none⟩ = some d ∧ w'.cell? ⟨x, 4, none⟩ = some e ∧ w'.cell? ⟨x, 5, none⟩ = some f := by
  have h' := (hb.block x hx).trans h
  exact ⟨by rw [Lib.cell_of_heap h']; rfl, by rw [Lib.cell_of_heap h']; rfl, by rw [Lib.cell_of_heap h']; rfl, by rw [Lib.cell_of_heap h']; rfl, by rw [Lib.cell_of_heap h']; rfl, by rw [Lib.cell_of_heap h']; rfl⟩
theorem five_off {w w' : World} {g o : Nat} {a b c d e : Value} (h : w.cell? ⟨g, o + 1, none⟩ = some a ∧ w.cell? ⟨g, o + 2, none⟩ = some b ∧ w.cell? ⟨g, o + 3, none⟩ = some c ∧ w.cell? ⟨g, o + 4, none⟩ = some d ∧ w.cell? ⟨g, o + 5, none⟩ = some e) (hb : Below w.heap.size w w') :
    w'.cell? ⟨g, o + 1, none⟩ = some a ∧ w'.cell? ⟨g, o + 1 + 1, none⟩ = some b ∧ w'.cell? ⟨g, o + 1 + 2, none⟩ = some c ∧ w'.cell? ⟨g, o + 1 + 3, none⟩ = some d ∧ w'.cell? ⟨g, o + 1 + 4, none⟩ = some e := by
  obtain ⟨h1, h2, h3, h4, h5⟩ := h
  exact ⟨(hb.cell (World.block_lt_of_cell? _ _ h1)).trans h1, (hb.cell (World.block_lt_of_cell? _ _ h2)).trans h2, (hb.cell (World.block_lt_of_cell? _ _ h3)).trans h3, (hb.cell (World.block_lt_of_cell? _ _ h4)).trans h4, (hb.cell (World.block_lt_of_cell? _ _ h5)).trans h5⟩
set_option maxRecDepth 100000 in
set_option maxHeartbeats 64000000 in
theorem jsonWith_walk (a : Option Addr) (c : Nat) (l : List (List UInt8)) (s : ByteArray) (n : Int) (w : World) (hr : RdC w a (l.map strV) ∧ l.length ≤ c ∧ ∀ x ∈ l, x.length ≤ reachBytes) (hs : s.size ≤ maxLen) (hn : (Lit.int .i64 n).wf = true) (hm : ∃ m, w.cell? ⟨3, 0, none⟩ = some (.int .i64 m)) (hst : Std3 w) (hsr : s.size ≤ reachBytes) :
    Calls Tryz.prog 6 #[.slice a l.length c, .string s, .int .i64 n] w fun e w' => e = .returned (.bool true) ∧ Below w.heap.size w w' := by
  obtain ⟨S, rfl⟩ : ∃ t : List UInt8, s = ⟨t.toArray⟩ := ⟨s.data.toList, by simp⟩
  have hsl : S.length ≤ 140737488351232 := by
    unfold reachBytes at hsr
    simp only [ByteArray.size, List.size_toArray] at hsr
    exact hsr
  have HR := Lib.hid hr.1
  have hlc := hr.2.1
  have HLB := Lib.hid (show ∀ x ∈ l, x.length ≤ 140737488351232 from hr.2.2)
  have HST := Lib.hid hst
  clear hr hst hm hs hn hsr
  go_enter Tryz.func6, Tryz.ntmps6
  go_wp2_with fail
  refine (anchor06_any w).mono ?_
  rintro e w1 ⟨rfl, hb1⟩
  have HB1 := Lib.hid hb1
  have HR1 := Lib.hid (HR.out.below hb1)
  have HS1 := Lib.hid (HST.out.below hb1)
  clear hb1 HR HST
  by_cases l1 : l.length ≤ 20
  case neg =>
    have j1 : (20 : Int) < (l.length : Int) := by omega
    go_wp2_with fail
    refine bodyPost_ret (results_tmp rfl _ _ _) rfl ?_
    exact ⟨rfl, HB1.out⟩
  have j1 : ¬ (20 : Int) < (l.length : Int) := by omega
  by_cases l2 : n < 0
  · go_wp2_with fail
    refine bodyPost_ret (results_tmp rfl _ _ _) rfl ?_
    exact ⟨rfl, HB1.out⟩
  by_cases l3 : 9007199254740992 < n
  · go_wp2_with fail
    refine bodyPost_ret (results_tmp rfl _ _ _) rfl ?_
    exact ⟨rfl, HB1.out⟩
  go_wp2_with fail
  go_loopg [7, 39] l.length (fun k x5 x26 wr => ∃ (j : Nat) (rv : Value), x5 = rv ∧ x26 = .int .i64 (j : Int) ∧ j + k = l.length ∧ Hid (wr.ownsRow w1.heap.size 35 6 rv j (memCells (numF 0 (l.take j)) (cellsF 0 (l.take j)))) ∧ Hid (Below w1.heap.size w1 wr))
  case atStart => exact ⟨0, .slice none 0 0, rfl, rfl, by omega, Lib.hid (World.ownsRow_nil _ _ _ _), Lib.hid (Below.refl _ _)⟩
  case round =>
    obtain ⟨gO, rfl⟩ : ∃ x : Nat, x = gk := ⟨_, rfl⟩
    obtain ⟨wo, rfl⟩ : ∃ x : World, x = wr := ⟨_, rfl⟩
    obtain ⟨j, rv, rfl, rfl, hjk, HOW, HB⟩ := hrel
    have hso : w1.heap.size ≤ wo.heap.size := HB.out.size
    obtain ⟨ro, rc, hro, -, -⟩ := RdC.of_own HOW.out
    subst hro
    by_cases hlt : j < l.length
    · have hltI : (j : Int) < (l.length : Int) := by omega
      obtain ⟨nm, hnm⟩ : ∃ x, l[j] = x := ⟨_, rfl⟩
      have htk : l.take (j + 1) = l.take j ++ [nm] := by rw [List.take_succ_eq_append_getElem hlt, hnm]
      have hlj : (l.take j).length = j := by rw [List.length_take]; omega
      obtain ⟨b, off, rfl, hc⟩ := HR1.out.at (by intro e; rw [List.map_eq_nil_iff] at e; rw [e] at hlt; simp at hlt)
      have c0 : wo.cell? ⟨b, off + j, none⟩ = some (.string ⟨nm.toArray⟩) := by
        have h := hc j (strV nm) (by rw [List.getElem?_map, List.getElem?_eq_getElem hlt, hnm]; rfl)
        exact (HB.out.cell (World.block_lt_of_cell? _ _ h)).trans h
      have hnu := jnum_fn (j : Int) (by omega) (by omega) wo (HS1.out.below HB.out).1
      obtain ⟨I, hI⟩ : ∃ I, Lib.itoa (j : Int) = I := ⟨_, rfl⟩
      rw [hI] at hnu
      have HNU := Lib.hid hnu
      have HROW : Hid (memCells (numF 0 (l.take (j + 1))) (cellsF 0 (l.take (j + 1))) = memCells (numF 0 (l.take j)) (cellsF 0 (l.take j)) ++ [.string ⟨nm.toArray⟩, .int .i64 3, .bool false, .string ⟨I.toArray⟩, .slice none 0 0, .slice none 0 0]) := Lib.hid (by
        rw [htk, numF_snoc, cellsF_snoc, hlj, Nat.zero_add, hI, memCells_snoc _ _ _ _ _ (cellsF_len _ _)]
        rfl)
      obtain ⟨M, hM⟩ : ∃ M, memCells (numF 0 (l.take j)) (cellsF 0 (l.take j)) = M := ⟨_, rfl⟩
      rw [hM] at HROW HOW
      clear hlj htk hc hnu hI hnm hM
      go_wp2_with fail
      refine HNU.out.mono ?_
      rintro e w2 ⟨rfl, hb2⟩
      have HB2 := Lib.hid (HB.out.trans (hb2.mono hso))
      have HOW2 := Lib.hid (own_below HOW.out hb2)
      have hs2 : w1.heap.size ≤ w2.heap.size := HB2.out.size
      clear hb2 HNU c0 HB HOW
      go_wp2_with (at_builtin; refine wpList_append_rows rfl (.tmp 44) (.tmp 49) 24 rfl w1.heap.size 35 6 96 Tryz.underlying24 (by kernel_rfl) (by decide) _ j M rfl (HOW2.out.alloc _) ⟨w2.heap.size, 0, none⟩ 1 1 [.string ⟨nm.toArray⟩, .int .i64 3, .bool false, .string ⟨I.toArray⟩, .slice none 0 0, .slice none 0 0] rfl rfl ?c1 ?c2 ?c3 ?c4 ?c5 ?_)
      case c1 =>
        intro j u hu
        rw [Addr.add_lit, Lib.cell_of_heap (heap_alloc_new w2 _)]
        simpa using hu
      case c2 => intro u hu; simp only [List.mem_cons, List.mem_nil_iff, or_false] at hu; rcases hu with rfl | rfl | rfl | rfl | rfl | rfl <;> rfl
      case c3 => omega
      case c4 => omega
      case c5 => simp; omega
      intro v' w3 hown' hgrow _
      have HB3 := Lib.hid (below_own (HB2.out.alloc hs2 _) (HOW2.out.alloc _) hgrow (by simp; omega))
      rw [← HROW.out] at hown'
      have HOW3 := Lib.hid hown'
      clear hown' hgrow HOW2 HB2 HROW
      go_wp2_with fail
      go_roundg (gO - 1)
      case measure => omega
      case rel => exact ⟨j + 1, _, rfl, by first | rfl | (congr 1), by omega, HOW3, HB3⟩
    · have hje : j = l.length := by omega
      subst hje
      have hltI : ¬ (l.length : Int) < (l.length : Int) := by omega
      rw [List.take_length] at HOW
      have hown := HOW.out
      obtain ⟨ra, rc', he, hrd, hle⟩ := own_rd hown
      simp only [Value.slice.injEq, true_and] at he
      obtain ⟨rfl, rfl⟩ := he
      have hna : ro = none → (numF 0 l).length = 0 := none_rd hrd (cellsF_reps (fun _ => True) wo l 0)
      have hob := obj_any _ ro rc (numF 0 l) (cellsF 0 l) wo (hrd.mono fun _ _ => trivial) (cellsF_reps (fun _ => True) wo l 0) (by rw [numF_len]; omega) hna
      have hnl := numF_len l 0
      rw [hnl] at hob
      have HOB := Lib.hid hob
      have hrr : RightC (jobj (numF 0 l)) := jright_obj false [] [] (numF 0 l) (fun x hx => numF_rc l (by omega) x hx) (fun x hx => HLB.out _ (numF_mem l 0 x hx)) (by rw [numF_len]; omega)
      have hre : rightJ (jobj (numF 0 l)) = unlikeB l := by simp [jobj, rightJ, unlikeB]
      have HRR := Lib.hid (fun ok cs w' h => hrr ok cs w' h)
      rw [hre] at HRR
      have HBW := Lib.hid (HB1.out.trans (HB.out.mono HB1.out.size))
      have HSO := Lib.hid (HS1.out.below HB.out)
      have HNM := Lib.hid (numF_names l 0)
      obtain ⟨I, hI⟩ : ∃ I, Lib.itoa n = I := ⟨_, rfl⟩
      have HI := Lib.hid hI
      have HNRC := Lib.hid (num_rc n (by omega) (by omega))
      have HNIN := Lib.hid (int_itoa n (by omega) (by omega))
      have hil := itoa_len n (by omega) (by omega)
      rw [hI] at HNRC HNIN hil
      have HRC := Lib.hid (numF_rc l (by omega))
      have HLF := Lib.hid (numF_leaf l 0)
      have HNB := Lib.hid (fun x hx => HLB.out _ (numF_mem l 0 x hx))
      have HRT := Lib.hid (fun x (hx : x ∈ numF 0 l) => numF_right_at hx)
      have hur : Hid (unlikeB l = rightM (numF 0 l)) := Lib.hid rfl
      have HSZ := Lib.hid (numF_sz l (by omega))
      obtain ⟨M, hM⟩ : ∃ M, numF 0 l = M := ⟨_, rfl⟩
      rw [hM] at hnl HRR HOB HNM HRC HLF HNB HRT hur HSZ
      clear hown hrd hle hna hob hrr hre hI hM HOW HB HR1 HLB HB1 HS1
      go_wp2_with fail
      refine HOB.out.mono ?_
      rintro e w2 ⟨hb2, cs, rfl, hrep⟩
      have HB2 := Lib.hid (HBW.out.trans (hb2.mono HBW.out.size))
      have HS2 := Lib.hid (HSO.out.below hb2)
      obtain ⟨a1, c1, a1', c1', cm1, rfl, hr1, hm1, hc1⟩ := rep_obj hrep hnl
      have HR2 := Lib.hid hrep
      have HRW := Lib.hid hr1
      have HMW := Lib.hid hm1
      clear hb2 hrep hr1 hm1 HOB HBW HSO
      obtain ⟨b1, hb1⟩ : ∃ b, w2.heap.size = b := ⟨_, rfl⟩
      go_upto_region 12 with (fail)
      generalize hw3 : w2.alloc _ = w3
      have hb3 : Below w2.heap.size w2 w3 := by rw [← hw3]; exact (Below.refl _ _).alloc (Nat.le_refl _) _
      have hx3 : w3.heap[b1]? = some (.cells #[.int .i64 6, .bool false, .string ⟨#[]⟩, .slice a1 0 c1, .slice a1' l.length c1'] 26 (0, 0)) := by rw [← hw3, ← hb1]; exact heap_alloc_new _ _
      have hs1 : b1 < w3.heap.size := (Array.getElem?_eq_some_iff.1 hx3).1
      have HX3 := Lib.hid hx3
      have HB3 := Lib.hid (HB2.out.trans (hb3.mono HB2.out.size))
      have HS3 := Lib.hid (HS2.out.below hb3)
      have HR3 := Lib.hid (HR2.out.under hb3)
      have HRW3 := Lib.hid (HRW.out.keep fun b hb' hlt => hb3.block b hlt)
      have HMW3 := Lib.hid (HMW.out.under hb3)
      clear hw3 hb3 hx3 hb1 HB2 HS2 HR2 HRW HMW
      obtain ⟨x0, x1, x2, x3, x4⟩ := five_at HX3.out (Below.refl w3.heap.size w3) hs1
      go_wp2_with fail
      refine (HRR.out _ [.int .i64 6, .bool false, .string ⟨#[]⟩, .slice a1 0 c1, .slice a1' l.length c1'] w3 HR3.out).mono ?_
      rintro e w4 ⟨rfl, hb4⟩
      have HB4 := Lib.hid (HB3.out.trans (hb4.mono HB3.out.size))
      have HS4 := Lib.hid (HS3.out.below hb4)
      have HR4 := Lib.hid (HR3.out.under hb4)
      have HX4 := Lib.hid ((hb4.block _ hs1).trans HX3.out)
      have hs14 : b1 < w4.heap.size := Nat.lt_of_lt_of_le hs1 hb4.size
      have HRW4 := Lib.hid (HRW3.out.keep fun b hb' hlt => hb4.block b hlt)
      have HMW4 := Lib.hid (HMW3.out.under hb4)
      clear hb4 HB3 HS3 HR3 HX3 hs1 HRW3 HMW3 x0 x1 x2 x3 x4 HRR
      obtain ⟨UL, hUL⟩ : ∃ u, unlikeB l = u := ⟨_, rfl⟩
      rw [hUL] at hur ⊢
      clear hUL
      cases UL with
      | false =>
        go_wp2_with fail
        refine bodyPost_ret (results_tmp rfl _ _ _) rfl ?_
        exact ⟨rfl, HB4.out⟩
      | true =>
      go_wp2_with fail
      refine (jstr_fn S w4).mono ?_
      rintro e w5 ⟨rfl, hb5⟩
      have HB5 := Lib.hid (HB4.out.trans (hb5.mono HB4.out.size))
      have HS5 := Lib.hid (HS4.out.below hb5)
      have HR5 := Lib.hid (HR4.out.under hb5)
      have HX5 := Lib.hid ((hb5.block _ hs14).trans HX4.out)
      have hs15 : b1 < w5.heap.size := Nat.lt_of_lt_of_le hs14 hb5.size
      have HRW5 := Lib.hid (HRW4.out.keep fun b hb' hlt => hb5.block b hlt)
      have HMW5 := Lib.hid (HMW4.out.under hb5)
      clear hb5 HB4 HS4 HR4 HX4 hs14 HRW4 HMW4
      have hst := jright_leaf 4 false S [] [] (by decide) (by decide) hsl (fun h => by cases h) (fun _ => True) [.int .i64 4, .bool false, .string ⟨S.toArray⟩, .slice none 0 0, .slice none 0 0] w5 (Rep.leaf _ _ 4 false S)
      rw [show rightJ (.mk 4 false S [] []) = toldB S by simp [rightJ]] at hst
      have HSR := Lib.hid hst
      clear hst
      go_wp2_with fail
      refine HSR.out.mono ?_
      rintro e w6 ⟨rfl, hb6⟩
      have HB6 := Lib.hid (HB5.out.trans (hb6.mono HB5.out.size))
      have HS6 := Lib.hid (HS5.out.below hb6)
      have HR6 := Lib.hid (HR5.out.under hb6)
      have HX6 := Lib.hid ((hb6.block _ hs15).trans HX5.out)
      have hs16 : b1 < w6.heap.size := Nat.lt_of_lt_of_le hs15 hb6.size
      have HRW6 := Lib.hid (HRW5.out.keep fun b hb' hlt => hb6.block b hlt)
      have HMW6 := Lib.hid (HMW5.out.under hb6)
      clear hb6 HB5 HS5 HR5 HX5 hs15 HRW5 HMW5 HSR
      cases htt : toldB S with
      | false =>
        clear htt
        go_wp2_with fail
        refine bodyPost_ret (results_tmp rfl _ _ _) rfl ?_
        exact ⟨rfl, HB6.out⟩
      | true =>
      have HT := Lib.hid htt
      clear htt
      have HGE := Lib.hid (get_any _ _ (jobj M) S w6 HR6.out (show M.length ≤ 10000000 by omega))
      obtain ⟨TH, hTH⟩ : ∃ b, (getJ S (jobj M)).isSome = b := ⟨_, rfl⟩
      rw [hTH] at HGE
      have HTH := Lib.hid hTH
      obtain ⟨G, hG⟩ : ∃ G, (getJ S (jobj M)).getD .zero = G := ⟨_, rfl⟩
      rw [hG] at HGE
      clear hTH hG
      obtain ⟨x0, x1, x2, x3, x4⟩ := five_at HX6.out (Below.refl w6.heap.size w6) hs16
      go_wp2_with fail
      refine HGE.out.mono ?_
      rintro e w7 ⟨hb7, cs, rfl, hrep⟩
      have HB7 := Lib.hid (HB6.out.trans (hb7.mono HB6.out.size))
      have HS7 := Lib.hid (HS6.out.below hb7)
      have HR7 := Lib.hid (HR6.out.under hb7)
      have HX7 := Lib.hid ((hb7.block _ hs16).trans HX6.out)
      have hs17 : b1 < w7.heap.size := Nat.lt_of_lt_of_le hs16 hb7.size
      have HRW7 := Lib.hid (HRW6.out.keep fun b hb' hlt => hb7.block b hlt)
      have HMW7 := Lib.hid (HMW6.out.under hb7)
      obtain ⟨a2, c2, a2', c2', _, _, rfl, -⟩ := hrep.parts
      unfold strV at *
      obtain ⟨k2, y2, t2, n2, m2, hk, hy, ht, hn1, hn2⟩ : ∃ k y t n1 n2, (G).kind = k ∧ (G).yes = y ∧ (⟨(G).text.toArray⟩ : ByteArray) = t ∧ (G).list.length = n1 ∧ (G).mem.length = n2 := ⟨_, _, _, _, _, rfl, rfl, rfl, rfl, rfl⟩
      rw [hk, hy, ht, hn1, hn2] at hrep ⊢
      have HG7 := Lib.hid hrep
      clear hk hy ht hn1 hn2 hrep
      clear hb7 HB6 HS6 HR6 HX6 hs16 HRW6 HMW6 HGE x0 x1 x2 x3 x4 HG7
      obtain ⟨b2, hb2⟩ : ∃ b, w7.heap.size = b := ⟨_, rfl⟩
      go_upto_region 15 with (fail)
      generalize hww8 : w7.alloc _ = w8
      have hbw8 : Below w7.heap.size w7 w8 := by rw [← hww8]; exact (Below.refl _ _).alloc (Nat.le_refl _) _
      have hxw8 : w8.heap[b2]? = some (.cells #[.int .i64 k2, .bool y2, .string t2, .slice a2 n2 c2, .slice a2' m2 c2'] 26 (0, 0)) := by rw [← hww8, ← hb2]; exact heap_alloc_new _ _
      have hsb2 : b2 < w8.heap.size := (Array.getElem?_eq_some_iff.1 hxw8).1
      have HXb2w8 := Lib.hid hxw8
      clear hww8 hxw8 hb2
      have HB8 := Lib.hid (HB7.out.trans (hbw8.mono HB7.out.size))
      have HS8 := Lib.hid (HS7.out.below hbw8)
      have HR8 := Lib.hid (HR7.out.under hbw8)
      have HX8 := Lib.hid ((hbw8.block _ hs17).trans HX7.out)
      have hs18 : b1 < w8.heap.size := Nat.lt_of_lt_of_le hs17 hbw8.size
      have HRW8 := Lib.hid (HRW7.out.keep fun b hb' hlt => hbw8.block b hlt)
      have HMW8 := Lib.hid (HMW7.out.under hbw8)
      clear hbw8 HB7 HS7 HR7 HX7 hs17 HRW7 HMW7 HXb2w8 hsb2
      have HNU2 : Hid (∀ w', Below w8.heap.size w8 w' → Calls Tryz.prog 14 #[.int .i64 n] w' fun e w'' => e = .returned (.agg #[.int .i64 3, .bool false, .string ⟨I.toArray⟩, .slice none 0 0, .slice none 0 0]) ∧ Below w'.heap.size w' w'') := Lib.hid fun w' hb => by
        have h := jnum_fn n (by omega) (by omega) w' (HS8.out.below hb).1
        rw [HI.out] at h
        exact h
      have hml : M.length ≤ 900000 := by omega
      have HWI : Hid (∀ w', Below w8.heap.size w8 w' → _) := Lib.hid fun w' (hb : Below w8.heap.size w8 w') => jwith_any 6 false [] [] M S (jnum I) (fun _ => True) [.int .i64 6, .bool false, .string ⟨#[]⟩, .slice a1 0 c1, .slice a1' l.length c1'] [.int .i64 3, .bool false, .string ⟨I.toArray⟩, .slice none 0 0, .slice none 0 0] w' ((HR8.out.under hb).mono fun _ _ => trivial) (Rep.leaf _ _ 3 false I) hml
      have HUI : Hid (∀ w', Below w8.heap.size w8 w' → _) := Lib.hid fun w' (hb : Below w8.heap.size w8 w') => jwithout_any 6 false [] [] M S (fun _ => True) [.int .i64 6, .bool false, .string ⟨#[]⟩, .slice a1 0 c1, .slice a1' l.length c1'] w' ((HR8.out.under hb).mono fun _ _ => trivial) hml
      have HWMEM := Lib.hid (fun x => @with_mem S (jnum I) M x)
      have HUMEM := Lib.hid (fun x => @without_mem S M x)
      have HWGET := Lib.hid (withM_get S S (jnum I) M)
      have HUGET := Lib.hid (without_none S S M)
      have HWRT := Lib.hid (withM_right S (jnum I) HT.out (by rw [← HI.out]; simp [jnum, rightJ, numeric_itoa]) M (by rw [← hur.out]))
      have HURT := Lib.hid (without_right S M (by rw [← hur.out]))
      have hwle := with_le S (jnum I) M
      have hule := without_len S M
      have HWLEN := Lib.hid (with_len S (jnum I) M)
      have HWAT := Lib.hid (with_at S (jnum I) M)
      have HUAT := Lib.hid (without_at S M)
      have HUEQ := Lib.hid (show ∀ i (h : i < M.length), withoutM S (M.take (i + 1)) = if M[i].1 = S then withoutM S (M.take i) else withoutM S (M.take i) ++ [M[i]] from fun i h => withoutM_snoc S M i h)
      have HUALL := Lib.hid (show withoutM S (M.take M.length) = withoutM S M by rw [List.take_length])
      obtain ⟨WM, hWM⟩ : ∃ x, withM S (jnum I) M = x := ⟨_, rfl⟩
      obtain ⟨UM, hUM⟩ : ∃ x, withoutM S M = x := ⟨_, rfl⟩
      rw [hWM] at HWI HWMEM HWGET HWRT hwle HWLEN HWAT
      rw [hUM] at HUI HUMEM HUGET HURT hule HUAT HUALL
      obtain ⟨WL, hWL⟩ : ∃ x, WM.length = x := ⟨_, rfl⟩
      obtain ⟨UN, hUN⟩ : ∃ x, UM.length = x := ⟨_, rfl⟩
      clear hWM hUM
      go_upto_region 15 with (fail)
      refine wp_region_grow_two 10 8 9 Apart (by decide) (by decide) (by decide) (by kernel_rfl) (by kernel_rfl) (by decide) (by kernel_rfl) [69, 70, 71, 72, 73, 74, 75, 76, 13, 14] rfl (by decide) (by kernel_rfl) (fun iX => [VIs (.agg #[.int .i64 6, .bool false, .string ⟨#[]⟩, .slice a1 0 c1, .slice a1' l.length c1']), VIs (.string ⟨S.toArray⟩), VIs (.int .i64 n), VIs ((.agg #[.int .i64 3, .bool false, .string ⟨I.toArray⟩, .slice none 0 0, .slice none 0 0])), VOb WM, VIs (.agg #[.int .i64 6, .bool false, .string ⟨#[]⟩, .slice a1 0 c1, .slice a1' l.length c1']), VIs (.string ⟨S.toArray⟩), VOb UM, VNew w8.heap.size zeroV, VNew w8.heap.size zeroV].getD iX fun _ _ => True) (stab_list _ ?_) ?_ ?_ ?_ ?_
      · skip
        intro V hV
        simp only [List.mem_cons, List.mem_nil_iff, or_false] at hV
        rcases hV with rfl | rfl | rfl | rfl | rfl | rfl | rfl | rfl | rfl | rfl <;> first | exact VIs.stab _ | exact VBytes.stab _ | exact VStr.stab _ | exact VParts.stab _ | exact VRow.stab _ | exact VRow8.stab _ _ | exact VRowIs.stab _ _ _ | exact VOb.stab _ | exact VNew.stab _ _
      · intro iX o ho a' w' hf hb hd
        rcases iX with _ | _ | _ | _ | _ | _ | _ | _ | _ | _ | iX
        · cases ho
          refine grow_op rfl rfl rfl ?_
          have f10 : a'.tmps.getD 10 undef = .pointer (some ⟨b1, 0, none⟩) := (hf.same 10 (by decide)).trans rfl
          obtain ⟨x0, x1, x2, x3, x4⟩ := five_at HX8.out hb hs18
          refine grow_value (v := .agg #[.int .i64 6, .bool false, .string ⟨#[]⟩, .slice a1 0 c1, .slice a1' l.length c1']) (w' := w') ?_ rfl (Below.refl _ _)
          simp only [execOp, Act.eval]
          go_simp
        · cases ho
          refine grow_op rfl rfl rfl (grow_move rfl ?_)
          exact (hf.same 1 (by decide)).trans rfl
        · cases ho
          refine grow_op rfl rfl rfl (grow_move rfl ?_)
          exact (hf.same 2 (by decide)).trans rfl
        · cases ho
          refine grow_op rfl rfl rfl ?_
          have e2 : a'.tmps.getD 71 undef = .int .i64 n := hd 2 (by kernel_rfl)
          refine grow_call ent_jnumx rfl ?_
          simp only [List.map_toArray, List.map_cons, List.map_nil, Act.eval, e2]
          exact ((HNU2.out w' hb).mono (fun e w'' ⟨h1, h2⟩ => ⟨_, h1, rfl, h2⟩))
        · cases ho
          refine grow_op rfl rfl rfl ?_
          have e69 : a'.tmps.getD 69 undef = .agg #[.int .i64 6, .bool false, .string ⟨#[]⟩, .slice a1 0 c1, .slice a1' l.length c1'] := hd 0 (by kernel_rfl)
          have e70 : a'.tmps.getD 70 undef = .string ⟨S.toArray⟩ := hd 1 (by kernel_rfl)
          have e72 : a'.tmps.getD 72 undef = .agg #[.int .i64 3, .bool false, .string ⟨I.toArray⟩, .slice none 0 0, .slice none 0 0] := hd 3 (by kernel_rfl)
          refine grow_call ent_jwith rfl ?_
          simp only [List.map_toArray, List.map_cons, List.map_nil, Act.eval, e69, e70, e72]
          refine (HWI.out w' hb).mono ?_
          rintro e w'' ⟨h2, cs, rfl, h3⟩
          exact ⟨_, rfl, ⟨cs, rfl, h3.mono fun _ _ => trivial⟩, h2⟩
        · cases ho
          refine grow_op rfl rfl rfl ?_
          have f10 : a'.tmps.getD 10 undef = .pointer (some ⟨b1, 0, none⟩) := (hf.same 10 (by decide)).trans rfl
          obtain ⟨x0, x1, x2, x3, x4⟩ := five_at HX8.out hb hs18
          refine grow_value (v := .agg #[.int .i64 6, .bool false, .string ⟨#[]⟩, .slice a1 0 c1, .slice a1' l.length c1']) (w' := w') ?_ rfl (Below.refl _ _)
          simp only [execOp, Act.eval]
          go_simp
        · cases ho
          refine grow_op rfl rfl rfl (grow_move rfl ?_)
          exact (hf.same 1 (by decide)).trans rfl
        · cases ho
          refine grow_op rfl rfl rfl ?_
          have e74 : a'.tmps.getD 74 undef = .agg #[.int .i64 6, .bool false, .string ⟨#[]⟩, .slice a1 0 c1, .slice a1' l.length c1'] := hd 5 (by kernel_rfl)
          have e75 : a'.tmps.getD 75 undef = .string ⟨S.toArray⟩ := hd 6 (by kernel_rfl)
          refine grow_call ent_jwithout rfl ?_
          simp only [List.map_toArray, List.map_cons, List.map_nil, Act.eval, e74, e75]
          refine (HUI.out w' hb).mono ?_
          rintro e w'' ⟨h2, cs, rfl, h3⟩
          exact ⟨_, rfl, ⟨cs, rfl, h3.mono fun _ _ => trivial⟩, h2⟩
        · cases ho
          refine grow_op rfl rfl rfl ?_
          refine grow_value (v := .pointer (some ⟨w'.heap.size, 0, none⟩)) (w' := w'.alloc zeroV) ?_ ⟨_, rfl, hb.size, heap_alloc_new _ _⟩ ((Below.refl _ _).alloc (Nat.le_refl _) _)
          simp only [execOp]
          go_simp
          try rfl
        · cases ho
          refine grow_op rfl rfl rfl ?_
          refine grow_value (v := .pointer (some ⟨w'.heap.size, 0, none⟩)) (w' := w'.alloc zeroV) ?_ ⟨_, rfl, hb.size, heap_alloc_new _ _⟩ ((Below.refl _ _).alloc (Nat.le_refl _) _)
          simp only [execOp]
          go_simp
          try rfl
        · simp at ho
      · intro o ho a' w' hf hb
        cases ho
        refine grow_op rfl rfl rfl ?_
        refine grow_value (v := .pointer (some ⟨w'.heap.size, 0, none⟩)) (w' := w'.alloc zeroV) ?_ ⟨⟨_, rfl, hb.size, heap_alloc_new _ _⟩, fun u hu => VNew.apart hu⟩ ((Below.refl _ _).alloc (Nat.le_refl _) _)
        simp only [execOp]
        go_simp
        try rfl
      · intro o ho a' w' hf hb
        cases ho
        refine grow_op rfl rfl rfl ?_
        refine grow_value (v := .pointer (some ⟨w'.heap.size, 0, none⟩)) (w' := w'.alloc zeroV) ?_ ⟨⟨_, rfl, hb.size, heap_alloc_new _ _⟩, fun u hu => VNew.apart' hu⟩ ((Below.refl _ _).alloc (Nat.le_refl _) _)
        simp only [execOp]
        go_simp
        try rfl
      · intro a' w' hf hb hd hD
        obtain ⟨cs73, hv73, hr73⟩ := hd 4 (by decide)
        obtain ⟨aw, cw, aw', cw', cmw, rfl, hrw, hmw, hcw⟩ := rep_obj hr73 hWL
        change _ = Value.agg #[.int .i64 6, .bool false, .string ⟨#[]⟩, .slice aw 0 cw, .slice aw' WL cw'] at hv73
        obtain ⟨cs76, hv76, hr76⟩ := hd 7 (by decide)
        obtain ⟨au, cu, au', cu', cmu, rfl, hru, hmu, hcu⟩ := rep_obj hr76 hUN
        change _ = Value.agg #[.int .i64 6, .bool false, .string ⟨#[]⟩, .slice au 0 cu, .slice au' UN cu'] at hv76
        obtain ⟨b3, hv13, hB3, hx3⟩ := hd 8 (by decide)
        obtain ⟨b4, hv14, hB4, hx4⟩ := hd 9 (by decide)
        have hne : b3 ≠ b4 := hD b3 b4 hv13 hv14
        obtain rfl := hf.eq [Value.agg #[.int IntKind.i64 6, .bool false, .string ⟨#[]⟩, .slice a1 0 c1, .slice a1' l.length c1'], Value.string ⟨S.toArray⟩, Value.int IntKind.i64 n, (.agg #[.int IntKind.i64 3, .bool false, .string ⟨I.toArray⟩, .slice none 0 0, .slice none 0 0]), Value.agg #[.int IntKind.i64 6, .bool false, .string ⟨#[]⟩, .slice aw 0 cw, .slice aw' WL cw'], Value.agg #[.int IntKind.i64 6, .bool false, .string ⟨#[]⟩, .slice a1 0 c1, .slice a1' l.length c1'], Value.string ⟨S.toArray⟩, Value.agg #[.int IntKind.i64 6, .bool false, .string ⟨#[]⟩, .slice au 0 cu, .slice au' UN cu'], Value.pointer (some ⟨b3, 0, none⟩), Value.pointer (some ⟨b4, 0, none⟩)] (fun j hj => match j, hj with
          | 0, _ => hd 0 (by decide)
          | 1, _ => hd 1 (by decide)
          | 2, _ => hd 2 (by decide)
          | 3, _ => hd 3 (by decide)
          | 4, _ => hv73
          | 5, _ => hd 5 (by decide)
          | 6, _ => hd 6 (by decide)
          | 7, _ => hv76
          | 8, _ => hv13
          | 9, _ => hv14
          | k + 10, h => absurd h (by simp)) (by decide) (by kernel_rfl) rfl
        simp only [List.zip_cons_cons, List.zip_nil_right, List.foldl_cons, List.foldl_nil, Act.put, List.setIfInBounds_toArray, List.set_cons_succ, List.set_cons_zero]
        obtain ⟨w9, rfl⟩ : ∃ x : World, x = w' := ⟨_, rfl⟩
        have HB9 := Lib.hid hb
        have hbW : w.heap.size ≤ w8.heap.size := HB8.out.size
        have hlw : ∀ x ∈ WM, x.2.list = [] ∧ x.2.mem = [] := fun x hx => by
          rcases HWMEM.out x hx with rfl | h
          · exact ⟨rfl, rfl⟩
          · exact HLF.out x h
        have hlu : ∀ x ∈ UM, x.2.list = [] ∧ x.2.mem = [] := fun x hx => HLF.out x (HUMEM.out x hx)
        have hkw := rep_leafs (ok' := fun b => b ≠ b3 ∧ b ≠ b4) (a := aw) (c := cw) hWL hlw hrw hmw hcw (fun h b off e => ⟨row_no_zero hrw hmw h hx3 b off e, row_no_zero hrw hmw h hx4 b off e⟩)
        have hku := rep_leafs (ok' := fun b => b ≠ b3 ∧ b ≠ b4) (a := au) (c := cu) hUN hlu hru hmu hcu (fun h b off e => ⟨row_no_zero hru hmu h hx3 b off e, row_no_zero hru hmu h hx4 b off e⟩)
        have HKW := Lib.hid hkw
        have HKU := Lib.hid hku
        have Z3 : Hid (w9.heap[b3]? = some (.cells #[.int .i64 0, .bool false, .string ⟨#[]⟩, .slice none 0 0, .slice none 0 0] 26 (0, 0))) := Lib.hid hx3
        have Z4 : Hid (w9.heap[b4]? = some (.cells #[.int .i64 0, .bool false, .string ⟨#[]⟩, .slice none 0 0, .slice none 0 0] 26 (0, 0))) := Lib.hid hx4
        have hl3 : b3 < w9.heap.size := (Array.getElem?_eq_some_iff.1 hx3).1
        have hl4 : b4 < w9.heap.size := (Array.getElem?_eq_some_iff.1 hx4).1
        clear hd hf hb hv73 hv76 hv13 hv14 hr73 hr76 hrw hmw hru hmu hkw hku hx3 hx4 hD hlw hlu HR8 HNU2 HWI HUI
        obtain ⟨x0, x1, x2, x3, x4⟩ := five_at Z3.out (Below.refl w9.heap.size w9) hl3
        have f0 := Lib.frozen_of_heap Z3.out 0
        have f1 := Lib.frozen_of_heap Z3.out 1
        have f2 := Lib.frozen_of_heap Z3.out 2
        have f3 := Lib.frozen_of_heap Z3.out 3
        have f4 := Lib.frozen_of_heap Z3.out 4
        have hzA : (((((w9.setCell ⟨b3, 0, none⟩ (.int .i64 6)).setCell ⟨b3, 1, none⟩ (.bool false)).setCell ⟨b3, 2, none⟩ (.string ⟨#[]⟩)).setCell ⟨b3, 3, none⟩ (.slice aw 0 cw)).setCell ⟨b3, 4, none⟩ (.slice aw' WL cw')).heap[b4]? = some (.cells #[.int .i64 0, .bool false, .string ⟨#[]⟩, .slice none 0 0, .slice none 0 0] 26 (0, 0)) := by
          rw [Below.heap_setCell _ _ _ _ hne.symm, Below.heap_setCell _ _ _ _ hne.symm, Below.heap_setCell _ _ _ _ hne.symm, Below.heap_setCell _ _ _ _ hne.symm, Below.heap_setCell _ _ _ _ hne.symm]
          exact Z4.out
        obtain ⟨y0, y1, y2', y3, y4⟩ := five_at hzA (Below.refl _ _) (Array.getElem?_eq_some_iff.1 hzA).1
        have g0 := Lib.frozen_of_heap hzA 0
        have g1 := Lib.frozen_of_heap hzA 1
        have g2 := Lib.frozen_of_heap hzA 2
        have g3 := Lib.frozen_of_heap hzA 3
        have g4 := Lib.frozen_of_heap hzA 4
        have HZA := Lib.hid hzA
        clear hzA
        go_upto_region 16 with (fail)
        have hxA := value_stored Z3.out (.int .i64 6) (.bool false) (.string ⟨#[]⟩) (.slice aw 0 cw) (.slice aw' WL cw')
        have hbA := zero_stored HB9.out hB3 (.int .i64 6) (.bool false) (.string ⟨#[]⟩) (.slice aw 0 cw) (.slice aw' WL cw')
        have hoA := five_else w9 b3 (.int .i64 6) (.bool false) (.string ⟨#[]⟩) (.slice aw 0 cw) (.slice aw' WL cw')
        clear x0 x1 x2 x3 x4 f0 f1 f2 f3 f4 y0 y1 y2' y3 y4 g0 g1 g2 g3 g4
        generalize (((((w9.setCell ⟨b3, 0, none⟩ (.int .i64 6)).setCell ⟨b3, 1, none⟩ (.bool false)).setCell ⟨b3, 2, none⟩ (.string ⟨#[]⟩)).setCell ⟨b3, 3, none⟩ (.slice aw 0 cw)).setCell ⟨b3, 4, none⟩ (.slice aw' WL cw')) = wA at *
        have hxB := value_stored HZA.out (.int .i64 6) (.bool false) (.string ⟨#[]⟩) (.slice au 0 cu) (.slice au' UN cu')
        have hbB := zero_stored hbA hB4 (.int .i64 6) (.bool false) (.string ⟨#[]⟩) (.slice au 0 cu) (.slice au' UN cu')
        have hoB := five_else wA b4 (.int .i64 6) (.bool false) (.string ⟨#[]⟩) (.slice au 0 cu) (.slice au' UN cu')
        generalize (((((wA.setCell ⟨b4, 0, none⟩ (.int .i64 6)).setCell ⟨b4, 1, none⟩ (.bool false)).setCell ⟨b4, 2, none⟩ (.string ⟨#[]⟩)).setCell ⟨b4, 3, none⟩ (.slice au 0 cu)).setCell ⟨b4, 4, none⟩ (.slice au' UN cu')) = wB at *
        have HX3 : Hid (wB.heap[b3]? = some (.cells #[.int .i64 6, .bool false, .string ⟨#[]⟩, .slice aw 0 cw, .slice aw' WL cw'] 26 (0, 0))) := Lib.hid ((hoB b3 hne).trans hxA)
        have HX4 : Hid (wB.heap[b4]? = some (.cells #[.int .i64 6, .bool false, .string ⟨#[]⟩, .slice au 0 cu, .slice au' UN cu'] 26 (0, 0))) := Lib.hid hxB
        have HXB := Lib.hid ((hbB.block _ hs18).trans HX8.out)
        have HBB := Lib.hid (HB8.out.trans (hbB.mono HB8.out.size))
        have HSB := Lib.hid (HS8.out.below hbB)
        have HRWB := Lib.hid (HRW8.out.keep fun b hb' hlt => hbB.block b hlt)
        have HMWB := Lib.hid (HMW8.out.under hbB)
        have hok : ∀ b, (b ≠ b3 ∧ b ≠ b4) → wB.heap[b]? = w9.heap[b]? := fun b h => (hoB b h.2).trans (hoA b h.1)
        have HRWW := Lib.hid (HKW.out.1.keep fun b h _ => hok b h)
        have HMWW := Lib.hid (HKW.out.2.keep fun b h _ => hok b h)
        have HRWU := Lib.hid (HKU.out.1.keep fun b h _ => hok b h)
        have HMWU := Lib.hid (HKU.out.2.keep fun b h _ => hok b h)
        have hl3B : b3 < wB.heap.size := (Array.getElem?_eq_some_iff.1 HX3.out).1
        have hl4B : b4 < wB.heap.size := (Array.getElem?_eq_some_iff.1 HX4.out).1
        have hl1B : b1 < wB.heap.size := (Array.getElem?_eq_some_iff.1 HXB.out).1
        clear hxA hbA hoA hxB hbB hoB hok HKW HKU Z3 Z4 HZA HB9 HX8 HB8 HS8 HRW8 HMW8 hs18 hbW hl3 hl4
        have hrw := rep_of (k := 6) (y := false) (t := []) (l := []) (m := WM) (a := aw) (c := cw) (cl := []) (.inl rfl) (Reps.nil _ wB) HRWW.out HMWW.out (Nat.zero_le _) (by rw [hWL]; exact hcw)
        have hru := rep_of (k := 6) (y := false) (t := []) (l := []) (m := UM) (a := au) (c := cu) (cl := []) (.inl rfl) (Reps.nil _ wB) HRWU.out HMWU.out (Nat.zero_le _) (by rw [hUN]; exact hcu)
        rw [hWL] at hrw
        rw [hUN] at hru
        unfold strV at hrw hru
        have HREW : Hid (Rep (fun b => b ≠ b3 ∧ b ≠ b4) wB [.int .i64 6, .bool false, .string ⟨#[]⟩, .slice aw 0 cw, .slice aw' WL cw'] (jobj WM)) := Lib.hid hrw
        have HREU : Hid (Rep (fun b => b ≠ b3 ∧ b ≠ b4) wB [.int .i64 6, .bool false, .string ⟨#[]⟩, .slice au 0 cu, .slice au' UN cu'] (jobj UM)) := Lib.hid hru
        clear hrw hru
        have HGE := Lib.hid (get_any _ _ (jobj WM) S wB HREW.out (show WM.length ≤ 10000000 by omega))
        rw [show getJ S (jobj WM) = some (jnum I) by show getM S WM = _; rw [HWGET.out]; simp] at HGE
        simp only [Option.isSome_some, Option.getD_some] at HGE
        obtain ⟨x0, x1, x2, x3, x4⟩ := five_at HX3.out (Below.refl wB.heap.size wB) hl3B
        go_wp2_with fail
        refine HGE.out.mono ?_
        rintro e wC ⟨hbC, cs, rfl, hrep⟩
        have HBC := Lib.hid hbC
        obtain ⟨NI, hNI⟩ : ∃ v, jnum I = v := ⟨_, rfl⟩
        rw [hNI] at hrep
        have HNI := Lib.hid hNI
        clear hNI
        obtain ⟨a3, c3, a3', c3', _, _, rfl, -⟩ := hrep.parts
        unfold strV at *
        obtain ⟨k3, y3, t3, n3, m3, hk, hy, ht, hn1, hn2⟩ : ∃ k y t n1 n2, (NI).kind = k ∧ (NI).yes = y ∧ (⟨(NI).text.toArray⟩ : ByteArray) = t ∧ (NI).list.length = n1 ∧ (NI).mem.length = n2 := ⟨_, _, _, _, _, rfl, rfl, rfl, rfl, rfl⟩
        rw [hk, hy, ht, hn1, hn2] at hrep ⊢
        have HG3 := Lib.hid hrep
        clear hk hy ht hn1 hn2 hrep
        clear hbC HGE x0 x1 x2 x3 x4
        obtain ⟨b5, hb5⟩ : ∃ b, wC.heap.size = b := ⟨_, rfl⟩
        go_upto_region 17 with (fail)
        generalize hwwD : wC.alloc _ = wD
        have hbwD : Below wC.heap.size wC wD := by rw [← hwwD]; exact (Below.refl _ _).alloc (Nat.le_refl _) _
        have hxwD : wD.heap[b5]? = some (.cells #[.int .i64 k3, .bool y3, .string t3, .slice a3 n3 c3, .slice a3' m3 c3'] 26 (0, 0)) := by rw [← hwwD, ← hb5]; exact heap_alloc_new _ _
        have hsb5 : b5 < wD.heap.size := (Array.getElem?_eq_some_iff.1 hxwD).1
        have HXb5wD := Lib.hid hxwD
        clear hwwD hxwD hb5
        have HBD := Lib.hid (HBC.out.trans (hbwD.mono HBC.out.size))
        have HG4 := Lib.hid (HG3.out.under hbwD)
        clear hbwD HBC HG3
        have HJI := Lib.hid (jint_any (jnum I) _ [.int .i64 k3, .bool y3, .string t3, .slice a3 n3 c3, .slice a3' m3 c3'] wD (by rw [HNI.out]; exact HG4.out) (HSB.out.below HBD.out) (show I.length ≤ 1000000 by omega))
        rw [show intV (jnum I) = (n, true) by show intJ I = _; rw [HNIN.out, if_pos ⟨by omega, by omega⟩]] at HJI
        obtain ⟨x0, x1, x2, x3, x4⟩ := five_at HXb5wD.out (Below.refl wD.heap.size wD) hsb5
        go_wp2_with fail
        refine HJI.out.mono ?_
        rintro e wE ⟨rfl, hbE⟩
        have HBE := Lib.hid (HBD.out.trans (hbE.mono HBD.out.size))
        clear hbE HJI HBD HG4 HXb5wD hsb5 x0 x1 x2 x3 x4
        have HGE := Lib.hid (get_any _ _ (jobj UM) S wE (HREU.out.under HBE.out) (show UM.length ≤ 10000000 by omega))
        rw [show getJ S (jobj UM) = none by show getM S UM = _; rw [HUGET.out]; simp] at HGE
        simp only [Option.isSome_none, Option.getD_none] at HGE
        obtain ⟨x0, x1, x2, x3, x4⟩ := five_at HX4.out HBE.out hl4B
        go_wp2_with fail
        refine HGE.out.mono ?_
        rintro e wF ⟨hbF, cs, rfl, hrep⟩
        have HBF := Lib.hid (HBE.out.trans (hbF.mono HBE.out.size))
        obtain ⟨a4, c4, a4', c4', _, _, rfl, -⟩ := hrep.parts
        unfold strV at *
        obtain ⟨k4, y4, t4, n4, m4, hk, hy, ht, hn1, hn2⟩ : ∃ k y t n1 n2, (JV.zero).kind = k ∧ (JV.zero).yes = y ∧ (⟨(JV.zero).text.toArray⟩ : ByteArray) = t ∧ (JV.zero).list.length = n1 ∧ (JV.zero).mem.length = n2 := ⟨_, _, _, _, _, rfl, rfl, rfl, rfl, rfl⟩
        rw [hk, hy, ht, hn1, hn2] at hrep ⊢
        have HG5 := Lib.hid hrep
        clear hk hy ht hn1 hn2 hrep
        clear hbF HGE x0 x1 x2 x3 x4 HBE HG5
        obtain ⟨b6, hb6⟩ : ∃ b, wF.heap.size = b := ⟨_, rfl⟩
        go_upto_region 19 with (fail)
        generalize hwwG : wF.alloc _ = wG
        have hbwG : Below wF.heap.size wF wG := by rw [← hwwG]; exact (Below.refl _ _).alloc (Nat.le_refl _) _
        have hxwG : wG.heap[b6]? = some (.cells #[.int .i64 k4, .bool y4, .string t4, .slice a4 n4 c4, .slice a4' m4 c4'] 26 (0, 0)) := by rw [← hwwG, ← hb6]; exact heap_alloc_new _ _
        have hsb6 : b6 < wG.heap.size := (Array.getElem?_eq_some_iff.1 hxwG).1
        have HXb6wG := Lib.hid hxwG
        clear hwwG hxwG hb6
        have HBG := Lib.hid (HBF.out.trans (hbwG.mono HBF.out.size))
        clear hbwG HBF HXb6wG hsb6
        have hrw : RightC (jobj WM) := jright_obj false [] [] WM (fun x hx => by
          rcases HWMEM.out x hx with rfl | h
          · exact HNRC.out
          · exact HRC.out x h) (fun x hx => by
          rcases HWMEM.out x hx with rfl | h
          · exact hsl
          · exact HNB.out x h) (by omega)
        have hru : RightC (jobj UM) := jright_obj false [] [] UM (fun x hx => HRC.out x (HUMEM.out x hx)) (fun x hx => HNB.out x (HUMEM.out x hx)) (by omega)
        have HRIW := Lib.hid (hrw _ _ wG (HREW.out.under HBG.out))
        rw [show rightJ (jobj WM) = true by simp [jobj, rightJ, HWRT.out]] at HRIW
        have HRIU := Lib.hid (fun w' hb => hru _ _ w' (HREU.out.under hb))
        rw [show rightJ (jobj UM) = true by simp [jobj, rightJ, HURT.out]] at HRIU
        clear hrw hru HREW
        obtain ⟨x0, x1, x2, x3, x4⟩ := five_at HX3.out HBG.out hl3B
        go_wp2_with fail
        refine HRIW.out.mono ?_
        rintro e wH ⟨rfl, hbH⟩
        have HBH := Lib.hid (HBG.out.trans (hbH.mono HBG.out.size))
        clear hbH HRIW HBG x0 x1 x2 x3 x4
        obtain ⟨x0, x1, x2, x3, x4⟩ := five_at HX4.out HBH.out hl4B
        go_wp2_with fail
        refine (HRIU.out wH HBH.out).mono ?_
        rintro e wI ⟨rfl, hbI⟩
        have HBI := Lib.hid (HBH.out.trans (hbI.mono HBH.out.size))
        clear hbI HRIU HREU HBH x0 x1 x2 x3 x4
        obtain ⟨x0, x1, x2, x3, x4⟩ := five_at HXB.out HBI.out hl1B
        go_wp2_with fail
        clear x0 x1 x2 x3 x4
        have hMl : M.length = l.length := hnl
        go_loopg [21, 125] l.length (fun k x21 x125 wr => ∃ (i at_ : Nat), x21 = .int .i64 (at_ : Int) ∧ x125 = .int .i64 (i : Int) ∧ i + k = l.length ∧ at_ ≤ i ∧ Hid (at_ = (withoutM S (M.take i)).length) ∧ Hid (Below wB.heap.size wB wr))
        case atStart => exact ⟨0, 0, rfl, rfl, by omega, by omega, Lib.hid rfl, HBI⟩
        case round =>
          obtain ⟨i, at_, rfl, rfl, hik, hai, HAT, HBR⟩ := hrel
          by_cases hlt : i < l.length
          · have hltI : (i : Int) < (l.length : Int) := by omega
            have hiM : i < M.length := by omega
            have hiW : i < WM.length := by omega
            obtain ⟨gv, ov, k7, y7, t7, a7, n7, c7, a7', m7, c7', ev, hrv, v0, v1, v2, v3, v4, v5⟩ := mem_cells' HRWB.out HMWB.out i hiM
            obtain ⟨gw, ow, k8, y8, t8, a8, n8, c8, a8', m8, c8', ew, hrw, w0, w1', w2', w3', w4', w5'⟩ := mem_cells' HRWW.out HMWW.out i hiW
            subst ev ew
            have hwat := HWAT.out i hiM hiW
            obtain ⟨nm, hnm⟩ : ∃ x, (M[i]'hiM).1 = x := ⟨_, rfl⟩
            rw [hwat.1, hnm] at w0
            rw [hnm] at v0
            obtain ⟨vv, hvv⟩ : ∃ x, (M[i]'hiM).2 = x := ⟨_, rfl⟩
            have HWSAME : Hid (nm ≠ S → (WM[i]'hiW).2 = vv) := Lib.hid fun h => by rw [hwat.2 (by rw [hnm]; exact h)]; exact hvv
            have HVSZ := Lib.hid (HSZ.out _ (List.getElem_mem hiM))
            have HVRT := Lib.hid (HRT.out _ (List.getElem_mem hiM))
            rw [hvv] at hrv HVSZ HVRT
            have HUEQI := Lib.hid (HUEQ.out i hiM)
            rw [hnm] at HUEQI
            have HUATI := Lib.hid (fun h => HUAT.out i hiM (by rw [hnm]; exact h))
            have HRV := Lib.hid hrv
            have HRX := Lib.hid hrw
            have HMI := Lib.hid (show M[i] = (nm, vv) by rw [← hnm, ← hvv])
            have dv : ∀ o u, wB.cell? ⟨gv, o, none⟩ = some u → wr.cell? ⟨gv, o, none⟩ = some u := fun o u h => (HBR.out.cell (World.block_lt_of_cell? _ _ h)).trans h
            have d0 := dv _ _ v0
            have d1 := dv _ _ v1
            have d2 := dv _ _ v2
            have d3 := dv _ _ v3
            have d4 := dv _ _ v4
            have d5 := dv _ _ v5
            have HW0 := Lib.hid w0
            have HWC := Lib.hid (And.intro w1' (And.intro w2' (And.intro w3' (And.intro w4' w5'))))
            clear hwat hnm hvv hrv hrw v0 v1 v2 v3 v4 v5 w0 w1' w2' w3' w4' w5' dv
            obtain ⟨b7, hb7⟩ : ∃ b, wr.heap.size = b := ⟨_, rfl⟩
            go_upto_region 25 with (fail)
            generalize hwP : wr.alloc _ = wP
            have hbP : Below wr.heap.size wr wP := by rw [← hwP]; exact (Below.refl _ _).alloc (Nat.le_refl _) _
            have hxP : wP.heap[b7]? = some (.cells #[.string ⟨nm.toArray⟩, .int .i64 k7, .bool y7, .string ⟨t7⟩, .slice a7 n7 c7, .slice a7' m7 c7'] 35 (0, 0)) := by rw [← hwP, ← hb7]; exact heap_alloc_new _ _
            have hs7 : b7 < wP.heap.size := (Array.getElem?_eq_some_iff.1 hxP).1
            have HBP := Lib.hid (HBR.out.trans (hbP.mono HBR.out.size))
            have HXP := Lib.hid hxP
            clear hwP hbP hxP hb7 d0 d1 d2 d3 d4 d5
            have e0 : wP.cell? ⟨gw, ow + i * 6, none⟩ = some (.string ⟨nm.toArray⟩) := (HBP.out.cell (World.block_lt_of_cell? _ _ HW0.out)).trans HW0.out
            have e1 : wP.cell? ⟨b7, 0, none⟩ = some (.string ⟨nm.toArray⟩) := by rw [Lib.cell_of_heap HXP.out]; rfl
            obtain ⟨x0, x1, x2, x3, x4⟩ := five_at HX3.out HBP.out hl3B
            have hge : ¬ (WL : Int) ≤ (i : Int) := by omega
            have hiWL : (i : Int) < (WL : Int) := by omega
            have hnn : (nm != nm) = false := by simp
            go_quiet (fail)
            have HBQ := Lib.hid (below_drewN HBP.out nq)
            have HXQ : Hid ((wP.drewN nq).heap[b7]? = some (.cells #[.string ⟨nm.toArray⟩, .int .i64 k7, .bool y7, .string ⟨t7⟩, .slice a7 n7 c7, .slice a7' m7 c7'] 35 (0, 0))) := Lib.hid HXP.out
            have hs7Q : b7 < (wP.drewN nq).heap.size := hs7
            clear e0 e1 x0 x1 x2 x3 x4 hnn
            generalize wP.drewN nq = wQ at *
            clear HBP HXP hs7
            obtain ⟨m0, m1', m2', m3, m4, m5⟩ := six_at HXQ.out (Below.refl wQ.heap.size wQ) hs7Q
            by_cases he : nm = S
            · have hbe : (nm == S) = true := by simp [he]
              have HAT2 : Hid (at_ = (withoutM S (M.take (i + 1))).length) := Lib.hid (by rw [HUEQI.out, if_pos he]; exact HAT.out)
              clear HUEQI he HUATI HWSAME
              go_wp2_with fail
              go_roundg (gk - 1)
              case measure => omega
              case rel => exact ⟨i + 1, at_, rfl, by first | rfl | (congr 1), by omega, by omega, HAT2, HBQ⟩
            · have hbe : (nm == S) = false := by simp [he]
              have HAT2 : Hid (at_ + 1 = (withoutM S (M.take (i + 1))).length) := Lib.hid (by rw [HUEQI.out, if_neg he, List.length_append, ← HAT.out]; rfl)
              have hua := HUATI.out he
              rw [← HAT.out] at hua
              obtain ⟨hau, huM⟩ := List.getElem?_eq_some_iff.1 hua
              have hws := HWSAME.out he
              obtain ⟨gu, ou, k9, y9, t9, a9, n9, c9, a9', m9, c9', eu, hru9, u0, u1, u2, u3, u4, u5⟩ := mem_cells' HRWU.out HMWU.out at_ hau
              subst eu
              rw [huM, HMI.out] at hru9 u0
              have hrx := HRX.out
              rw [hws] at hrx
              have HRX2 := Lib.hid hrx
              have HRU2 := Lib.hid hru9
              have HU0 := Lib.hid u0
              have HUC := Lib.hid (And.intro u1 (And.intro u2 (And.intro u3 (And.intro u4 u5))))
              have HSAM := Lib.hid (fun ok ok' cs cs' w' h h' => jsame_any vv vv ok ok' cs cs' w' h h' (by have := HVSZ.out; omega) (by have := HVSZ.out; omega))
              rw [show sameJ vv vv = true by unfold sameJ; simp [HVRT.out]] at HSAM
              have hauN : at_ < UN := by omega
              have hge2 : ¬ (UN : Int) ≤ (at_ : Int) := by omega
              have hltU : (at_ : Int) < (UN : Int) := by omega
              have hnn : (nm != nm) = false := by simp
              clear HUEQI HUATI HWSAME hua huM hws u0 u1 u2 u3 u4 u5 hru9 hrx he HRX
              go_upto_region 28 with (fail)
              clear m0 m1' m2' m3 m4 m5
              refine wp_region_grow (by kernel_rfl) (by kernel_rfl) [150, 151, 152, 153, 154, 155, 156, 157, 158, 159, 160, 161, 162, 163, 164, 165, 166, 167, 168, 169, 170, 171, 172, 173, 174, 175, 176, 177, 178, 179, 180, 181, 182, 183, 184, 185, 186, 187, 188, 189] rfl (by decide) (by kernel_rfl) (fun iX => [VIs (.int .i64 (at_ : Int)), VIs (.pointer (some ⟨b4, 4, none⟩)), VIs (.slice (some ⟨gu, ou, none⟩) UN cu'), VIs (.int .i64 (UN : Int)), VIs (.bool false), VIs (.bool false), VIs (.pointer (some ⟨b4, 4, none⟩)), VIs (.slice (some ⟨gu, ou, none⟩) UN cu'), VIs (.int .i64 (at_ : Int)), VIs (.pointer (some ⟨gu, ou + at_ * 6, none⟩)), VIs (.pointer (some ⟨gu, ou + at_ * 6, none⟩)), VIs (.string ⟨nm.toArray⟩), VIs (.pointer (some ⟨b7, 0, none⟩)), VIs (.string ⟨nm.toArray⟩), VIs (.bool false), VIs (.bool false), VIs (.bool false), VIs (.pointer (some ⟨b3, 4, none⟩)), VIs (.slice (some ⟨gw, ow, none⟩) WL cw'), VIs (.int .i64 (i : Int)), VIs (.pointer (some ⟨gw, ow + i * 6, none⟩)), VIs (.pointer (some ⟨gw, ow + i * 6 + 1, none⟩)), VIs (.agg #[.int .i64 k8, .bool y8, .string ⟨t8⟩, .slice a8 n8 c8, .slice a8' m8 c8']), VIs (.pointer (some ⟨b7, 1, none⟩)), VIs (.agg #[.int .i64 k7, .bool y7, .string ⟨t7⟩, .slice a7 n7 c7, .slice a7' m7 c7']), VIs ((.bool true)), VIs (.bool false), VIs (.bool false), VIs (.bool false), VIs (.pointer (some ⟨b4, 4, none⟩)), VIs (.slice (some ⟨gu, ou, none⟩) UN cu'), VIs (.int .i64 (at_ : Int)), VIs (.pointer (some ⟨gu, ou + at_ * 6, none⟩)), VIs (.pointer (some ⟨gu, ou + at_ * 6 + 1, none⟩)), VIs (.agg #[.int .i64 k9, .bool y9, .string ⟨t9⟩, .slice a9 n9 c9, .slice a9' m9 c9']), VIs (.pointer (some ⟨b7, 1, none⟩)), VIs (.agg #[.int .i64 k7, .bool y7, .string ⟨t7⟩, .slice a7 n7 c7, .slice a7' m7 c7']), VIs ((.bool true)), VIs (.bool false), VIs (.bool false)].getD iX fun _ _ => True) (stab_list _ ?_) ?_ ?_
              · skip
                intro V hV
                simp only [List.mem_cons, List.mem_nil_iff, or_false] at hV
                rcases hV with rfl | rfl | rfl | rfl | rfl | rfl | rfl | rfl | rfl | rfl | rfl | rfl | rfl | rfl | rfl | rfl | rfl | rfl | rfl | rfl | rfl | rfl | rfl | rfl | rfl | rfl | rfl | rfl | rfl | rfl | rfl | rfl | rfl | rfl | rfl | rfl | rfl | rfl | rfl | rfl <;> first | exact VIs.stab _ | exact VBytes.stab _ | exact VStr.stab _ | exact VParts.stab _ | exact VRow.stab _ | exact VRow8.stab _ _ | exact VRowIs.stab _ _ _
              · intro iX o ho a' w' hf hb hd
                rcases iX with _ | _ | _ | _ | _ | _ | _ | _ | _ | _ | _ | _ | _ | _ | _ | _ | _ | _ | _ | _ | _ | _ | _ | _ | _ | _ | _ | _ | _ | _ | _ | _ | _ | _ | _ | _ | _ | _ | _ | _ | iX
                · cases ho
                  refine grow_op rfl rfl rfl (grow_move rfl ?_)
                  exact (hf.same 21 (by decide)).trans rfl
                · cases ho
                  refine grow_op rfl rfl rfl ?_
                  have f14 : a'.tmps.getD 14 undef = .pointer (some ⟨b4, 0, none⟩) := (hf.same 14 (by decide)).trans rfl
                  refine grow_value (v := .pointer (some ⟨b4, 4, none⟩)) (w' := w') ?_ rfl (Below.refl _ _)
                  simp only [execOp, Act.eval]
                  go_simp
                · cases ho
                  refine grow_op rfl rfl rfl ?_
                  have e1 : a'.tmps.getD 151 undef = .pointer (some ⟨b4, 4, none⟩) := hd 1 (by kernel_rfl)
                  obtain ⟨x0, x1, x2, x3, x4⟩ := five_at HX4.out (HBQ.out.trans (hb.mono HBQ.out.size)) hl4B
                  refine grow_value (v := .slice (some ⟨gu, ou, none⟩) UN cu') (w' := w') ?_ rfl (Below.refl _ _)
                  simp only [execOp, Act.eval, e1]
                  go_simp
                · cases ho
                  refine grow_op rfl rfl rfl ?_
                  have e2 : a'.tmps.getD 152 undef = .slice (some ⟨gu, ou, none⟩) UN cu' := hd 2 (by kernel_rfl)
                  refine grow_value (v := .int .i64 (UN : Int)) (w' := w') ?_ rfl (Below.refl _ _)
                  simp only [execOp]
                  go_simp
                · cases ho
                  refine grow_op rfl rfl rfl ?_
                  have e0 : a'.tmps.getD 150 undef = .int .i64 (at_ : Int) := hd 0 (by kernel_rfl)
                  have e3 : a'.tmps.getD 153 undef = .int .i64 (UN : Int) := hd 3 (by kernel_rfl)
                  refine grow_value (v := .bool false) (w' := w') ?_ rfl (Below.refl _ _)
                  simp only [execOp, Act.eval, e0, e3]
                  go_simp
                · cases ho
                  refine grow_op rfl rfl rfl (grow_move rfl ?_)
                  exact hd 4 (by kernel_rfl)
                · cases ho
                  have hg : a'.tmps.getD 155 undef = .bool false := hd 5 (by kernel_rfl)
                  refine grow_op rfl (grow_wanted rfl rfl hg) rfl ?_
                  have f14 : a'.tmps.getD 14 undef = .pointer (some ⟨b4, 0, none⟩) := (hf.same 14 (by decide)).trans rfl
                  refine grow_value (v := .pointer (some ⟨b4, 4, none⟩)) (w' := w') ?_ rfl (Below.refl _ _)
                  simp only [execOp, Act.eval]
                  go_simp
                · cases ho
                  have hg : a'.tmps.getD 155 undef = .bool false := hd 5 (by kernel_rfl)
                  refine grow_op rfl (grow_wanted rfl rfl hg) rfl ?_
                  have e6 : a'.tmps.getD 156 undef = .pointer (some ⟨b4, 4, none⟩) := hd 6 (by kernel_rfl)
                  obtain ⟨x0, x1, x2, x3, x4⟩ := five_at HX4.out (HBQ.out.trans (hb.mono HBQ.out.size)) hl4B
                  refine grow_value (v := .slice (some ⟨gu, ou, none⟩) UN cu') (w' := w') ?_ rfl (Below.refl _ _)
                  simp only [execOp, Act.eval, e6]
                  go_simp
                · cases ho
                  have hg : a'.tmps.getD 155 undef = .bool false := hd 5 (by kernel_rfl)
                  refine grow_op rfl (grow_wanted rfl rfl hg) rfl (grow_move rfl ?_)
                  exact (hf.same 21 (by decide)).trans rfl
                · cases ho
                  have hg : a'.tmps.getD 155 undef = .bool false := hd 5 (by kernel_rfl)
                  refine grow_op rfl (grow_wanted rfl rfl hg) rfl ?_
                  have e7 : a'.tmps.getD 157 undef = .slice (some ⟨gu, ou, none⟩) UN cu' := hd 7 (by kernel_rfl)
                  have e8 : a'.tmps.getD 158 undef = .int .i64 (at_ : Int) := hd 8 (by kernel_rfl)
                  refine grow_value (v := .pointer (some ⟨gu, ou + at_ * 6, none⟩)) (w' := w') ?_ rfl (Below.refl _ _)
                  simp only [execOp, Act.eval, e7, e8]
                  go_simp
                · cases ho
                  have hg : a'.tmps.getD 155 undef = .bool false := hd 5 (by kernel_rfl)
                  refine grow_op rfl (grow_wanted rfl rfl hg) rfl ?_
                  have e9 : a'.tmps.getD 159 undef = .pointer (some ⟨gu, ou + at_ * 6, none⟩) := hd 9 (by kernel_rfl)
                  refine grow_value (v := .pointer (some ⟨gu, ou + at_ * 6, none⟩)) (w' := w') ?_ rfl (Below.refl _ _)
                  simp only [execOp, Act.eval, e9]
                  go_simp
                · cases ho
                  have hg : a'.tmps.getD 155 undef = .bool false := hd 5 (by kernel_rfl)
                  refine grow_op rfl (grow_wanted rfl rfl hg) rfl ?_
                  have e10 : a'.tmps.getD 160 undef = .pointer (some ⟨gu, ou + at_ * 6, none⟩) := hd 10 (by kernel_rfl)
                  have c0 := ((HBQ.out.trans (hb.mono HBQ.out.size)).cell (World.block_lt_of_cell? _ _ HU0.out)).trans HU0.out
                  refine grow_value (v := .string ⟨nm.toArray⟩) (w' := w') ?_ rfl (Below.refl _ _)
                  simp only [execOp, Act.eval, e10]
                  go_simp
                · cases ho
                  have hg : a'.tmps.getD 155 undef = .bool false := hd 5 (by kernel_rfl)
                  refine grow_op rfl (grow_wanted rfl rfl hg) rfl ?_
                  have f23 : a'.tmps.getD 23 undef = .pointer (some ⟨b7, 0, none⟩) := (hf.same 23 (by decide)).trans rfl
                  refine grow_value (v := .pointer (some ⟨b7, 0, none⟩)) (w' := w') ?_ rfl (Below.refl _ _)
                  simp only [execOp, Act.eval]
                  go_simp
                · cases ho
                  have hg : a'.tmps.getD 155 undef = .bool false := hd 5 (by kernel_rfl)
                  refine grow_op rfl (grow_wanted rfl rfl hg) rfl ?_
                  have e12 : a'.tmps.getD 162 undef = .pointer (some ⟨b7, 0, none⟩) := hd 12 (by kernel_rfl)
                  obtain ⟨m0, m1', m2', m3, m4, m5⟩ := six_at HXQ.out hb hs7Q
                  refine grow_value (v := .string ⟨nm.toArray⟩) (w' := w') ?_ rfl (Below.refl _ _)
                  simp only [execOp, Act.eval, e12]
                  go_simp
                · cases ho
                  have hg : a'.tmps.getD 155 undef = .bool false := hd 5 (by kernel_rfl)
                  refine grow_op rfl (grow_wanted rfl rfl hg) rfl ?_
                  have e11 : a'.tmps.getD 161 undef = .string ⟨nm.toArray⟩ := hd 11 (by kernel_rfl)
                  have e13 : a'.tmps.getD 163 undef = .string ⟨nm.toArray⟩ := hd 13 (by kernel_rfl)
                  refine grow_value (v := .bool false) (w' := w') ?_ rfl (Below.refl _ _)
                  simp only [execOp, Act.eval, e11, e13]
                  go_simp
                · cases ho
                  refine grow_op rfl rfl rfl ?_
                  have e5 : a'.tmps.getD 155 undef = .bool false := hd 5 (by kernel_rfl)
                  have e14 : a'.tmps.getD 164 undef = .bool false := hd 14 (by kernel_rfl)
                  refine grow_value (v := .bool false) (w' := w') ?_ rfl (Below.refl _ _)
                  simp only [execOp, Act.eval, e5, e14]
                  go_simp
                · cases ho
                  refine grow_op rfl rfl rfl (grow_move rfl ?_)
                  exact hd 15 (by kernel_rfl)
                · cases ho
                  have hg : a'.tmps.getD 166 undef = .bool false := hd 16 (by kernel_rfl)
                  refine grow_op rfl (grow_wanted rfl rfl hg) rfl ?_
                  have f13 : a'.tmps.getD 13 undef = .pointer (some ⟨b3, 0, none⟩) := (hf.same 13 (by decide)).trans rfl
                  refine grow_value (v := .pointer (some ⟨b3, 4, none⟩)) (w' := w') ?_ rfl (Below.refl _ _)
                  simp only [execOp, Act.eval]
                  go_simp
                · cases ho
                  have hg : a'.tmps.getD 166 undef = .bool false := hd 16 (by kernel_rfl)
                  refine grow_op rfl (grow_wanted rfl rfl hg) rfl ?_
                  have e17 : a'.tmps.getD 167 undef = .pointer (some ⟨b3, 4, none⟩) := hd 17 (by kernel_rfl)
                  obtain ⟨x0, x1, x2, x3, x4⟩ := five_at HX3.out (HBQ.out.trans (hb.mono HBQ.out.size)) hl3B
                  refine grow_value (v := .slice (some ⟨gw, ow, none⟩) WL cw') (w' := w') ?_ rfl (Below.refl _ _)
                  simp only [execOp, Act.eval, e17]
                  go_simp
                · cases ho
                  have hg : a'.tmps.getD 166 undef = .bool false := hd 16 (by kernel_rfl)
                  refine grow_op rfl (grow_wanted rfl rfl hg) rfl (grow_move rfl ?_)
                  exact (hf.same 22 (by decide)).trans rfl
                · cases ho
                  have hg : a'.tmps.getD 166 undef = .bool false := hd 16 (by kernel_rfl)
                  refine grow_op rfl (grow_wanted rfl rfl hg) rfl ?_
                  have e18 : a'.tmps.getD 168 undef = .slice (some ⟨gw, ow, none⟩) WL cw' := hd 18 (by kernel_rfl)
                  have e19 : a'.tmps.getD 169 undef = .int .i64 (i : Int) := hd 19 (by kernel_rfl)
                  refine grow_value (v := .pointer (some ⟨gw, ow + i * 6, none⟩)) (w' := w') ?_ rfl (Below.refl _ _)
                  simp only [execOp, Act.eval, e18, e19]
                  go_simp
                · cases ho
                  have hg : a'.tmps.getD 166 undef = .bool false := hd 16 (by kernel_rfl)
                  refine grow_op rfl (grow_wanted rfl rfl hg) rfl ?_
                  have e20 : a'.tmps.getD 170 undef = .pointer (some ⟨gw, ow + i * 6, none⟩) := hd 20 (by kernel_rfl)
                  refine grow_value (v := .pointer (some ⟨gw, ow + i * 6 + 1, none⟩)) (w' := w') ?_ rfl (Below.refl _ _)
                  simp only [execOp, Act.eval, e20]
                  go_simp
                · cases ho
                  have hg : a'.tmps.getD 166 undef = .bool false := hd 16 (by kernel_rfl)
                  refine grow_op rfl (grow_wanted rfl rfl hg) rfl ?_
                  have e21 : a'.tmps.getD 171 undef = .pointer (some ⟨gw, ow + i * 6 + 1, none⟩) := hd 21 (by kernel_rfl)
                  obtain ⟨c1, c2, c3, c4, c5⟩ := five_off HWC.out (HBQ.out.trans (hb.mono HBQ.out.size))
                  refine grow_value (v := .agg #[.int .i64 k8, .bool y8, .string ⟨t8⟩, .slice a8 n8 c8, .slice a8' m8 c8']) (w' := w') ?_ rfl (Below.refl _ _)
                  simp only [execOp, Act.eval, e21]
                  go_simp
                · cases ho
                  have hg : a'.tmps.getD 166 undef = .bool false := hd 16 (by kernel_rfl)
                  refine grow_op rfl (grow_wanted rfl rfl hg) rfl ?_
                  have f23 : a'.tmps.getD 23 undef = .pointer (some ⟨b7, 0, none⟩) := (hf.same 23 (by decide)).trans rfl
                  refine grow_value (v := .pointer (some ⟨b7, 1, none⟩)) (w' := w') ?_ rfl (Below.refl _ _)
                  simp only [execOp, Act.eval]
                  go_simp
                · cases ho
                  have hg : a'.tmps.getD 166 undef = .bool false := hd 16 (by kernel_rfl)
                  refine grow_op rfl (grow_wanted rfl rfl hg) rfl ?_
                  have e23 : a'.tmps.getD 173 undef = .pointer (some ⟨b7, 1, none⟩) := hd 23 (by kernel_rfl)
                  obtain ⟨m0, m1', m2', m3, m4, m5⟩ := six_at HXQ.out hb hs7Q
                  refine grow_value (v := .agg #[.int .i64 k7, .bool y7, .string ⟨t7⟩, .slice a7 n7 c7, .slice a7' m7 c7']) (w' := w') ?_ rfl (Below.refl _ _)
                  simp only [execOp, Act.eval, e23]
                  go_simp
                · cases ho
                  have hg : a'.tmps.getD 166 undef = .bool false := hd 16 (by kernel_rfl)
                  refine grow_op rfl (grow_wanted rfl rfl hg) rfl ?_
                  have e22 : a'.tmps.getD 172 undef = .agg #[.int .i64 k8, .bool y8, .string ⟨t8⟩, .slice a8 n8 c8, .slice a8' m8 c8'] := hd 22 (by kernel_rfl)
                  have e24 : a'.tmps.getD 174 undef = .agg #[.int .i64 k7, .bool y7, .string ⟨t7⟩, .slice a7 n7 c7, .slice a7' m7 c7'] := hd 24 (by kernel_rfl)
                  refine grow_call ent_jsame rfl ?_
                  simp only [List.map_toArray, List.map_cons, List.map_nil, Act.eval, e22, e24]
                  exact ((HSAM.out _ _ [.int .i64 k8, .bool y8, .string ⟨t8⟩, .slice a8 n8 c8, .slice a8' m8 c8'] [.int .i64 k7, .bool y7, .string ⟨t7⟩, .slice a7 n7 c7, .slice a7' m7 c7'] w' (HRX2.out.under (HBQ.out.trans (hb.mono HBQ.out.size))) (HRV.out.under (HBQ.out.trans (hb.mono HBQ.out.size)))).mono (fun e w'' ⟨h1, h2⟩ => ⟨_, h1, rfl, h2⟩))
                · cases ho
                  have hg : a'.tmps.getD 166 undef = .bool false := hd 16 (by kernel_rfl)
                  refine grow_op rfl (grow_wanted rfl rfl hg) rfl ?_
                  have e25 : a'.tmps.getD 175 undef = (.bool true) := hd 25 (by kernel_rfl)
                  refine grow_value (v := .bool false) (w' := w') ?_ rfl (Below.refl _ _)
                  simp only [execOp, Act.eval, e25]
                  go_simp
                · cases ho
                  refine grow_op rfl rfl rfl ?_
                  have e16 : a'.tmps.getD 166 undef = .bool false := hd 16 (by kernel_rfl)
                  have e26 : a'.tmps.getD 176 undef = .bool false := hd 26 (by kernel_rfl)
                  refine grow_value (v := .bool false) (w' := w') ?_ rfl (Below.refl _ _)
                  simp only [execOp, Act.eval, e16, e26]
                  go_simp
                · cases ho
                  refine grow_op rfl rfl rfl (grow_move rfl ?_)
                  exact hd 27 (by kernel_rfl)
                · cases ho
                  have hg : a'.tmps.getD 178 undef = .bool false := hd 28 (by kernel_rfl)
                  refine grow_op rfl (grow_wanted rfl rfl hg) rfl ?_
                  have f14 : a'.tmps.getD 14 undef = .pointer (some ⟨b4, 0, none⟩) := (hf.same 14 (by decide)).trans rfl
                  refine grow_value (v := .pointer (some ⟨b4, 4, none⟩)) (w' := w') ?_ rfl (Below.refl _ _)
                  simp only [execOp, Act.eval]
                  go_simp
                · cases ho
                  have hg : a'.tmps.getD 178 undef = .bool false := hd 28 (by kernel_rfl)
                  refine grow_op rfl (grow_wanted rfl rfl hg) rfl ?_
                  have e29 : a'.tmps.getD 179 undef = .pointer (some ⟨b4, 4, none⟩) := hd 29 (by kernel_rfl)
                  obtain ⟨x0, x1, x2, x3, x4⟩ := five_at HX4.out (HBQ.out.trans (hb.mono HBQ.out.size)) hl4B
                  refine grow_value (v := .slice (some ⟨gu, ou, none⟩) UN cu') (w' := w') ?_ rfl (Below.refl _ _)
                  simp only [execOp, Act.eval, e29]
                  go_simp
                · cases ho
                  have hg : a'.tmps.getD 178 undef = .bool false := hd 28 (by kernel_rfl)
                  refine grow_op rfl (grow_wanted rfl rfl hg) rfl (grow_move rfl ?_)
                  exact (hf.same 21 (by decide)).trans rfl
                · cases ho
                  have hg : a'.tmps.getD 178 undef = .bool false := hd 28 (by kernel_rfl)
                  refine grow_op rfl (grow_wanted rfl rfl hg) rfl ?_
                  have e30 : a'.tmps.getD 180 undef = .slice (some ⟨gu, ou, none⟩) UN cu' := hd 30 (by kernel_rfl)
                  have e31 : a'.tmps.getD 181 undef = .int .i64 (at_ : Int) := hd 31 (by kernel_rfl)
                  refine grow_value (v := .pointer (some ⟨gu, ou + at_ * 6, none⟩)) (w' := w') ?_ rfl (Below.refl _ _)
                  simp only [execOp, Act.eval, e30, e31]
                  go_simp
                · cases ho
                  have hg : a'.tmps.getD 178 undef = .bool false := hd 28 (by kernel_rfl)
                  refine grow_op rfl (grow_wanted rfl rfl hg) rfl ?_
                  have e32 : a'.tmps.getD 182 undef = .pointer (some ⟨gu, ou + at_ * 6, none⟩) := hd 32 (by kernel_rfl)
                  refine grow_value (v := .pointer (some ⟨gu, ou + at_ * 6 + 1, none⟩)) (w' := w') ?_ rfl (Below.refl _ _)
                  simp only [execOp, Act.eval, e32]
                  go_simp
                · cases ho
                  have hg : a'.tmps.getD 178 undef = .bool false := hd 28 (by kernel_rfl)
                  refine grow_op rfl (grow_wanted rfl rfl hg) rfl ?_
                  have e33 : a'.tmps.getD 183 undef = .pointer (some ⟨gu, ou + at_ * 6 + 1, none⟩) := hd 33 (by kernel_rfl)
                  obtain ⟨c1, c2, c3, c4, c5⟩ := five_off HUC.out (HBQ.out.trans (hb.mono HBQ.out.size))
                  refine grow_value (v := .agg #[.int .i64 k9, .bool y9, .string ⟨t9⟩, .slice a9 n9 c9, .slice a9' m9 c9']) (w' := w') ?_ rfl (Below.refl _ _)
                  simp only [execOp, Act.eval, e33]
                  go_simp
                · cases ho
                  have hg : a'.tmps.getD 178 undef = .bool false := hd 28 (by kernel_rfl)
                  refine grow_op rfl (grow_wanted rfl rfl hg) rfl ?_
                  have f23 : a'.tmps.getD 23 undef = .pointer (some ⟨b7, 0, none⟩) := (hf.same 23 (by decide)).trans rfl
                  refine grow_value (v := .pointer (some ⟨b7, 1, none⟩)) (w' := w') ?_ rfl (Below.refl _ _)
                  simp only [execOp, Act.eval]
                  go_simp
                · cases ho
                  have hg : a'.tmps.getD 178 undef = .bool false := hd 28 (by kernel_rfl)
                  refine grow_op rfl (grow_wanted rfl rfl hg) rfl ?_
                  have e35 : a'.tmps.getD 185 undef = .pointer (some ⟨b7, 1, none⟩) := hd 35 (by kernel_rfl)
                  obtain ⟨m0, m1', m2', m3, m4, m5⟩ := six_at HXQ.out hb hs7Q
                  refine grow_value (v := .agg #[.int .i64 k7, .bool y7, .string ⟨t7⟩, .slice a7 n7 c7, .slice a7' m7 c7']) (w' := w') ?_ rfl (Below.refl _ _)
                  simp only [execOp, Act.eval, e35]
                  go_simp
                · cases ho
                  have hg : a'.tmps.getD 178 undef = .bool false := hd 28 (by kernel_rfl)
                  refine grow_op rfl (grow_wanted rfl rfl hg) rfl ?_
                  have e34 : a'.tmps.getD 184 undef = .agg #[.int .i64 k9, .bool y9, .string ⟨t9⟩, .slice a9 n9 c9, .slice a9' m9 c9'] := hd 34 (by kernel_rfl)
                  have e36 : a'.tmps.getD 186 undef = .agg #[.int .i64 k7, .bool y7, .string ⟨t7⟩, .slice a7 n7 c7, .slice a7' m7 c7'] := hd 36 (by kernel_rfl)
                  refine grow_call ent_jsame rfl ?_
                  simp only [List.map_toArray, List.map_cons, List.map_nil, Act.eval, e34, e36]
                  exact ((HSAM.out _ _ [.int .i64 k9, .bool y9, .string ⟨t9⟩, .slice a9 n9 c9, .slice a9' m9 c9'] [.int .i64 k7, .bool y7, .string ⟨t7⟩, .slice a7 n7 c7, .slice a7' m7 c7'] w' (HRU2.out.under (HBQ.out.trans (hb.mono HBQ.out.size))) (HRV.out.under (HBQ.out.trans (hb.mono HBQ.out.size)))).mono (fun e w'' ⟨h1, h2⟩ => ⟨_, h1, rfl, h2⟩))
                · cases ho
                  have hg : a'.tmps.getD 178 undef = .bool false := hd 28 (by kernel_rfl)
                  refine grow_op rfl (grow_wanted rfl rfl hg) rfl ?_
                  have e37 : a'.tmps.getD 187 undef = (.bool true) := hd 37 (by kernel_rfl)
                  refine grow_value (v := .bool false) (w' := w') ?_ rfl (Below.refl _ _)
                  simp only [execOp, Act.eval, e37]
                  go_simp
                · cases ho
                  refine grow_op rfl rfl rfl ?_
                  have e28 : a'.tmps.getD 178 undef = .bool false := hd 28 (by kernel_rfl)
                  have e38 : a'.tmps.getD 188 undef = .bool false := hd 38 (by kernel_rfl)
                  refine grow_value (v := .bool false) (w' := w') ?_ rfl (Below.refl _ _)
                  simp only [execOp, Act.eval, e28, e38]
                  go_simp
                · simp at ho
              · intro a' w' hf hb hd
                obtain rfl := hf.eq [Value.int IntKind.i64 (at_ : Int), Value.pointer (some ⟨b4, 4, none⟩), Value.slice (some ⟨gu, ou, none⟩) UN cu', Value.int IntKind.i64 (UN : Int), Value.bool false, Value.bool false, Value.pointer (some ⟨b4, 4, none⟩), Value.slice (some ⟨gu, ou, none⟩) UN cu', Value.int IntKind.i64 (at_ : Int), Value.pointer (some ⟨gu, ou + at_ * 6, none⟩), Value.pointer (some ⟨gu, ou + at_ * 6, none⟩), Value.string ⟨nm.toArray⟩, Value.pointer (some ⟨b7, 0, none⟩), Value.string ⟨nm.toArray⟩, Value.bool false, Value.bool false, Value.bool false, Value.pointer (some ⟨b3, 4, none⟩), Value.slice (some ⟨gw, ow, none⟩) WL cw', Value.int IntKind.i64 (i : Int), Value.pointer (some ⟨gw, ow + i * 6, none⟩), Value.pointer (some ⟨gw, ow + i * 6 + 1, none⟩), Value.agg #[.int IntKind.i64 k8, .bool y8, .string ⟨t8⟩, .slice a8 n8 c8, .slice a8' m8 c8'], Value.pointer (some ⟨b7, 1, none⟩), Value.agg #[.int IntKind.i64 k7, .bool y7, .string ⟨t7⟩, .slice a7 n7 c7, .slice a7' m7 c7'], (.bool true), Value.bool false, Value.bool false, Value.bool false, Value.pointer (some ⟨b4, 4, none⟩), Value.slice (some ⟨gu, ou, none⟩) UN cu', Value.int IntKind.i64 (at_ : Int), Value.pointer (some ⟨gu, ou + at_ * 6, none⟩), Value.pointer (some ⟨gu, ou + at_ * 6 + 1, none⟩), Value.agg #[.int IntKind.i64 k9, .bool y9, .string ⟨t9⟩, .slice a9 n9 c9, .slice a9' m9 c9'], Value.pointer (some ⟨b7, 1, none⟩), Value.agg #[.int IntKind.i64 k7, .bool y7, .string ⟨t7⟩, .slice a7 n7 c7, .slice a7' m7 c7'], (.bool true), Value.bool false, Value.bool false] (fun j hj => match j, hj with
                  | 0, _ => hd 0 (by decide)
                  | 1, _ => hd 1 (by decide)
                  | 2, _ => hd 2 (by decide)
                  | 3, _ => hd 3 (by decide)
                  | 4, _ => hd 4 (by decide)
                  | 5, _ => hd 5 (by decide)
                  | 6, _ => hd 6 (by decide)
                  | 7, _ => hd 7 (by decide)
                  | 8, _ => hd 8 (by decide)
                  | 9, _ => hd 9 (by decide)
                  | 10, _ => hd 10 (by decide)
                  | 11, _ => hd 11 (by decide)
                  | 12, _ => hd 12 (by decide)
                  | 13, _ => hd 13 (by decide)
                  | 14, _ => hd 14 (by decide)
                  | 15, _ => hd 15 (by decide)
                  | 16, _ => hd 16 (by decide)
                  | 17, _ => hd 17 (by decide)
                  | 18, _ => hd 18 (by decide)
                  | 19, _ => hd 19 (by decide)
                  | 20, _ => hd 20 (by decide)
                  | 21, _ => hd 21 (by decide)
                  | 22, _ => hd 22 (by decide)
                  | 23, _ => hd 23 (by decide)
                  | 24, _ => hd 24 (by decide)
                  | 25, _ => hd 25 (by decide)
                  | 26, _ => hd 26 (by decide)
                  | 27, _ => hd 27 (by decide)
                  | 28, _ => hd 28 (by decide)
                  | 29, _ => hd 29 (by decide)
                  | 30, _ => hd 30 (by decide)
                  | 31, _ => hd 31 (by decide)
                  | 32, _ => hd 32 (by decide)
                  | 33, _ => hd 33 (by decide)
                  | 34, _ => hd 34 (by decide)
                  | 35, _ => hd 35 (by decide)
                  | 36, _ => hd 36 (by decide)
                  | 37, _ => hd 37 (by decide)
                  | 38, _ => hd 38 (by decide)
                  | 39, _ => hd 39 (by decide)
                  | k + 40, h => absurd h (by simp)) (by decide) (by kernel_rfl) rfl
                simp only [List.zip_cons_cons, List.zip_nil_right, List.foldl_cons, List.foldl_nil, Act.put, List.setIfInBounds_toArray, List.set_cons_succ, List.set_cons_zero]
                obtain ⟨wR, rfl⟩ : ∃ x : World, x = w' := ⟨_, rfl⟩
                have HBR2 := Lib.hid (HBQ.out.trans (hb.mono HBQ.out.size))
                clear hd hf hb
                go_wp2_with fail
                go_roundg (gk - 1)
                case measure => omega
                case rel => exact ⟨i + 1, at_ + 1, by first | rfl | (congr 1), by first | rfl | (congr 1), by omega, by omega, HAT2, HBR2⟩
          · have hie : i = l.length := by omega
            subst hie
            have hltI : ¬ (l.length : Int) < (l.length : Int) := by omega
            have hatU : at_ = UN := by
              have h := HAT.out
              rw [← hMl, HUALL.out, hUN] at h
              exact h
            subst hatU
            have hwl : TH = decide (WL = l.length) := by
              have h1 := HWLEN.out
              rw [hWL, HNM.out, hMl] at h1
              have h2 := HTH.out
              have h3 := get_iff S M
              rw [HNM.out] at h3
              rw [← h2]
              show (getM S M).isSome = _
              by_cases hS : S ∈ l
              · rw [if_pos hS] at h1
                have h4 : getM S M ≠ none := fun e => (h3.1 e) hS
                cases hg : getM S M with
                | none => exact absurd hg h4
                | some x => simp [h1]
              · rw [if_neg hS] at h1
                rw [h3.2 hS]
                simp [h1]
            have hwb : ((WL : Int) == (l.length : Int)) = TH := by
              rw [hwl, Bool.eq_iff_iff, beq_iff_eq, decide_eq_true_eq]
              omega
            obtain ⟨x0, x1, x2, x3, x4⟩ := five_at HX3.out HBR.out hl3B
            obtain ⟨y0, y1, y2', y3, y4⟩ := five_at HX4.out HBR.out hl4B
            clear hwl
            have HBZ := Lib.hid (HBB.out.trans (HBR.out.mono HBB.out.size))
            go_wp2_with fail
            refine bodyPost_ret (results_tmp rfl _ _ _) rfl ?_
            exact ⟨rfl, HBZ.out⟩
end Go.Proofs.YtfcokdkbjajohaaGreatDoor
/- A parameter that is a row of texts, opened; how long they are. -/
set_option linter.unusedVariables false
namespace Go.Proofs.YtfcokdkbjajohaaGreatDoor
open Go.RowKit

section
variable {H : Type} {enc : TypeId × Value → H} {w : World} {base : Nat} {spare : Nat → Bool} {held : Bool}
set_option maxRecDepth 100000 in
theorem open_names {fuel : Nat} {a : Option Addr} {len cap : Nat} {x : DataW H × List MemPlace} (h : DataW.trod enc Tryz.prog w base spare held fuel 51 [.slice a len cap] = some x) :
    ∃ l : List (List UInt8), len = l.length ∧ RdC w a (l.map strV) ∧ l.length ≤ cap ∧ l.length ≤ maxLen ∧ (l = [] ∨ ∃ sp, x.1 = .slice (l.map fun s => .lit (.string s)) sp) := by
  rcases Go.Deep.open_strs Tryz.underlying51 Tryz.underlying9 (by kernel_rfl) h with ⟨h0, _⟩ | ⟨ad, len', cap', m, Sx, h0, hb, hl, hm, hmm, hx, hi⟩
  · simp at h0
    obtain ⟨rfl, rfl, rfl⟩ := h0
    exact ⟨[], rfl, .inl rfl, Nat.zero_le _, Nat.zero_le _, .inl rfl⟩
  · simp at h0
    obtain ⟨rfl, rfl, rfl⟩ := h0
    have hml : len ≤ m := by rw [hmm]; split <;> omega
    refine ⟨(List.range len).map fun i => (Sx i).data.toList, by simp, ?_, by simpa using hl, by simp; omega, .inr ⟨((List.range (m - len)).map fun j => DataW.lit (Lit.string (Sx (len + j)).data.toList)), ?_⟩⟩
    · by_cases h0 : len = 0
      · subst h0
        exact .inl rfl
      · obtain ⟨b, off, spot⟩ := ad
        have hsp : spot = none := by
          have h1 := (hi 0 (by omega)).1
          cases spot with
          | none => rfl
          | some k =>
            have e0 : (⟨b, off, some k⟩ : Addr).add 0 = ⟨b, off, some k⟩ := by simp [Addr.add]
            rw [e0] at h1
            unfold World.cell? at h1
            split at h1 <;> simp at h1
        subst hsp
        refine .inr ⟨b, off, rfl, fun i u hu => ?_⟩
        have hil : i < len := by
          have := (List.getElem?_eq_some_iff.1 hu).1
          simpa using this
        have h1 := (hi i (by omega)).1
        rw [Addr.add_lit] at h1
        rw [h1]
        rw [List.getElem?_map, List.getElem?_map, List.getElem?_range hil] at hu
        simp only [Option.map_some, Option.some.injEq, strV] at hu
        rw [← hu]
    · rw [hx]
      simp
theorem names_weight (P : Program) (e : TypeId) : ∀ (l : List (List UInt8)) (s : List UInt8), s ∈ l → s.length ∈ DataW.weightsAll P e (l.map fun s => (.lit (.string s) : DataW H))
  | [], s, h => by simp at h
  | t :: l, s, h => by
    rw [List.map_cons, DataW.weightsAll]
    rcases List.mem_cons.1 h with rfl | h
    · exact List.mem_append_left _ (by simp [DataW.weights])
    · exact List.mem_append_right _ (names_weight P e l s h)
theorem names_reach {x : DataW H} {l : List (List UInt8)} {ts : List TypeId} {ds : List (DataW H)} (hx : l = [] ∨ ∃ sp, x = .slice (l.map fun s => .lit (.string s)) sp)
    (h : (DataW.weightsEach Tryz.prog (51 :: ts) (x :: ds)).all (fun n => decide (n ≤ reachBytes)) = true) : ∀ s ∈ l, s.length ≤ reachBytes := by
  intro s hs
  rcases hx with rfl | ⟨sp, rfl⟩
  · simp at hs
  · simp only [DataW.weightsEach, DataW.weights, Tryz.underlying51, List.all_append, List.all_cons, Bool.and_eq_true] at h
    have h1 := h.1.2.1
    rw [List.all_eq_true] at h1
    exact of_decide_eq_true (h1 _ (names_weight Tryz.prog 9 l s hs))
theorem text_reach {x : DataW H} {s : ByteArray} {t t2 : TypeId} {ts : List TypeId} {ds : List (DataW H)} 
    (h : (DataW.weightsEach Tryz.prog (t :: t2 :: ts) (x :: .lit (.string s.data.toList) :: ds)).all (fun n => decide (n ≤ reachBytes)) = true) : s.size ≤ reachBytes := by
  simp only [DataW.weightsEach, List.all_append, Bool.and_eq_true] at h
  have := h.2.1
  simp [DataW.weights] at this
  exact this
end
end Go.Proofs.YtfcokdkbjajohaaGreatDoor
