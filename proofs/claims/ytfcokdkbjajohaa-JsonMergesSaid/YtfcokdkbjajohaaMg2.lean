/- Merged: JsE, JsF, JsG, JsM, Row, JsV, Reg, Grow, JsH. -/
import Derived.Deep.DeepCutAuto
import Derived.Outline
import Derived.Lib.RuneBytes
import Derived.RegionTactic
import Derived.ScopeJumps
import Derived.WalkKit
import Derived.Below
import Derived.Maps.AppendAt
import Derived.Test.YtfcokdkbjajohaaMg1
/- json's reader: numbers. -/
set_option linter.unusedVariables false
namespace Go.Proofs.Ytfcokdkbjajohaa
open Go.RowKit

def leafV (k : Int) (y : Bool) (t : List UInt8) : Value := .agg #[.int .i64 k, .bool y, .string ⟨t.toArray⟩, .slice none 0 0, .slice none 0 0]
/-- How a reader's call with a number's value ends. -/
def NumRes (g : Nat) (S : List UInt8) (d o : Nat) (res : PR (List UInt8)) (w : World) (e : Ending) (w' : World) : Prop :=
  But g w w' ∧ ((∃ t q, res = .ok t (S.drop q) ∧ e = .returned (leafV 3 false t) ∧ Rdr w' g S q d o) ∨ ∃ n a, res = .bad n ∧ e = .panicked (thrown n a))
theorem str_mid2 (l : List UInt8) (i j : Nat) (hij : i ≤ j) (hj : j ≤ l.length) (w : World) :
    (Instr.slice 9 (.string ⟨l.toArray⟩) (some (.int .i64 (i : Int))) (some (.int .i64 (j : Int))) none).run Try.prog w = .ok (.string ⟨((l.drop i).take (j - i)).toArray⟩) w := by
  rw [run_slice_string w 9 _ .i64 .i64 (i : Int) (j : Int) Try.underlying9 (by omega) (by omega) (by simp [ByteArray.size]; omega)]
  congr 2
  apply ByteArray.ext
  apply Array.ext'
  simp [ByteArray.data_extract]
theorem value_stored {w : World} {g : Nat} {x0 x1 x2 x3 x4 : Value} {T : TypeId} {fr : Nat × Nat} (h : w.heap[g]? = some (.cells #[x0, x1, x2, x3, x4] T fr)) (a b c d e : Value) :
    (((((w.setCell ⟨g, 0, none⟩ a).setCell ⟨g, 1, none⟩ b).setCell ⟨g, 2, none⟩ c).setCell ⟨g, 3, none⟩ d).setCell ⟨g, 4, none⟩ e).heap[g]? = some (.cells #[a, b, c, d, e] T fr) := by
  simp [World.setCell, Array.getElem?_modify, h]
theorem but_stored {g gv : Nat} {w0 w : World} (h : But g w0 w) (hg : w0.heap.size ≤ gv) (a b c d e : Value) :
    But g w0 (((((w.setCell ⟨gv, 0, none⟩ a).setCell ⟨gv, 1, none⟩ b).setCell ⟨gv, 2, none⟩ c).setCell ⟨gv, 3, none⟩ d).setCell ⟨gv, 4, none⟩ e) := by
  have s1 : ∀ (w : World) (i : Nat) (v : Value), But g w0 w → But g w0 (w.setCell ⟨gv, i, none⟩ v) := by
    intro w i v h
    exact ⟨h.os, h.tape, h.output, by rw [show (w.setCell ⟨gv, i, none⟩ v).heap.size = w.heap.size by simp [World.setCell]]; exact h.size, fun k hk hne => (Below.heap_setCell _ _ _ _ (show k ≠ gv by omega)).trans (h.block k hk hne)⟩
  exact s1 _ _ _ (s1 _ _ _ (s1 _ _ _ (s1 _ _ _ (s1 _ _ _ h))))
theorem Rdr.stored {g gv : Nat} {S : List UInt8} {p d o : Nat} {w : World} (h : Rdr w g S p d o) (hg : g ≠ gv) (a b c e f : Value) :
    Rdr (((((w.setCell ⟨gv, 0, none⟩ a).setCell ⟨gv, 1, none⟩ b).setCell ⟨gv, 2, none⟩ c).setCell ⟨gv, 3, none⟩ e).setCell ⟨gv, 4, none⟩ f) g S p d o := by
  refine ⟨?_, h.le⟩
  rw [Below.heap_setCell _ _ _ _ hg, Below.heap_setCell _ _ _ _ hg, Below.heap_setCell _ _ _ _ hg, Below.heap_setCell _ _ _ _ hg, Below.heap_setCell _ _ _ _ hg]
  exact h.heap
theorem num_le {S : List UInt8} {p q : Nat} (hp : p ≤ S.length) (hq : q ≤ S.length) (h : numR (S.drop p) = .ok () (S.drop q)) : p ≤ q := by
  obtain ⟨r, e, _⟩ := num_pre h
  have := congrArg List.length e
  simp only [List.length_append, List.length_drop] at this
  omega
/-- What next has done. -/
def Nxt (S : List UInt8) (p : Nat) (c : UInt8) (b : Bool) (q : Nat) : Prop := (b = true ∧ peekL (S.drop p) = c ∧ q = p + 1) ∨ (b = false ∧ peekL (S.drop p) ≠ c ∧ q = p)
theorem jnext_any (g : Nat) (S : List UInt8) (p d o : Nat) (c : UInt8) (C : Int) (w : World) (h : Rdr w g S p d o) (hl : S.length ≤ 1000000) (h0 : c ≠ 0) (hC : C = (c.toNat : Int)) :
    Calls Try.prog 46 #[.pointer (some ⟨g, 0, none⟩), .int .u8 C] w fun e w' => ∃ b q, e = .returned (.bool b) ∧ Hid (Nxt S p c b q) ∧ Hid (Rdr w' g S q d o) ∧ Hid (But g w w') := by
  by_cases hc : peekL (S.drop p) = c
  · refine (jnext_hit g S p d o c C w h hl hc h0 hC).mono ?_
    rintro e w' ⟨rfl, hr, hb⟩
    exact ⟨true, p + 1, rfl, Lib.hid (.inl ⟨rfl, hc, rfl⟩), Lib.hid hr, Lib.hid hb⟩
  · refine (jnext_miss g S p d o c C w h hl hc hC).mono ?_
    rintro e w' ⟨rfl, hr, hb⟩
    exact ⟨false, p, rfl, Lib.hid (.inr ⟨rfl, hc, rfl⟩), Lib.hid hr, Lib.hid hb⟩
theorem Nxt.le {S : List UInt8} {p q : Nat} {c : UInt8} {b : Bool} (h : Nxt S p c b q) : p ≤ q := by
  rcases h with ⟨_, _, rfl⟩ | ⟨_, _, rfl⟩ <;> omega
theorem head_yes {S : List UInt8} {p : Nat} {c : UInt8} (h0 : c ≠ 0) (h : peekL (S.drop p) = c) : (S.drop p).head? = some c ∧ (S.drop p).tail = S.drop (p + 1) := ⟨(head_peek h0).2 h, List.tail_drop⟩
theorem head_not {S : List UInt8} {p : Nat} {c : UInt8} (h0 : c ≠ 0) (h : peekL (S.drop p) ≠ c) : ¬ (S.drop p).head? = some c := fun e => h ((head_peek h0).1 e)
theorem Nxt.yes {S : List UInt8} {p q : Nat} {c : UInt8} (h : Nxt S p c true q) (h0 : c ≠ 0) : (S.drop p).head? = some c ∧ (S.drop p).tail = S.drop q := by
  rcases h with ⟨_, hc, rfl⟩ | ⟨h, _⟩
  · exact head_yes h0 hc
  · cases h
theorem Nxt.no {S : List UInt8} {p q : Nat} {c : UInt8} (h : Nxt S p c false q) (h0 : c ≠ 0) : ¬ (S.drop p).head? = some c ∧ q = p := by
  rcases h with ⟨h, _⟩ | ⟨_, hc, rfl⟩
  · cases h
  · exact ⟨head_not h0 hc, rfl⟩
theorem skip_yes {S : List UInt8} {p : Nat} {c : UInt8} (h0 : c ≠ 0) (h : peekL (S.drop p) = c) : skipL c (S.drop p) = S.drop (p + 1) := by
  unfold skipL
  rw [if_pos (head_yes h0 h).1, (head_yes h0 h).2]
theorem skip_not {S : List UInt8} {p : Nat} {c : UInt8} (h0 : c ≠ 0) (h : peekL (S.drop p) ≠ c) : skipL c (S.drop p) = S.drop p := by
  unfold skipL
  rw [if_neg (head_not h0 h)]
theorem Nxt.skip {S : List UInt8} {p q : Nat} {c : UInt8} {b : Bool} (h : Nxt S p c b q) (h0 : c ≠ 0) : skipL c (S.drop p) = S.drop q := by
  rcases h with ⟨_, hc, rfl⟩ | ⟨_, hc, rfl⟩
  · exact skip_yes h0 hc
  · exact skip_not h0 hc
/-- digits, from a place. -/
def DigRes (g : Nat) (S : List UInt8) (p d o : Nat) (w : World) (e : Ending) (w' : World) : Prop :=
  Hid (But g w w') ∧ ((∃ q, Hid (digitsL (S.drop p) = .ok () (S.drop q)) ∧ e = .returned (.tuple #[]) ∧ Hid (Rdr w' g S q d o)) ∨ ∃ n a, Hid (digitsL (S.drop p) = .bad n) ∧ e = .panicked (thrown n a))
theorem jdigits_h (g : Nat) (S : List UInt8) (p d o : Nat) (w : World) (h : Rdr w g S p d o) (hl : S.length ≤ 1000000) :
    Calls Try.prog 47 #[.pointer (some ⟨g, 0, none⟩)] w fun e w' => DigRes g S p d o w e w' := by
  refine (jdigits_any g S p d o w h hl).mono ?_
  rintro e w' ⟨hb, ⟨q, h1, h2, h3⟩ | ⟨n, a, h1, h2⟩⟩
  · exact ⟨Lib.hid hb, .inl ⟨q, Lib.hid h1, h2, Lib.hid h3⟩⟩
  · exact ⟨Lib.hid hb, .inr ⟨n, a, Lib.hid h1, h2⟩⟩
set_option maxRecDepth 100000 in
set_option maxHeartbeats 16000000 in
theorem jnumber_any (g : Nat) (S : List UInt8) (p d o : Nat) (w : World) (h : Rdr w g S p d o) (hl : S.length ≤ 1000000) :
    Calls Try.prog 27 #[.pointer (some ⟨g, 0, none⟩)] w fun e w' => NumRes g S d o (numberL (S.drop p)) w e w' := by
  have hp1 := h.c1
  have hple := h.le
  have hgl := h.lt
  have hr0 := h.below ((Below.refl w.heap.size w).alloc (Nat.le_refl _) (.cells #[.int .i64 0, .bool false, .string ⟨#[]⟩, .slice none 0 0, .slice none 0 0] 28))
  have hb0 := (But.refl g w).below ((Below.refl w.heap.size w).alloc (Nat.le_refl _) (.cells #[.int .i64 0, .bool false, .string ⟨#[]⟩, .slice none 0 0, .slice none 0 0] 28))
  have hk0 := heap_alloc_new w (.cells #[.int .i64 0, .bool false, .string ⟨#[]⟩, .slice none 0 0, .slice none 0 0] 28)
  have hs0 : w.heap.size < (w.alloc (.cells #[.int .i64 0, .bool false, .string ⟨#[]⟩, .slice none 0 0, .slice none 0 0] 28)).heap.size := by simp
  clear h
  go_enter Try.func27, Try.ntmps27
  have hp10 := hr0.c1
  go_wp2_with fail
  obtain ⟨w0, hw0⟩ : ∃ x, w.alloc (.cells #[.int .i64 0, .bool false, .string ⟨#[]⟩, .slice none 0 0, .slice none 0 0] 28) = x := ⟨_, rfl⟩
  rw [hw0] at hr0 hb0 hk0 hs0 hp10 ⊢
  obtain ⟨gv, hgv⟩ : ∃ x, w.heap.size = x := ⟨_, rfl⟩
  rw [hgv] at hk0 hgl hs0 ⊢
  have hgw : w.heap.size ≤ gv := by omega
  have HB0 := Lib.hid hb0
  have HK0 := Lib.hid hk0
  have HN := Lib.hid (show numberL (S.drop p) = (numR (S.drop p)).bind fun _ r' => .ok ((S.drop p).take ((S.drop p).length - r'.length)) r' from rfl)
  have HM := Lib.hid (jnext_any g S p d o 45 45 w0 hr0 hl (by decide) rfl)
  clear hw0 hgv hr0 hb0 hk0 hp1 hp10
  refine HM.out.mono ?_
  rintro e w1 ⟨b1, q1, rfl, hx1, HR1, HB1⟩
  have HQ1 := Lib.hid (hx1.out.skip (by decide))
  clear HM hx1
  have HM2 := Lib.hid (jnext_any g S q1 d o 48 48 w1 HR1.out hl (by decide) rfl)
  go_wp2_with fail
  refine HM2.out.mono ?_
  rintro e w2 ⟨b2, q2, rfl, hx2, HR2, hb2⟩
  have HB2 := Lib.hid (HB1.out.trans hb2.out)
  clear HM2 HR1 hb2
  go_upto_if 12 with (fail)
  go_cut [] (fun wc => ∃ q : Nat, Hid (numR (S.drop p) = numFrac (S.drop q)) ∧ Hid (Rdr wc g S q d o) ∧ Hid (But g w0 wc))
  case first =>
    cases b2 with
    | true =>
      have HX : Hid (numR (S.drop p) = numFrac (S.drop q2)) := Lib.hid (by
        unfold numR
        rw [HQ1.out, if_pos (hx2.out.yes (by decide)).1, (hx2.out.yes (by decide)).2])
      go_wp2_with fail
      go_meet
      exact ⟨q2, HX, HR2, HB2⟩
    | false =>
      obtain rfl : q2 = q1 := (hx2.out.no (by decide)).2
      have HX : Hid (numR (S.drop p) = (digitsL (S.drop q2)).bind fun _ r => numFrac r) := Lib.hid (by
        unfold numR
        rw [HQ1.out, if_neg (hx2.out.no (by decide)).1])
      have HD := Lib.hid (jdigits_h g S q2 d o w2 HR2.out hl)
      go_wp2_with fail
      refine HD.out.mono ?_
      rintro e w3 ⟨hb3, hres⟩
      have HB3 := Lib.hid (HB2.out.trans hb3.out)
      clear HD
      rcases hres with ⟨q3, hm, rfl, hr3⟩ | ⟨n, a, hm, rfl⟩
      · have HX3 : Hid (numR (S.drop p) = numFrac (S.drop q3)) := Lib.hid (by rw [HX.out, hm.out]; rfl)
        go_wp2_with fail
        go_meet
        exact ⟨q3, HX3, hr3, HB3⟩
      · have HE : Hid (numberL (S.drop p) = .bad n) := Lib.hid (by rw [HN.out, HX.out, hm.out]; rfl)
        have HBB := Lib.hid (HB0.out.trans HB3.out)
        go_wp2_with fail
        exact ⟨rfl, HBB.out, .inr ⟨n, a, HE.out, rfl⟩⟩
  case rest =>
    obtain ⟨q3, HX3, HR3, HB3⟩ := hcut
    clear HR2 HB2 hx2 HB1 HQ1
    have HM := Lib.hid (jnext_any g S q3 d o 46 46 wc HR3.out hl (by decide) rfl)
    go_wp2_with fail
    refine HM.out.mono ?_
    rintro e w4 ⟨b4, q4, rfl, hx4, HR4, hb4⟩
    have HB4 := Lib.hid (HB3.out.trans hb4.out)
    clear HM HR3 hb4
    go_upto_if 16 with (fail)
    go_cut [] (fun wc => ∃ q : Nat, Hid (numR (S.drop p) = numTail (S.drop q)) ∧ Hid (Rdr wc g S q d o) ∧ Hid (But g w0 wc))
    case first =>
      cases b4 with
      | false =>
        obtain rfl : q4 = q3 := (hx4.out.no (by decide)).2
        have HX : Hid (numR (S.drop p) = numTail (S.drop q4)) := Lib.hid (by
          rw [HX3.out]
          unfold numFrac
          rw [if_neg (hx4.out.no (by decide)).1])
        go_wp2_with fail
        go_meet
        exact ⟨q4, HX, HR4, HB4⟩
      | true =>
        have HX : Hid (numR (S.drop p) = (digitsL (S.drop q4)).bind fun _ r => numTail r) := Lib.hid (by
          rw [HX3.out]
          unfold numFrac
          rw [if_pos (hx4.out.yes (by decide)).1, (hx4.out.yes (by decide)).2])
        have HD := Lib.hid (jdigits_h g S q4 d o w4 HR4.out hl)
        go_wp2_with fail
        refine HD.out.mono ?_
        rintro e w5 ⟨hb5, hres⟩
        have HB5 := Lib.hid (HB4.out.trans hb5.out)
        clear HD
        rcases hres with ⟨q5, hm, rfl, hr5⟩ | ⟨n, a, hm, rfl⟩
        · have HX5 : Hid (numR (S.drop p) = numTail (S.drop q5)) := Lib.hid (by rw [HX.out, hm.out]; rfl)
          go_wp2_with fail
          go_meet
          exact ⟨q5, HX5, hr5, HB5⟩
        · have HE : Hid (numberL (S.drop p) = .bad n) := Lib.hid (by rw [HN.out, HX.out, hm.out]; rfl)
          have HBB := Lib.hid (HB0.out.trans HB5.out)
          go_wp2_with fail
          exact ⟨rfl, HBB.out, .inr ⟨n, a, HE.out, rfl⟩⟩
    case rest =>
      obtain ⟨q5, HX5, HR5, HB5⟩ := hcut
      clear HR4 HB4 hx4 HB3 HX3
      have HM := Lib.hid (jnext_any g S q5 d o 101 101 wc HR5.out hl (by decide) rfl)
      go_wp2_with fail
      refine HM.out.mono ?_
      rintro e w6 ⟨b6, q6, rfl, hx6, HR6, hb6⟩
      have HB6 := Lib.hid (HB5.out.trans hb6.out)
      clear HM HR5 hb6
      have HNT := Lib.hid (show numTail (S.drop q5) = if (S.drop q5).head? = some 101 ∨ (S.drop q5).head? = some 69 then digitsL (if (S.drop q5).tail.head? = some 43 then (S.drop q5).tail.tail else skipL 45 (S.drop q5).tail) else .ok () (S.drop q5) from rfl)
      cases b6 with
      | true =>
        have HT : Hid (numR (S.drop p) = digitsL (if (S.drop q6).head? = some 43 then (S.drop q6).tail else skipL 45 (S.drop q6))) := Lib.hid (by rw [HX5.out, HNT.out, if_pos (.inl (hx6.out.yes (by decide)).1), (hx6.out.yes (by decide)).2])
        have HM8 := Lib.hid (jnext_any g S q6 d o 43 43 w6 HR6.out hl (by decide) rfl)
        go_wp2_with fail
        refine HM8.out.mono ?_
        rintro e w8 ⟨b8, q8, rfl, hx8, HR8, hb8⟩
        have HB8 := Lib.hid (HB6.out.trans hb8.out)
        clear HM8 hb8
        cases b8 with
        | true =>
          have HT8 : Hid (numR (S.drop p) = digitsL (S.drop q8)) := Lib.hid (by rw [HT.out, if_pos (hx8.out.yes (by decide)).1, (hx8.out.yes (by decide)).2])
          have HD := Lib.hid (jdigits_h g S q8 d o w8 HR8.out hl)
          go_wp2_with fail
          refine HD.out.mono ?_
          rintro e wx ⟨hbx, hres⟩
          have HBX := Lib.hid (HB8.out.trans hbx.out)
          clear HD
          rcases hres with ⟨qx, hm, rfl, hrx⟩ | ⟨n, a, hm, rfl⟩
          · have HZ : Hid (numR (S.drop p) = .ok () (S.drop qx)) := Lib.hid (by rw [HT8.out, hm.out])
            obtain ⟨qz, hqz⟩ : ∃ x, qx = x := ⟨_, rfl⟩
            obtain ⟨wz, hwz⟩ : ∃ x, wx = x := ⟨_, rfl⟩
            have HRZ := hrx
            have HBZ := HBX
            rw [hqz] at HZ HRZ
            rw [hwz] at HRZ HBZ ⊢
            clear hqz hwz
            have hzl := HRZ.out.le
            have hpz := num_le hple hzl HZ.out
            have HV : Hid (numberL (S.drop p) = .ok ((S.drop p).take (qz - p)) (S.drop qz)) := Lib.hid (by
              rw [HN.out, HZ.out, PR.bind_ok]
              congr 2
              simp only [List.length_drop]
              omega)
            clear HZ
            have hz0 := HRZ.out.c0
            have hz1 := HRZ.out.c1
            have hsl := str_mid2 S p qz hpz hzl
            have HBZ2 := Lib.hid (HB0.out.trans HBZ.out)
            have HKZ : Hid (wz.heap[gv]? = some (.cells #[.int .i64 0, .bool false, .string ⟨#[]⟩, .slice none 0 0, .slice none 0 0] 28 (0, 0))) := Lib.hid ((HBZ.out.block gv hs0 (by omega)).trans HK0.out)
            go_upto_region 11 with (fail)
            go_still_tail 11, (by kernel_rfl)
            change wpList _ _ _ _ _ wz.drew
            have HRY := Lib.hid (show Rdr wz.drew g S qz d o from ⟨HRZ.out.heap, HRZ.out.le⟩)
            have HBY := Lib.hid (show But g w wz.drew from ⟨HBZ2.out.os, HBZ2.out.tape, HBZ2.out.output, HBZ2.out.size, HBZ2.out.block⟩)
            have HKY := Lib.hid (show wz.drew.heap[gv]? = some (.cells #[.int .i64 0, .bool false, .string ⟨#[]⟩, .slice none 0 0, .slice none 0 0] 28 (0, 0)) from HKZ.out)
            generalize wz.drew = wy at *
            have d0 : wy.cell? ⟨gv, 0, none⟩ = some (.int .i64 0) := by rw [Lib.cell_of_heap HKY.out]; rfl
            have d1 : wy.cell? ⟨gv, 1, none⟩ = some (.bool false) := by rw [Lib.cell_of_heap HKY.out]; rfl
            have d2 : wy.cell? ⟨gv, 2, none⟩ = some (.string ⟨#[]⟩) := by rw [Lib.cell_of_heap HKY.out]; rfl
            have d3 : wy.cell? ⟨gv, 3, none⟩ = some (.slice none 0 0) := by rw [Lib.cell_of_heap HKY.out]; rfl
            have d4 : wy.cell? ⟨gv, 4, none⟩ = some (.slice none 0 0) := by rw [Lib.cell_of_heap HKY.out]; rfl
            have f0 := Lib.frozen_of_heap HKY.out 0
            have f1 := Lib.frozen_of_heap HKY.out 1
            have f2 := Lib.frozen_of_heap HKY.out 2
            have f3 := Lib.frozen_of_heap HKY.out 3
            have f4 := Lib.frozen_of_heap HKY.out 4
            clear hz0 hz1 hsl
            go_wp2_with fail
            have hst := value_stored HKY.out (.int .i64 3) (.bool false) (.string ⟨((S.drop p).take (qz - p)).toArray⟩) (.slice none 0 0) (.slice none 0 0)
            have HRE := Lib.hid (HRY.out.stored (gv := gv) (by omega) (.int .i64 3) (.bool false) (.string ⟨((S.drop p).take (qz - p)).toArray⟩) (.slice none 0 0) (.slice none 0 0))
            have HBE := Lib.hid (but_stored HBY.out hgw (.int .i64 3) (.bool false) (.string ⟨((S.drop p).take (qz - p)).toArray⟩) (.slice none 0 0) (.slice none 0 0))
            have e0 := Lib.cell_of_heap hst 0
            have e1 := Lib.cell_of_heap hst 1
            have e2 := Lib.cell_of_heap hst 2
            have e3 := Lib.cell_of_heap hst 3
            have e4 := Lib.cell_of_heap hst 4
            simp only [List.getElem?_toArray] at e0 e1 e2 e3 e4
            refine bodyPost_ret (v := leafV 3 false ((S.drop p).take (qz - p))) (by simp [leafV, results, Try.results27, go_sem, e0, e1, e2, e3, e4]) rfl ?_
            exact ⟨HBE.out, .inl ⟨_, _, HV.out, rfl, HRE.out⟩⟩
          · have HE : Hid (numberL (S.drop p) = .bad n) := Lib.hid (by rw [HN.out, HT8.out, hm.out]; rfl)
            have HBB := Lib.hid (HB0.out.trans HBX.out)
            go_wp2_with fail
            exact ⟨rfl, HBB.out, .inr ⟨n, a, HE.out, rfl⟩⟩
        | false =>
          obtain rfl : q8 = q6 := (hx8.out.no (by decide)).2
          have HM9 := Lib.hid (jnext_any g S q8 d o 45 45 w8 HR8.out hl (by decide) rfl)
          go_wp2_with fail
          refine HM9.out.mono ?_
          rintro e w9 ⟨b9, q9, rfl, hx9, HR9, hb9⟩
          have HB9 := Lib.hid (HB8.out.trans hb9.out)
          have HT8 : Hid (numR (S.drop p) = digitsL (S.drop q9)) := Lib.hid (by rw [HT.out, if_neg (hx8.out.no (by decide)).1, hx9.out.skip (by decide)])
          have HD := Lib.hid (jdigits_h g S q9 d o w9 HR9.out hl)
          clear HM9 hb9
          go_wp2_with fail
          refine HD.out.mono ?_
          rintro e wx ⟨hbx, hres⟩
          have HBX := Lib.hid (HB9.out.trans hbx.out)
          clear HD
          rcases hres with ⟨qx, hm, rfl, hrx⟩ | ⟨n, a, hm, rfl⟩
          · have HZ : Hid (numR (S.drop p) = .ok () (S.drop qx)) := Lib.hid (by rw [HT8.out, hm.out])
            obtain ⟨qz, hqz⟩ : ∃ x, qx = x := ⟨_, rfl⟩
            obtain ⟨wz, hwz⟩ : ∃ x, wx = x := ⟨_, rfl⟩
            have HRZ := hrx
            have HBZ := HBX
            rw [hqz] at HZ HRZ
            rw [hwz] at HRZ HBZ ⊢
            clear hqz hwz
            have hzl := HRZ.out.le
            have hpz := num_le hple hzl HZ.out
            have HV : Hid (numberL (S.drop p) = .ok ((S.drop p).take (qz - p)) (S.drop qz)) := Lib.hid (by
              rw [HN.out, HZ.out, PR.bind_ok]
              congr 2
              simp only [List.length_drop]
              omega)
            clear HZ
            have hz0 := HRZ.out.c0
            have hz1 := HRZ.out.c1
            have hsl := str_mid2 S p qz hpz hzl
            have HBZ2 := Lib.hid (HB0.out.trans HBZ.out)
            have HKZ : Hid (wz.heap[gv]? = some (.cells #[.int .i64 0, .bool false, .string ⟨#[]⟩, .slice none 0 0, .slice none 0 0] 28 (0, 0))) := Lib.hid ((HBZ.out.block gv hs0 (by omega)).trans HK0.out)
            go_upto_region 11 with (fail)
            go_still_tail 11, (by kernel_rfl)
            change wpList _ _ _ _ _ wz.drew
            have HRY := Lib.hid (show Rdr wz.drew g S qz d o from ⟨HRZ.out.heap, HRZ.out.le⟩)
            have HBY := Lib.hid (show But g w wz.drew from ⟨HBZ2.out.os, HBZ2.out.tape, HBZ2.out.output, HBZ2.out.size, HBZ2.out.block⟩)
            have HKY := Lib.hid (show wz.drew.heap[gv]? = some (.cells #[.int .i64 0, .bool false, .string ⟨#[]⟩, .slice none 0 0, .slice none 0 0] 28 (0, 0)) from HKZ.out)
            generalize wz.drew = wy at *
            have d0 : wy.cell? ⟨gv, 0, none⟩ = some (.int .i64 0) := by rw [Lib.cell_of_heap HKY.out]; rfl
            have d1 : wy.cell? ⟨gv, 1, none⟩ = some (.bool false) := by rw [Lib.cell_of_heap HKY.out]; rfl
            have d2 : wy.cell? ⟨gv, 2, none⟩ = some (.string ⟨#[]⟩) := by rw [Lib.cell_of_heap HKY.out]; rfl
            have d3 : wy.cell? ⟨gv, 3, none⟩ = some (.slice none 0 0) := by rw [Lib.cell_of_heap HKY.out]; rfl
            have d4 : wy.cell? ⟨gv, 4, none⟩ = some (.slice none 0 0) := by rw [Lib.cell_of_heap HKY.out]; rfl
            have f0 := Lib.frozen_of_heap HKY.out 0
            have f1 := Lib.frozen_of_heap HKY.out 1
            have f2 := Lib.frozen_of_heap HKY.out 2
            have f3 := Lib.frozen_of_heap HKY.out 3
            have f4 := Lib.frozen_of_heap HKY.out 4
            clear hz0 hz1 hsl
            go_wp2_with fail
            have hst := value_stored HKY.out (.int .i64 3) (.bool false) (.string ⟨((S.drop p).take (qz - p)).toArray⟩) (.slice none 0 0) (.slice none 0 0)
            have HRE := Lib.hid (HRY.out.stored (gv := gv) (by omega) (.int .i64 3) (.bool false) (.string ⟨((S.drop p).take (qz - p)).toArray⟩) (.slice none 0 0) (.slice none 0 0))
            have HBE := Lib.hid (but_stored HBY.out hgw (.int .i64 3) (.bool false) (.string ⟨((S.drop p).take (qz - p)).toArray⟩) (.slice none 0 0) (.slice none 0 0))
            have e0 := Lib.cell_of_heap hst 0
            have e1 := Lib.cell_of_heap hst 1
            have e2 := Lib.cell_of_heap hst 2
            have e3 := Lib.cell_of_heap hst 3
            have e4 := Lib.cell_of_heap hst 4
            simp only [List.getElem?_toArray] at e0 e1 e2 e3 e4
            refine bodyPost_ret (v := leafV 3 false ((S.drop p).take (qz - p))) (by simp [leafV, results, Try.results27, go_sem, e0, e1, e2, e3, e4]) rfl ?_
            exact ⟨HBE.out, .inl ⟨_, _, HV.out, rfl, HRE.out⟩⟩
          · have HE : Hid (numberL (S.drop p) = .bad n) := Lib.hid (by rw [HN.out, HT8.out, hm.out]; rfl)
            have HBB := Lib.hid (HB0.out.trans HBX.out)
            go_wp2_with fail
            exact ⟨rfl, HBB.out, .inr ⟨n, a, HE.out, rfl⟩⟩
      | false =>
        obtain rfl : q6 = q5 := (hx6.out.no (by decide)).2
        have HM := Lib.hid (jnext_any g S q6 d o 69 69 w6 HR6.out hl (by decide) rfl)
        go_wp2_with fail
        refine HM.out.mono ?_
        rintro e w7 ⟨b7, q7, rfl, hx7, HR7, hb7⟩
        have HB7 := Lib.hid (HB6.out.trans hb7.out)
        clear HM HR6 hb7
        cases b7 with
        | true =>
          have HT : Hid (numR (S.drop p) = digitsL (if (S.drop q7).head? = some 43 then (S.drop q7).tail else skipL 45 (S.drop q7))) := Lib.hid (by rw [HX5.out, HNT.out, if_pos (.inr (hx7.out.yes (by decide)).1), (hx7.out.yes (by decide)).2])
          have HM8 := Lib.hid (jnext_any g S q7 d o 43 43 w7 HR7.out hl (by decide) rfl)
          go_wp2_with fail
          refine HM8.out.mono ?_
          rintro e w8 ⟨b8, q8, rfl, hx8, HR8, hb8⟩
          have HB8 := Lib.hid (HB7.out.trans hb8.out)
          clear HM8 hb8
          cases b8 with
          | true =>
            have HT8 : Hid (numR (S.drop p) = digitsL (S.drop q8)) := Lib.hid (by rw [HT.out, if_pos (hx8.out.yes (by decide)).1, (hx8.out.yes (by decide)).2])
            have HD := Lib.hid (jdigits_h g S q8 d o w8 HR8.out hl)
            go_wp2_with fail
            refine HD.out.mono ?_
            rintro e wx ⟨hbx, hres⟩
            have HBX := Lib.hid (HB8.out.trans hbx.out)
            clear HD
            rcases hres with ⟨qx, hm, rfl, hrx⟩ | ⟨n, a, hm, rfl⟩
            · have HZ : Hid (numR (S.drop p) = .ok () (S.drop qx)) := Lib.hid (by rw [HT8.out, hm.out])
              obtain ⟨qz, hqz⟩ : ∃ x, qx = x := ⟨_, rfl⟩
              obtain ⟨wz, hwz⟩ : ∃ x, wx = x := ⟨_, rfl⟩
              have HRZ := hrx
              have HBZ := HBX
              rw [hqz] at HZ HRZ
              rw [hwz] at HRZ HBZ ⊢
              clear hqz hwz
              have hzl := HRZ.out.le
              have hpz := num_le hple hzl HZ.out
              have HV : Hid (numberL (S.drop p) = .ok ((S.drop p).take (qz - p)) (S.drop qz)) := Lib.hid (by
                rw [HN.out, HZ.out, PR.bind_ok]
                congr 2
                simp only [List.length_drop]
                omega)
              clear HZ
              have hz0 := HRZ.out.c0
              have hz1 := HRZ.out.c1
              have hsl := str_mid2 S p qz hpz hzl
              have HBZ2 := Lib.hid (HB0.out.trans HBZ.out)
              have HKZ : Hid (wz.heap[gv]? = some (.cells #[.int .i64 0, .bool false, .string ⟨#[]⟩, .slice none 0 0, .slice none 0 0] 28 (0, 0))) := Lib.hid ((HBZ.out.block gv hs0 (by omega)).trans HK0.out)
              go_upto_region 11 with (fail)
              go_still_tail 11, (by kernel_rfl)
              change wpList _ _ _ _ _ wz.drew
              have HRY := Lib.hid (show Rdr wz.drew g S qz d o from ⟨HRZ.out.heap, HRZ.out.le⟩)
              have HBY := Lib.hid (show But g w wz.drew from ⟨HBZ2.out.os, HBZ2.out.tape, HBZ2.out.output, HBZ2.out.size, HBZ2.out.block⟩)
              have HKY := Lib.hid (show wz.drew.heap[gv]? = some (.cells #[.int .i64 0, .bool false, .string ⟨#[]⟩, .slice none 0 0, .slice none 0 0] 28 (0, 0)) from HKZ.out)
              generalize wz.drew = wy at *
              have d0 : wy.cell? ⟨gv, 0, none⟩ = some (.int .i64 0) := by rw [Lib.cell_of_heap HKY.out]; rfl
              have d1 : wy.cell? ⟨gv, 1, none⟩ = some (.bool false) := by rw [Lib.cell_of_heap HKY.out]; rfl
              have d2 : wy.cell? ⟨gv, 2, none⟩ = some (.string ⟨#[]⟩) := by rw [Lib.cell_of_heap HKY.out]; rfl
              have d3 : wy.cell? ⟨gv, 3, none⟩ = some (.slice none 0 0) := by rw [Lib.cell_of_heap HKY.out]; rfl
              have d4 : wy.cell? ⟨gv, 4, none⟩ = some (.slice none 0 0) := by rw [Lib.cell_of_heap HKY.out]; rfl
              have f0 := Lib.frozen_of_heap HKY.out 0
              have f1 := Lib.frozen_of_heap HKY.out 1
              have f2 := Lib.frozen_of_heap HKY.out 2
              have f3 := Lib.frozen_of_heap HKY.out 3
              have f4 := Lib.frozen_of_heap HKY.out 4
              clear hz0 hz1 hsl
              go_wp2_with fail
              have hst := value_stored HKY.out (.int .i64 3) (.bool false) (.string ⟨((S.drop p).take (qz - p)).toArray⟩) (.slice none 0 0) (.slice none 0 0)
              have HRE := Lib.hid (HRY.out.stored (gv := gv) (by omega) (.int .i64 3) (.bool false) (.string ⟨((S.drop p).take (qz - p)).toArray⟩) (.slice none 0 0) (.slice none 0 0))
              have HBE := Lib.hid (but_stored HBY.out hgw (.int .i64 3) (.bool false) (.string ⟨((S.drop p).take (qz - p)).toArray⟩) (.slice none 0 0) (.slice none 0 0))
              have e0 := Lib.cell_of_heap hst 0
              have e1 := Lib.cell_of_heap hst 1
              have e2 := Lib.cell_of_heap hst 2
              have e3 := Lib.cell_of_heap hst 3
              have e4 := Lib.cell_of_heap hst 4
              simp only [List.getElem?_toArray] at e0 e1 e2 e3 e4
              refine bodyPost_ret (v := leafV 3 false ((S.drop p).take (qz - p))) (by simp [leafV, results, Try.results27, go_sem, e0, e1, e2, e3, e4]) rfl ?_
              exact ⟨HBE.out, .inl ⟨_, _, HV.out, rfl, HRE.out⟩⟩
            · have HE : Hid (numberL (S.drop p) = .bad n) := Lib.hid (by rw [HN.out, HT8.out, hm.out]; rfl)
              have HBB := Lib.hid (HB0.out.trans HBX.out)
              go_wp2_with fail
              exact ⟨rfl, HBB.out, .inr ⟨n, a, HE.out, rfl⟩⟩
          | false =>
            obtain rfl : q8 = q7 := (hx8.out.no (by decide)).2
            have HM9 := Lib.hid (jnext_any g S q8 d o 45 45 w8 HR8.out hl (by decide) rfl)
            go_wp2_with fail
            refine HM9.out.mono ?_
            rintro e w9 ⟨b9, q9, rfl, hx9, HR9, hb9⟩
            have HB9 := Lib.hid (HB8.out.trans hb9.out)
            have HT8 : Hid (numR (S.drop p) = digitsL (S.drop q9)) := Lib.hid (by rw [HT.out, if_neg (hx8.out.no (by decide)).1, hx9.out.skip (by decide)])
            have HD := Lib.hid (jdigits_h g S q9 d o w9 HR9.out hl)
            clear HM9 hb9
            go_wp2_with fail
            refine HD.out.mono ?_
            rintro e wx ⟨hbx, hres⟩
            have HBX := Lib.hid (HB9.out.trans hbx.out)
            clear HD
            rcases hres with ⟨qx, hm, rfl, hrx⟩ | ⟨n, a, hm, rfl⟩
            · have HZ : Hid (numR (S.drop p) = .ok () (S.drop qx)) := Lib.hid (by rw [HT8.out, hm.out])
              obtain ⟨qz, hqz⟩ : ∃ x, qx = x := ⟨_, rfl⟩
              obtain ⟨wz, hwz⟩ : ∃ x, wx = x := ⟨_, rfl⟩
              have HRZ := hrx
              have HBZ := HBX
              rw [hqz] at HZ HRZ
              rw [hwz] at HRZ HBZ ⊢
              clear hqz hwz
              have hzl := HRZ.out.le
              have hpz := num_le hple hzl HZ.out
              have HV : Hid (numberL (S.drop p) = .ok ((S.drop p).take (qz - p)) (S.drop qz)) := Lib.hid (by
                rw [HN.out, HZ.out, PR.bind_ok]
                congr 2
                simp only [List.length_drop]
                omega)
              clear HZ
              have hz0 := HRZ.out.c0
              have hz1 := HRZ.out.c1
              have hsl := str_mid2 S p qz hpz hzl
              have HBZ2 := Lib.hid (HB0.out.trans HBZ.out)
              have HKZ : Hid (wz.heap[gv]? = some (.cells #[.int .i64 0, .bool false, .string ⟨#[]⟩, .slice none 0 0, .slice none 0 0] 28 (0, 0))) := Lib.hid ((HBZ.out.block gv hs0 (by omega)).trans HK0.out)
              go_upto_region 11 with (fail)
              go_still_tail 11, (by kernel_rfl)
              change wpList _ _ _ _ _ wz.drew
              have HRY := Lib.hid (show Rdr wz.drew g S qz d o from ⟨HRZ.out.heap, HRZ.out.le⟩)
              have HBY := Lib.hid (show But g w wz.drew from ⟨HBZ2.out.os, HBZ2.out.tape, HBZ2.out.output, HBZ2.out.size, HBZ2.out.block⟩)
              have HKY := Lib.hid (show wz.drew.heap[gv]? = some (.cells #[.int .i64 0, .bool false, .string ⟨#[]⟩, .slice none 0 0, .slice none 0 0] 28 (0, 0)) from HKZ.out)
              generalize wz.drew = wy at *
              have d0 : wy.cell? ⟨gv, 0, none⟩ = some (.int .i64 0) := by rw [Lib.cell_of_heap HKY.out]; rfl
              have d1 : wy.cell? ⟨gv, 1, none⟩ = some (.bool false) := by rw [Lib.cell_of_heap HKY.out]; rfl
              have d2 : wy.cell? ⟨gv, 2, none⟩ = some (.string ⟨#[]⟩) := by rw [Lib.cell_of_heap HKY.out]; rfl
              have d3 : wy.cell? ⟨gv, 3, none⟩ = some (.slice none 0 0) := by rw [Lib.cell_of_heap HKY.out]; rfl
              have d4 : wy.cell? ⟨gv, 4, none⟩ = some (.slice none 0 0) := by rw [Lib.cell_of_heap HKY.out]; rfl
              have f0 := Lib.frozen_of_heap HKY.out 0
              have f1 := Lib.frozen_of_heap HKY.out 1
              have f2 := Lib.frozen_of_heap HKY.out 2
              have f3 := Lib.frozen_of_heap HKY.out 3
              have f4 := Lib.frozen_of_heap HKY.out 4
              clear hz0 hz1 hsl
              go_wp2_with fail
              have hst := value_stored HKY.out (.int .i64 3) (.bool false) (.string ⟨((S.drop p).take (qz - p)).toArray⟩) (.slice none 0 0) (.slice none 0 0)
              have HRE := Lib.hid (HRY.out.stored (gv := gv) (by omega) (.int .i64 3) (.bool false) (.string ⟨((S.drop p).take (qz - p)).toArray⟩) (.slice none 0 0) (.slice none 0 0))
              have HBE := Lib.hid (but_stored HBY.out hgw (.int .i64 3) (.bool false) (.string ⟨((S.drop p).take (qz - p)).toArray⟩) (.slice none 0 0) (.slice none 0 0))
              have e0 := Lib.cell_of_heap hst 0
              have e1 := Lib.cell_of_heap hst 1
              have e2 := Lib.cell_of_heap hst 2
              have e3 := Lib.cell_of_heap hst 3
              have e4 := Lib.cell_of_heap hst 4
              simp only [List.getElem?_toArray] at e0 e1 e2 e3 e4
              refine bodyPost_ret (v := leafV 3 false ((S.drop p).take (qz - p))) (by simp [leafV, results, Try.results27, go_sem, e0, e1, e2, e3, e4]) rfl ?_
              exact ⟨HBE.out, .inl ⟨_, _, HV.out, rfl, HRE.out⟩⟩
            · have HE : Hid (numberL (S.drop p) = .bad n) := Lib.hid (by rw [HN.out, HT8.out, hm.out]; rfl)
              have HBB := Lib.hid (HB0.out.trans HBX.out)
              go_wp2_with fail
              exact ⟨rfl, HBB.out, .inr ⟨n, a, HE.out, rfl⟩⟩
        | false =>
          obtain rfl : q7 = q6 := (hx7.out.no (by decide)).2
          have HZ : Hid (numR (S.drop p) = .ok () (S.drop q7)) := Lib.hid (by
            rw [HX5.out, HNT.out, if_neg]
            rintro (h | h)
            · exact (hx6.out.no (by decide)).1 h
            · exact (hx7.out.no (by decide)).1 h)
          obtain ⟨qz, hqz⟩ : ∃ x, q7 = x := ⟨_, rfl⟩
          obtain ⟨wz, hwz⟩ : ∃ x, w7 = x := ⟨_, rfl⟩
          have HRZ := HR7
          have HBZ := HB7
          rw [hqz] at HZ HRZ
          rw [hwz] at HRZ HBZ ⊢
          clear hqz hwz
          have hzl := HRZ.out.le
          have hpz := num_le hple hzl HZ.out
          have HV : Hid (numberL (S.drop p) = .ok ((S.drop p).take (qz - p)) (S.drop qz)) := Lib.hid (by
            rw [HN.out, HZ.out, PR.bind_ok]
            congr 2
            simp only [List.length_drop]
            omega)
          clear HZ
          have hz0 := HRZ.out.c0
          have hz1 := HRZ.out.c1
          have hsl := str_mid2 S p qz hpz hzl
          have HBZ2 := Lib.hid (HB0.out.trans HBZ.out)
          have HKZ : Hid (wz.heap[gv]? = some (.cells #[.int .i64 0, .bool false, .string ⟨#[]⟩, .slice none 0 0, .slice none 0 0] 28 (0, 0))) := Lib.hid ((HBZ.out.block gv hs0 (by omega)).trans HK0.out)
          go_upto_region 11 with (fail)
          go_still_tail 11, (by kernel_rfl)
          change wpList _ _ _ _ _ wz.drew
          have HRY := Lib.hid (show Rdr wz.drew g S qz d o from ⟨HRZ.out.heap, HRZ.out.le⟩)
          have HBY := Lib.hid (show But g w wz.drew from ⟨HBZ2.out.os, HBZ2.out.tape, HBZ2.out.output, HBZ2.out.size, HBZ2.out.block⟩)
          have HKY := Lib.hid (show wz.drew.heap[gv]? = some (.cells #[.int .i64 0, .bool false, .string ⟨#[]⟩, .slice none 0 0, .slice none 0 0] 28 (0, 0)) from HKZ.out)
          generalize wz.drew = wy at *
          have d0 : wy.cell? ⟨gv, 0, none⟩ = some (.int .i64 0) := by rw [Lib.cell_of_heap HKY.out]; rfl
          have d1 : wy.cell? ⟨gv, 1, none⟩ = some (.bool false) := by rw [Lib.cell_of_heap HKY.out]; rfl
          have d2 : wy.cell? ⟨gv, 2, none⟩ = some (.string ⟨#[]⟩) := by rw [Lib.cell_of_heap HKY.out]; rfl
          have d3 : wy.cell? ⟨gv, 3, none⟩ = some (.slice none 0 0) := by rw [Lib.cell_of_heap HKY.out]; rfl
          have d4 : wy.cell? ⟨gv, 4, none⟩ = some (.slice none 0 0) := by rw [Lib.cell_of_heap HKY.out]; rfl
          have f0 := Lib.frozen_of_heap HKY.out 0
          have f1 := Lib.frozen_of_heap HKY.out 1
          have f2 := Lib.frozen_of_heap HKY.out 2
          have f3 := Lib.frozen_of_heap HKY.out 3
          have f4 := Lib.frozen_of_heap HKY.out 4
          clear hz0 hz1 hsl
          go_wp2_with fail
          have hst := value_stored HKY.out (.int .i64 3) (.bool false) (.string ⟨((S.drop p).take (qz - p)).toArray⟩) (.slice none 0 0) (.slice none 0 0)
          have HRE := Lib.hid (HRY.out.stored (gv := gv) (by omega) (.int .i64 3) (.bool false) (.string ⟨((S.drop p).take (qz - p)).toArray⟩) (.slice none 0 0) (.slice none 0 0))
          have HBE := Lib.hid (but_stored HBY.out hgw (.int .i64 3) (.bool false) (.string ⟨((S.drop p).take (qz - p)).toArray⟩) (.slice none 0 0) (.slice none 0 0))
          have e0 := Lib.cell_of_heap hst 0
          have e1 := Lib.cell_of_heap hst 1
          have e2 := Lib.cell_of_heap hst 2
          have e3 := Lib.cell_of_heap hst 3
          have e4 := Lib.cell_of_heap hst 4
          simp only [List.getElem?_toArray] at e0 e1 e2 e3 e4
          refine bodyPost_ret (v := leafV 3 false ((S.drop p).take (qz - p))) (by simp [leafV, results, Try.results27, go_sem, e0, e1, e2, e3, e4]) rfl ?_
          exact ⟨HBE.out, .inl ⟨_, _, HV.out, rfl, HRE.out⟩⟩
end Go.Proofs.Ytfcokdkbjajohaa
/- json's reader: escapes. -/
set_option linter.unusedVariables false
namespace Go.Proofs.Ytfcokdkbjajohaa
open Go.RowKit

/-- Below B all is as it was, but block g. -/
structure ButB (B g : Nat) (w w' : World) : Prop where
  os : w'.os = w.os
  tape : w'.tape = w.tape
  output : w'.output = w.output
  size : w.heap.size ≤ w'.heap.size
  block : ∀ k, k < B → k ≠ g → w'.heap[k]? = w.heap[k]?
theorem ButB.refl (B g : Nat) (w : World) : ButB B g w w := ⟨rfl, rfl, rfl, Nat.le_refl _, fun _ _ _ => rfl⟩
theorem ButB.trans {B g : Nat} {a b c : World} (h : ButB B g a b) (k : ButB B g b c) : ButB B g a c :=
  ⟨k.os.trans h.os, k.tape.trans h.tape, k.output.trans h.output, Nat.le_trans h.size k.size, fun i hi hg => (k.block i hi hg).trans (h.block i hi hg)⟩
theorem But.b {B g : Nat} {w w' : World} (h : But g w w') (hB : B ≤ w.heap.size) : ButB B g w w' := ⟨h.os, h.tape, h.output, h.size, fun k hk hg => h.block k (by omega) hg⟩
theorem ButB.but {g : Nat} {w w' : World} (h : ButB w.heap.size g w w') : But g w w' := ⟨h.os, h.tape, h.output, h.size, h.block⟩
theorem ButB.of_below {B g : Nat} {w w' : World} (h : Below B w w') : ButB B g w w' := ⟨h.os, h.tape, h.output, h.size, fun k hk _ => h.block k hk⟩
theorem Own.butg {B g : Nat} {w w' : World} {v : Value} {l : List UInt8} (h : Own B w v l) (hb : But g w w') (hg : g < B) : Own B w' v l := by
  refine World.ownsRow.kept (row := some g) h ⟨hb.os, hb.tape, hb.output, hb.size, fun k hk hne => hb.block k hk (fun e => hne (by rw [e]))⟩ ?_
  rcases h.2 with ⟨rfl, _⟩ | ⟨g', cap, cur, rfl, hB, _, _⟩
  · exact .inl rfl
  · refine .inr ?_
    simp only [Value.ownBlock, ne_eq, Option.some.injEq]
    omega
theorem Rdr.belowB {B : Nat} {w w' : World} {g : Nat} {S : List UInt8} {p d o : Nat} (h : Rdr w g S p d o) (hb : Below B w w') (hg : g < B) : Rdr w' g S p d o := ⟨(hb.block g hg).trans h.heap, h.le⟩
def escNames : List UInt8 := [98, 102, 110, 114, 116, 34, 92]
def escMeans : List UInt8 := [8, 12, 10, 13, 9, 34, 92]
theorem esc_tab (c : UInt8) : (0 ≤ Lib.indexByte escNames c ∧ (Lib.indexByte escNames c).toNat < 7 ∧ c ≠ 0 ∧ shortV c = some (escMeans.getD (Lib.indexByte escNames c).toNat 0)) ∨ (¬ 0 ≤ Lib.indexByte escNames c ∧ ((c = 47 ∧ shortV c = some 47) ∨ (c ≠ 47 ∧ shortV c = none))) :=
  u8_every (fun c => (0 ≤ Lib.indexByte escNames c ∧ (Lib.indexByte escNames c).toNat < 7 ∧ c ≠ 0 ∧ shortV c = some (escMeans.getD (Lib.indexByte escNames c).toNat 0)) ∨ (¬ 0 ≤ Lib.indexByte escNames c ∧ ((c = 47 ∧ shortV c = some 47) ∨ (c ≠ 47 ∧ shortV c = none)))) (by decide +kernel) c
theorem esc_eq {S : List UInt8} {p : Nat} (hp : p < S.length) : escR (S.drop p) = match shortV (peekL (S.drop p)) with
    | some d => .ok [d] (S.drop (p + 1))
    | none => if peekL (S.drop p) = 117 then (unitR (S.drop (p + 1))).bind fun n r => .ok (utfL n) r else .bad 31 := by
  rw [peek_drop S p hp, drop_cons hp]
  rfl
theorem esc_end {S : List UInt8} {p : Nat} (hp : p ≤ S.length) (h : peekL (S.drop p) = 0) : escR (S.drop p) = .bad 31 := by
  rcases Nat.lt_or_ge p S.length with h' | h'
  · rw [esc_eq h', h]
    rfl
  · obtain rfl : p = S.length := by omega
    simp [escR]
theorem unitR_ok {r : List UInt8} {n : Nat} {r' : List UInt8} (h : unitR r = .ok n r') : n < 55296 ∨ (57344 ≤ n ∧ n < 1114112) := by
  rw [unitR_eq] at h
  obtain ⟨a, q, h1, h2⟩ := bind_ok_iff h
  have ha := hexR_lt h1
  split at h2
  · simp only [PR.ok.injEq] at h2
    omega
  split at h2
  · cases h2
  · unfold unit2 at h2
    split at h2
    · obtain ⟨b, q2, h3, h4⟩ := bind_ok_iff h2
      have hb := hexR_lt h3
      split at h4
      · cases h4
      · simp only [PR.ok.injEq] at h4
        omega
    · cases h2
theorem byteI (x : Nat) (h : x < 256) : ((UInt8.ofNat x).toNat : Int) = (x : Int) := by
  rw [UInt8.toNat_ofNat']
  omega
theorem utf_cells (n : Nat) (h : n < 55296 ∨ (57344 ≤ n ∧ n < 1114112)) : Lib.runeCells (n : Int) = Lib.byteCells (utfL n) := by
  unfold Lib.runeCells Lib.byteCells utfL
  by_cases h1 : n < 128
  · rw [if_pos h1, Lib.encodeRuneZ_one (by omega) (by omega)]
    simp only [List.map_cons, List.map_nil]
    rw [byteI n (by omega)]
  rw [if_neg h1]
  by_cases h2 : n < 2048
  · rw [if_pos h2, Lib.encodeRuneZ_two (by omega) (by omega)]
    simp only [List.map_cons, List.map_nil]
    rw [byteI _ (by omega), byteI _ (by omega)]
    rfl
  rw [if_neg h2]
  by_cases h3 : n < 65536
  · rw [if_pos h3, Lib.encodeRuneZ_three (by omega)]
    simp only [List.map_cons, List.map_nil]
    rw [byteI _ (by omega), byteI _ (by omega), byteI _ (by omega)]
    rfl
  · rw [if_neg h3, Lib.encodeRuneZ_four (by omega) (by omega)]
    simp only [List.map_cons, List.map_nil]
    rw [byteI _ (by omega), byteI _ (by omega), byteI _ (by omega), byteI _ (by omega)]
    rfl
/-- How escape ends. -/
def EscRes (B g : Nat) (S : List UInt8) (d o : Nat) (bs : List UInt8) (res : PR (List UInt8)) (w : World) (e : Ending) (w' : World) : Prop :=
  Hid (ButB B g w w') ∧ ((∃ x q v', Hid (res = .ok x (S.drop q)) ∧ e = .returned v' ∧ Hid (Own B w' v' (bs ++ x)) ∧ Hid (Rdr w' g S q d o)) ∨ ∃ n a, Hid (res = .bad n) ∧ e = .panicked (thrown n a))
set_option maxRecDepth 100000 in
set_option maxHeartbeats 8000000 in
theorem jescape_any (g : Nat) (S : List UInt8) (p d o : Nat) (F : Int) (B : Nat) (v : Value) (bs : List UInt8) (w : World) (h : Rdr w g S p d o) (hl : S.length ≤ 1000000) (hown : Own B w v bs) (hg : g < B) (hB : B ≤ w.heap.size) (hbl : bs.length ≤ 10000000) :
    Calls Try.prog 79 #[.pointer (some ⟨g, 0, none⟩), v, .int .i64 F] w fun e w' => EscRes B g S d o bs (escR (S.drop p)) w e w' := by
  obtain ⟨c, hc⟩ : ∃ c, peekL (S.drop p) = c := ⟨_, rfl⟩
  have HP := Lib.hid (jpeek_any g S p d o c w h hl hc)
  have hple := h.le
  have HC := Lib.hid hc
  have HO := Lib.hid hown
  have htab := esc_tab c
  clear h hc hown
  go_enter Try.func79, Try.ntmps79
  go_wp2_with fail
  refine HP.out.mono ?_
  rintro e w1 ⟨rfl, hr1, hb1⟩
  have HR1 := Lib.hid hr1
  have HO1 := Lib.hid (HO.out.butg hb1 hg)
  have HB1 := Lib.hid (hb1.b hB)
  have hB1 : B ≤ w1.heap.size := Nat.le_trans hB hb1.size
  clear hr1 hb1 HP HO
  go_wp2_with fail
  refine (Try.strings_IndexByte ⟨#[98, 102, 110, 114, 116, 34, 92]⟩ ((c.toNat : Nat) : Int) w1).mono ?_
  rintro e w2 ⟨rfl, rfl⟩
  rw [byte_arg, show (⟨#[98, 102, 110, 114, 116, 34, 92]⟩ : ByteArray).data.toList = escNames from rfl]
  obtain ⟨ix, hix⟩ : ∃ ix, Lib.indexByte escNames c = ix := ⟨_, rfl⟩
  rw [hix] at htab ⊢
  clear hix
  rcases htab with ⟨h0, h7, hc0, hsv⟩ | ⟨h0, htab⟩
  · obtain ⟨j, rfl⟩ : ∃ j : Nat, ix = (j : Int) := ⟨ix.toNat, by omega⟩
    simp only [Int.toNat_natCast] at h7 hsv
    have hlt : p < S.length := peek_lt hple (by rw [HC.out]; exact hc0)
    obtain ⟨dd, hdd⟩ : ∃ dd, escMeans.getD j 0 = dd := ⟨_, rfl⟩
    rw [hdd] at hsv
    have hixx : ∀ w, (Instr.index 9 (.string ⟨#[8, 12, 10, 13, 9, 34, 92]⟩) (.int .i64 (j : Int))).run Try.prog w = .ok (.int .u8 (dd.toNat : Nat)) w := by
      have h1 := str_at escMeans j h7
      have h2 : escMeans[j]'h7 = dd := by rw [← hdd, List.getD_eq_getElem?_getD, List.getElem?_eq_getElem h7]; rfl
      rw [h2] at h1
      exact h1
    have HE : Hid (escR (S.drop p) = .ok [dd] (S.drop (p + 1))) := Lib.hid (by rw [esc_eq hlt, HC.out, hsv])
    have q0 : (((c.toNat : Nat) : Int) != 0) = true := by
      simp only [bne_iff_ne, ne_eq]
      intro e0
      exact hc0 (UInt8.toNat_inj.1 (by rw [show (0 : UInt8).toNat = 0 from rfl]; omega))
    have q1 : decide ((0 : Int) ≤ ((j : Nat) : Int)) = true := decide_eq_true (by omega)
    have hk1 := HR1.out.c1
    have hf1 := HR1.out.fz 1
    have hr2 : Rdr (w2.setCell ⟨g, 1, none⟩ (.int .i64 ((p : Int) + 1))) g S (p + 1) d o := HR1.out.at (p + 1) (by omega)
    have hbt := But.setCell w2 g 1 (.int .i64 ((p : Int) + 1))
    have ho2 := HO1.out.butg hbt hg
    have hb2 := HB1.out.trans (hbt.b hB1)
    have hB2 := Nat.le_trans hB1 hbt.size
    go_upto_region 5 with (fail)
    obtain ⟨w3, hw3⟩ : ∃ x, w2.setCell ⟨g, 1, none⟩ (.int .i64 ((p : Int) + 1)) = x := ⟨_, rfl⟩
    rw [hw3] at hr2 ho2 hb2 hB2 ⊢
    have HR2 := Lib.hid hr2
    have HO2 := Lib.hid ho2
    have HB2 := Lib.hid hb2
    clear hc0 hsv hdd h0 HC hbt HO1 hw3 hr2 ho2 hb2 hk1 hf1
    go_wp2_with (at_builtin; go_loud (refine wpList_append_rd rfl (.tmp 26) (.tmp 29) rfl B _ bs rfl (HO2.out.alloc _) (some ⟨w3.heap.size, 0, none⟩) [dd] 1 1 rfl rfl (Rd.of_lit (T := 5) (fr := (0, 0)) [dd] ?c0) ?c1 ?c2 ?_))
    case c0 => rw [heap_alloc_new]; rfl
    case c1 => simp only [List.length_singleton]; omega
    case c2 => simp; omega
    intro v4 w4 hown4 hg4
    have hbel := below_grow ((Below.refl B w3).alloc hB2 (.cells #[.int .u8 (dd.toNat : Nat)] 5)) (HO2.out.alloc _) hg4 (by simp; omega)
    have HR4 := Lib.hid (HR2.out.belowB hbel hg)
    have HB4 := Lib.hid (HB2.out.trans (ButB.of_below hbel))
    have HO4 := Lib.hid hown4
    clear hown4 hg4 hbel HO2
    go_wp2_with fail
    go_ret
    exact ⟨HB4, .inl ⟨[dd], p + 1, v4, HE, rfl, HO4, HR4⟩⟩
  · have q1 : decide ((0 : Int) ≤ ix) = false := decide_eq_false (by omega)
    by_cases hz : c = 0
    · have q0 : (((c.toNat : Nat) : Int) != 0) = false := by rw [hz]; rfl
      have HE : Hid (escR (S.drop p) = .bad 31) := Lib.hid (esc_end hple (by rw [HC.out]; exact hz))
      have hn47 : c ≠ 47 := by rw [hz]; decide
      have hn117 : c ≠ 117 := by rw [hz]; decide
      clear hz htab
      have HM := Lib.hid (jnext_miss g S p d o 47 47 w2 HR1.out hl (by rw [HC.out]; exact hn47) rfl)
      go_wp2_with fail
      refine HM.out.mono ?_
      rintro e w3 ⟨rfl, hr3, hb3⟩
      have HR3 := Lib.hid hr3
      have HO3 := Lib.hid (HO1.out.butg hb3 hg)
      have HB3 := Lib.hid (HB1.out.trans (hb3.b hB1))
      have hB3 := Nat.le_trans hB1 hb3.size
      clear hr3 hb3 HM
      have HM4 := Lib.hid (jnext_miss g S p d o 117 117 w3 HR3.out hl (by rw [HC.out]; exact hn117) rfl)
      go_wp2_with fail
      refine HM4.out.mono ?_
      rintro e w4 ⟨rfl, hr4, hb4⟩
      have HR4 := Lib.hid hr4
      have HB4 := Lib.hid (HB3.out.trans (hb4.b hB3))
      clear hr4 hb4 HM4
      go_wp2_with fail
      refine (jstop_any g S p d o w4 HR4.out).mono ?_
      rintro e w5 ⟨rfl, rfl⟩
      go_wp2_with fail
      exact ⟨rfl, HB4, .inr ⟨31, p, HE, rfl⟩⟩
    · have q0 : (((c.toNat : Nat) : Int) != 0) = true := by
        simp only [bne_iff_ne, ne_eq]
        intro e0
        exact hz (UInt8.toNat_inj.1 (by rw [show (0 : UInt8).toNat = 0 from rfl]; omega))
      have hlt : p < S.length := peek_lt hple (by rw [HC.out]; exact hz)
      have HEQ := Lib.hid (esc_eq hlt)
      rcases htab with ⟨h47, hsv⟩ | ⟨hn47, hsv⟩
      · have HE : Hid (escR (S.drop p) = .ok [47] (S.drop (p + 1))) := Lib.hid (by rw [HEQ.out, HC.out, hsv])
        have HM := Lib.hid (jnext_hit g S p d o 47 47 w2 HR1.out hl (by rw [HC.out]; exact h47) (by decide) rfl)
        clear h47 hsv hz
        go_wp2_with fail
        refine HM.out.mono ?_
        rintro e w3 ⟨rfl, hr3, hb3⟩
        have HR3 := Lib.hid hr3
        have HO3 := Lib.hid (HO1.out.butg hb3 hg)
        have HB3 := Lib.hid (HB1.out.trans (hb3.b hB1))
        have hB3 := Nat.le_trans hB1 hb3.size
        clear hr3 hb3 HM
        go_wp2_with (at_builtin; go_loud (refine wpList_append_rd rfl (.tmp 34) (.tmp 35) rfl B _ bs rfl (HO3.out.alloc _) (some ⟨w3.heap.size, 0, none⟩) [47] 1 1 rfl rfl (Rd.of_lit (T := 5) (fr := (0, 0)) [47] ?c3) ?c4 ?c5 ?_))
        case c3 => rw [heap_alloc_new]; rfl
        case c4 => simp only [List.length_singleton]; omega
        case c5 => simp; omega
        intro v4 w4 hown4 hg4
        have hbel := below_grow ((Below.refl B w3).alloc hB3 (.cells #[.int .u8 47] 5)) (HO3.out.alloc _) hg4 (by simp; omega)
        have HR4 := Lib.hid (HR3.out.belowB hbel hg)
        have HB4 := Lib.hid (HB3.out.trans (ButB.of_below hbel))
        have HO4 := Lib.hid hown4
        clear hown4 hg4 hbel HO3
        go_wp2_with fail
        go_ret
        exact ⟨HB4, .inl ⟨[47], p + 1, v4, HE, rfl, HO4, HR4⟩⟩
      · by_cases hn117 : c = 117
        · have HE : Hid (escR (S.drop p) = (unitR (S.drop (p + 1))).bind fun n r => .ok (utfL n) r) := Lib.hid (by rw [HEQ.out, HC.out, hsv]; simp only; rw [if_pos hn117])
          have HM := Lib.hid (jnext_miss g S p d o 47 47 w2 HR1.out hl (by rw [HC.out]; exact hn47) rfl)
          go_wp2_with fail
          refine HM.out.mono ?_
          rintro e w3 ⟨rfl, hr3, hb3⟩
          have HR3 := Lib.hid hr3
          have HO3 := Lib.hid (HO1.out.butg hb3 hg)
          have HB3 := Lib.hid (HB1.out.trans (hb3.b hB1))
          have hB3 := Nat.le_trans hB1 hb3.size
          clear hr3 hb3 HM
          have HM4 := Lib.hid (jnext_hit g S p d o 117 117 w3 HR3.out hl (by rw [HC.out]; exact hn117) (by decide) rfl)
          clear hsv hz
          go_wp2_with fail
          refine HM4.out.mono ?_
          rintro e w4 ⟨rfl, hr4, hb4⟩
          have HR4 := Lib.hid hr4
          have HO4 := Lib.hid (HO3.out.butg hb4 hg)
          have HB4 := Lib.hid (HB3.out.trans (hb4.b hB3))
          have hB4 := Nat.le_trans hB3 hb4.size
          clear hr4 hb4 HM4
          have HU := Lib.hid (junit_any g S (p + 1) d o F w4 HR4.out hl)
          clear hn117 hn47
          go_wp2_with fail
          refine HU.out.mono ?_
          rintro e w5 ⟨hb5, ⟨n, q, hu, rfl, hr5⟩ | ⟨n, a, hu, rfl⟩⟩
          · have HR5 := Lib.hid hr5
            have HO5 := Lib.hid (HO4.out.butg hb5 hg)
            have HB5 := Lib.hid (HB4.out.trans (hb5.b hB4))
            have hB5 := Nat.le_trans hB4 hb5.size
            have hun := unitR_ok hu
            have HE2 : Hid (escR (S.drop p) = .ok (utfL n) (S.drop q)) := Lib.hid (by rw [HE.out, hu]; rfl)
            have hcells := utf_cells n hun
            have hlen : (Lib.runeCells (n : Int)).length = (utfL n).length := by rw [hcells]; simp [Lib.byteCells]
            have HAR := Lib.hid (Try.utf8_AppendRune_plain B v bs.length (Lib.byteCells bs) (n : Int) (by omega) (by omega) w5 HO5.out (by omega) hB5)
            have HCL := Lib.hid (And.intro hcells hlen)
            clear hr5 hb5 hu HU hun hcells hlen
            go_wp2_with fail
            refine HAR.out.mono ?_
            rintro e w6 ⟨v6, rfl, hown6, ob, hg6⟩
            have ho6 : Own B w6 v6 (bs ++ utfL n) := by
              unfold Own
              rw [HCL.out.1] at hown6
              have e1 : (bs ++ utfL n).length = bs.length + (Lib.byteCells (utfL n)).length := by simp [Lib.byteCells]
              have e2 : Lib.byteCells (bs ++ utfL n) = Lib.byteCells bs ++ Lib.byteCells (utfL n) := by simp [Lib.byteCells]
              rw [e1, e2]
              exact hown6
            have hbel := below_grow ((Below.refl B w5).alloc hB5 ob) (HO5.out.alloc ob) hg6 (by simp; omega)
            have HR6 := Lib.hid (HR5.out.belowB hbel hg)
            have HB6 := Lib.hid (HB5.out.trans (ButB.of_below hbel))
            have HO6 := Lib.hid ho6
            clear hown6 hg6 hbel ho6 HAR
            go_wp2_with fail
            go_ret
            exact ⟨HB6, .inl ⟨_, q, v6, HE2, rfl, HO6, HR6⟩⟩
          · have HB5 := Lib.hid (HB4.out.trans (hb5.b hB4))
            have HE2 : Hid (escR (S.drop p) = .bad n) := Lib.hid (by rw [HE.out, hu]; rfl)
            clear hb5 hu HU
            go_wp2_with fail
            exact ⟨rfl, HB5, .inr ⟨n, a, HE2, rfl⟩⟩
        · have HE : Hid (escR (S.drop p) = .bad 31) := Lib.hid (by rw [HEQ.out, HC.out, hsv]; simp only; rw [if_neg hn117])
          clear hsv hz
          have HM := Lib.hid (jnext_miss g S p d o 47 47 w2 HR1.out hl (by rw [HC.out]; exact hn47) rfl)
          go_wp2_with fail
          refine HM.out.mono ?_
          rintro e w3 ⟨rfl, hr3, hb3⟩
          have HR3 := Lib.hid hr3
          have HO3 := Lib.hid (HO1.out.butg hb3 hg)
          have HB3 := Lib.hid (HB1.out.trans (hb3.b hB1))
          have hB3 := Nat.le_trans hB1 hb3.size
          clear hr3 hb3 HM
          have HM4 := Lib.hid (jnext_miss g S p d o 117 117 w3 HR3.out hl (by rw [HC.out]; exact hn117) rfl)
          go_wp2_with fail
          refine HM4.out.mono ?_
          rintro e w4 ⟨rfl, hr4, hb4⟩
          have HR4 := Lib.hid hr4
          have HB4 := Lib.hid (HB3.out.trans (hb4.b hB3))
          clear hr4 hb4 HM4
          go_wp2_with fail
          refine (jstop_any g S p d o w4 HR4.out).mono ?_
          rintro e w5 ⟨rfl, rfl⟩
          go_wp2_with fail
          exact ⟨rfl, HB4, .inr ⟨31, p, HE, rfl⟩⟩
end Go.Proofs.Ytfcokdkbjajohaa
/- json's reader: strings. -/
set_option linter.unusedVariables false
namespace Go.Proofs.Ytfcokdkbjajohaa
open Go.RowKit

theorem hexN_len : ∀ (k n : Nat) (r : List UInt8) (m : Nat) (r' : List UInt8), hexN k n r = .ok m r' → r'.length ≤ r.length
  | 0, n, r, m, r', h => by
    simp only [hexN, PR.ok.injEq] at h
    rw [h.2]
    exact Nat.le_refl _
  | k + 1, n, [], m, r', h => by simp [hexN] at h
  | k + 1, n, c :: r, m, r', h => by
    simp only [hexN] at h
    cases hd : hexV c with
    | none => rw [hd] at h; cases h
    | some d =>
      rw [hd] at h
      have := hexN_len k _ r m r' h
      simp only [List.length_cons]
      omega
theorem unitR_len {r : List UInt8} {n : Nat} {r' : List UInt8} (h : unitR r = .ok n r') : r'.length ≤ r.length := by
  rw [unitR_eq] at h
  obtain ⟨a, q, h1, h2⟩ := bind_ok_iff h
  have ha := hexN_len 4 0 r a q h1
  split at h2
  · simp only [PR.ok.injEq] at h2
    rw [← h2.2]; exact ha
  split at h2
  · cases h2
  · unfold unit2 at h2
    split at h2
    · obtain ⟨b, q2, h3, h4⟩ := bind_ok_iff h2
      have hb := hexN_len 4 0 _ b q2 h3
      split at h4
      · cases h4
      · simp only [PR.ok.injEq] at h4
        rw [← h4.2]
        simp only [List.length_cons] at ha
        omega
    · cases h2
theorem utfL_len (n : Nat) : (utfL n).length ≤ 4 := by
  unfold utfL
  split
  · simp
  split
  · simp
  split <;> simp
theorem escR_len {r x r' : List UInt8} (h : escR r = .ok x r') : r'.length ≤ r.length ∧ x.length ≤ 4 := by
  cases r with
  | nil => simp [escR] at h
  | cons c r =>
    simp only [escR] at h
    split at h
    · simp only [PR.ok.injEq] at h
      rw [← h.1, ← h.2]
      simp
    · split at h
      · obtain ⟨n, q, h1, h2⟩ := bind_ok_iff h
        have := unitR_len h1
        simp only [PR.ok.injEq] at h2
        rw [← h2.1, ← h2.2]
        exact ⟨by simp only [List.length_cons]; omega, utfL_len n⟩
      · cases h
theorem textN_step {S : List UInt8} {q k : Nat} {b : List UInt8} {c : UInt8} (hq : q < S.length) (hc : peekL (S.drop q) = c) : textN (k + 1) b (S.drop q) = if c = 34 then .ok b (S.drop (q + 1)) else if c = 92 then (escR (S.drop (q + 1))).bind fun x r => textN k (b ++ x) r else if c.toNat < 32 then .bad 31 else textN k (b ++ [c]) (S.drop (q + 1)) := by
  rw [peek_drop S q hq] at hc
  rw [drop_cons hq, hc]
  rfl
theorem textN_end {S : List UInt8} {k : Nat} {b : List UInt8} : textN (k + 1) b (S.drop S.length) = .bad 31 := by simp [textN]
/-- How text ends. -/
def TxtRes (g : Nat) (S : List UInt8) (d o : Nat) (res : PR (List UInt8)) (w : World) (e : Ending) (w' : World) : Prop :=
  Hid (But g w w') ∧ ((∃ t q, Hid (res = .ok t (S.drop q)) ∧ e = .returned (.string ⟨t.toArray⟩) ∧ Hid (Rdr w' g S q d o)) ∨ ∃ n a, Hid (res = .bad n) ∧ e = .panicked (thrown n a))
set_option maxRecDepth 100000 in
set_option maxHeartbeats 16000000 in
theorem jtext_any (g : Nat) (S : List UInt8) (p d o : Nat) (w : World) (h : Rdr w g S p d o) (hl : S.length ≤ 1000000) :
    Calls Try.prog 59 #[.pointer (some ⟨g, 0, none⟩)] w fun e w' => TxtRes g S d o (textR (S.drop p)) w e w' := by
  have hgl := h.lt
  have HM := Lib.hid (jmust_any g S p d o 34 34 w h hl (by decide) rfl)
  have HT := Lib.hid (show textR (S.drop p) = (mustL 34 (S.drop p)).bind fun _ r => textN (r.length + 1) [] r from rfl)
  clear h
  go_enter Try.func59, Try.ntmps59
  go_wp2_with fail
  refine HM.out.mono ?_
  rintro e w1 ⟨hb1, ⟨q0, hm, rfl, hr1⟩ | ⟨n, a, hm, rfl⟩⟩
  · have HR1 := Lib.hid hr1
    have HB1 := Lib.hid (hb1.b (Nat.le_refl _))
    have hs1 := hb1.size
    have hq0 := hr1.le
    have HT0 : Hid (textR (S.drop p) = textN (S.length - q0 + 1) [] (S.drop q0)) := Lib.hid (by rw [HT.out, hm, PR.bind_ok, List.length_drop])
    clear hm hr1 hb1 HM HT
    go_wp2_with fail
    go_loopg [3] (S.length - q0 + 1) (fun k bv wr => ∃ (q : Nat) (bs : List UInt8), S.length < q + k ∧ bs.length ≤ 4 * q ∧ w.heap.size ≤ wr.heap.size ∧ Hid (textR (S.drop p) = textN k bs (S.drop q)) ∧ Hid (Own w.heap.size wr bv bs) ∧ Hid (Rdr wr g S q d o) ∧ Hid (ButB w.heap.size g w wr))
    case atStart => exact ⟨q0, [], by omega, by simp, hs1, HT0, Lib.hid (Own.nil _ _), HR1, HB1⟩
    case round =>
      obtain ⟨q, bs, hqk, hbs, hsz, ht, ho, hr, hb⟩ := hrel
      have hql := hr.out.le
      obtain ⟨k, rfl⟩ : ∃ k, gk = k + 1 := ⟨gk - 1, by omega⟩
      obtain ⟨c, hc⟩ : ∃ c, peekL (S.drop q) = c := ⟨_, rfl⟩
      have HC := Lib.hid hc
      have HP := Lib.hid (jpeek_any g S q d o c wr hr.out hl hc)
      have hk1 := hr.out.c1
      clear hc
      go_wp2_with fail
      refine HP.out.mono ?_
      rintro e w2 ⟨rfl, hr2, hb2⟩
      have HR2 := Lib.hid hr2
      have HO2 := Lib.hid (ho.out.butg hb2 hgl)
      have HB2 := Lib.hid (hb.out.trans (hb2.b hsz))
      have hz2 := Nat.le_trans hsz hb2.size
      clear hr2 hb2 HP hk1
      by_cases h34 : c = 34
      · have hlt : q < S.length := peek_lt hql (by rw [HC.out, h34]; decide)
        have HE : Hid (textR (S.drop p) = .ok bs (S.drop (q + 1))) := Lib.hid (by rw [ht.out, textN_step hlt HC.out, if_pos h34])
        have HM3 := Lib.hid (jnext_hit g S q d o 34 34 w2 HR2.out hl (by rw [HC.out]; exact h34) (by decide) rfl)
        go_wp2_with fail
        refine HM3.out.mono ?_
        rintro e w3 ⟨rfl, hr3, hb3⟩
        have HR3 := Lib.hid hr3
        have HO3 := Lib.hid (HO2.out.butg hb3 hgl)
        have HB3 := Lib.hid (HB2.out.trans (hb3.b hz2))
        have hz3 := Nat.le_trans hz2 hb3.size
        clear hr3 hb3 HM3
        obtain ⟨ab, cb, rfl, hrd⟩ := HO3.out.shape
        have hst := str_of_rd hrd bs.length cb rfl
        have HBB := Lib.hid HB3.out.but
        clear hrd h34
        go_wp2_with fail
        go_ret
        exact ⟨HBB, .inl ⟨bs, q + 1, HE, rfl, HR3⟩⟩
      have HM3 := Lib.hid (jnext_miss g S q d o 34 34 w2 HR2.out hl (by rw [HC.out]; exact h34) rfl)
      go_wp2_with fail
      refine HM3.out.mono ?_
      rintro e w3 ⟨rfl, hr3, hb3⟩
      have HR3 := Lib.hid hr3
      have HO3 := Lib.hid (HO2.out.butg hb3 hgl)
      have HB3 := Lib.hid (HB2.out.trans (hb3.b hz2))
      have hz3 := Nat.le_trans hz2 hb3.size
      clear hr3 hb3 HM3
      by_cases h92 : c = 92
      · have hlt : q < S.length := peek_lt hql (by rw [HC.out, h92]; decide)
        have HE : Hid (textR (S.drop p) = (escR (S.drop (q + 1))).bind fun x r => textN k (bs ++ x) r) := Lib.hid (by rw [ht.out, textN_step hlt HC.out, if_neg h34, if_pos h92])
        have HM4 := Lib.hid (jnext_hit g S q d o 92 92 w3 HR3.out hl (by rw [HC.out]; exact h92) (by decide) rfl)
        go_wp2_with fail
        refine HM4.out.mono ?_
        rintro e w4 ⟨rfl, hr4, hb4⟩
        have HR4 := Lib.hid hr4
        have HO4 := Lib.hid (HO3.out.butg hb4 hgl)
        have HB4 := Lib.hid (HB3.out.trans (hb4.b hz3))
        have hz4 := Nat.le_trans hz3 hb4.size
        clear hr4 hb4 HM4
        have HX := Lib.hid (jescape_any g S (q + 1) d o ((q : Nat) : Int) w.heap.size _ bs w4 HR4.out hl HO4.out hgl hz4 (by omega))
        clear h92 h34
        go_wp2_with fail
        refine HX.out.mono ?_
        rintro e w5 ⟨hb5, ⟨x, q', v', hx, rfl, ho5, hr5⟩ | ⟨n, a, hx, rfl⟩⟩
        · have hxl := escR_len hx.out
          simp only [List.length_drop] at hxl
          have hq' := hr5.out.le
          have HE5 : Hid (textR (S.drop p) = textN k (bs ++ x) (S.drop q')) := Lib.hid (by rw [HE.out, hx.out]; rfl)
          have HB5 := Lib.hid (HB4.out.trans hb5.out)
          have hz5 := Nat.le_trans hz4 hb5.out.size
          have hbl : (bs ++ x).length ≤ 4 * q' := by rw [List.length_append]; omega
          clear HX
          go_wp2_with fail
          go_roundg k
          case measure => omega
          case rel => exact ⟨q', bs ++ x, by omega, hbl, hz5, HE5, ho5, hr5, HB5⟩
        · have HE5 : Hid (textR (S.drop p) = .bad n) := Lib.hid (by rw [HE.out, hx.out]; rfl)
          have HBB := Lib.hid (HB4.out.trans hb5.out).but
          clear HX
          go_wp2_with fail
          exact ⟨rfl, HBB, .inr ⟨n, a, HE5, rfl⟩⟩
      have HM4 := Lib.hid (jnext_miss g S q d o 92 92 w3 HR3.out hl (by rw [HC.out]; exact h92) rfl)
      go_wp2_with fail
      refine HM4.out.mono ?_
      rintro e w4 ⟨rfl, hr4, hb4⟩
      have HR4 := Lib.hid hr4
      have HO4 := Lib.hid (HO3.out.butg hb4 hgl)
      have HB4 := Lib.hid (HB3.out.trans (hb4.b hz3))
      have hz4 := Nat.le_trans hz3 hb4.size
      clear hr4 hb4 HM4
      by_cases h32 : c.toNat < 32
      · have d32 : decide (((c.toNat : Nat) : Int) < 32) = true := decide_eq_true (by omega)
        have HE : Hid (textR (S.drop p) = .bad 31) := Lib.hid (by
          rw [ht.out]
          rcases Nat.lt_or_ge q S.length with hlt | hge
          · rw [textN_step hlt HC.out, if_neg h34, if_neg h92, if_pos h32]
          · obtain rfl : q = S.length := by omega
            exact textN_end)
        have HBB := Lib.hid HB4.out.but
        clear h34 h92
        go_wp2_with fail
        refine (jstop_any g S q d o w4 HR4.out).mono ?_
        rintro e w5 ⟨rfl, rfl⟩
        go_wp2_with fail
        exact ⟨rfl, HBB, .inr ⟨31, q, HE, rfl⟩⟩
      have d32 : decide (((c.toNat : Nat) : Int) < 32) = false := decide_eq_false (by omega)
      have hlt : q < S.length := peek_lt hql (by rw [HC.out]; intro e0; apply h32; rw [e0]; decide)
      have HE : Hid (textR (S.drop p) = textN k (bs ++ [c]) (S.drop (q + 1))) := Lib.hid (by rw [ht.out, textN_step hlt HC.out, if_neg h34, if_neg h92, if_neg h32])
      clear h34 h92
      go_wp2_with (at_builtin; go_loud (refine wpList_append_rd rfl (.tmp 14) (.tmp 16) rfl w.heap.size _ bs rfl (HO4.out.alloc _) (some ⟨w4.heap.size, 0, none⟩) [c] 1 1 rfl rfl (Rd.of_lit (T := 5) (fr := (0, 0)) [c] ?c0) ?c1 ?c2 ?_))
      case c0 => rw [heap_alloc_new]; rfl
      case c1 => simp only [List.length_singleton]; omega
      case c2 => simp; omega
      intro v5 w5 hown5 hg5
      have hbel := below_grow ((Below.refl w.heap.size w4).alloc hz4 (.cells #[.int .u8 (c.toNat : Nat)] 5)) (HO4.out.alloc _) hg5 (by simp; omega)
      have hr5 := HR4.out.belowB hbel hgl
      have HB5 := Lib.hid (HB4.out.trans (ButB.of_below hbel))
      have hz5 := Nat.le_trans hz4 hbel.size
      have hk5 := hr5.c1
      have hf5 := hr5.fz 1
      have HR6 := Lib.hid (hr5.at (q + 1) (by omega))
      have hbt := But.setCell w5 g 1 (.int .i64 ((q + 1 : Nat) : Int))
      have HO6 : Hid (Own w.heap.size (w5.setCell ⟨g, 1, none⟩ (.int .i64 ((q + 1 : Nat) : Int))) v5 (bs ++ [c])) := Lib.hid (Own.butg hown5 hbt hgl)
      have HB6 := Lib.hid (HB5.out.trans (hbt.b hz5))
      have hz6 := Nat.le_trans hz5 hbt.size
      have hbl : (bs ++ [c]).length ≤ 4 * (q + 1) := by rw [List.length_append]; simp only [List.length_singleton]; omega
      clear hr5 hown5 hg5 hbel hbt
      go_wp2_with fail
      go_roundg k
      case measure => omega
      case rel => exact ⟨q + 1, bs ++ [c], by omega, hbl, hz6, HE, HO6, HR6, HB6⟩
  · have HE : Hid (textR (S.drop p) = .bad n) := Lib.hid (by rw [HT.out, hm]; rfl)
    have HB1 := Lib.hid hb1
    clear hm hb1 HM
    go_wp2_with fail
    exact ⟨rfl, HB1, .inr ⟨n, a, HE, rfl⟩⟩
end Go.Proofs.Ytfcokdkbjajohaa
/- json: what is left is shorter. -/
set_option linter.unusedVariables false
namespace Go.Proofs.Ytfcokdkbjajohaa

theorem blank_short (r : List UInt8) : (blankL r).length ≤ r.length := by
  unfold blankL
  induction r with
  | nil => simp
  | cons c r ih =>
    rw [List.dropWhile_cons]
    split
    · simp only [List.length_cons]; omega
    · exact Nat.le_refl _
theorem dropDig_short (r : List UInt8) : (r.dropWhile digB).length ≤ r.length := by
  induction r with
  | nil => simp
  | cons c r ih =>
    rw [List.dropWhile_cons]
    split
    · simp only [List.length_cons]; omega
    · exact Nat.le_refl _
theorem head_short {c : UInt8} {r : List UInt8} (h : r.head? = some c) : r.tail.length + 1 = r.length := by
  cases r with
  | nil => simp at h
  | cons d r => simp
theorem must_short {c : UInt8} {r r' : List UInt8} (h : mustL c r = .ok () r') : r'.length + 1 = r.length := by
  unfold mustL at h
  split at h
  · next e =>
    simp only [PR.ok.injEq, true_and] at h
    rw [← h]
    exact head_short e
  · cases h
theorem word_short : ∀ (w : List UInt8) {r r' : List UInt8}, wordR w r = .ok () r' → r'.length + w.length = r.length
  | [], r, r', h => by
    simp only [wordR, PR.ok.injEq, true_and] at h
    simp [h]
  | c :: w, r, r', h => by
    obtain ⟨x, q, h1, h2⟩ := bind_ok_iff h
    have e1 := must_short h1
    have e2 := word_short w h2
    simp only [List.length_cons]
    omega
theorem digits_short {r r' : List UInt8} (h : digitsL r = .ok () r') : r'.length < r.length := by
  unfold digitsL at h
  split at h
  · next e =>
    simp only [PR.ok.injEq, true_and] at h
    rw [← h]
    cases r with
    | nil => simp [peekL, digB] at e
    | cons c r =>
      rw [List.dropWhile_cons, if_pos (by simpa [peekL] using e)]
      have := dropDig_short r
      simp only [List.length_cons]
      omega
  · cases h
theorem skip_short (c : UInt8) (r : List UInt8) : (skipL c r).length ≤ r.length := by
  unfold skipL
  split
  · rw [List.length_tail]; omega
  · exact Nat.le_refl _
theorem tail_short {r r' : List UInt8} (h : numTail r = .ok () r') : r'.length ≤ r.length := by
  unfold numTail at h
  have ht : r.tail.length ≤ r.length := by rw [List.length_tail]; omega
  split at h
  · split at h
    · have := digits_short h
      have e2 : r.tail.tail.length ≤ r.tail.length := by rw [List.length_tail]; omega
      omega
    · have := digits_short h
      have e2 := skip_short 45 r.tail
      omega
  · simp only [PR.ok.injEq, true_and] at h
    rw [h]
    exact Nat.le_refl _
theorem frac_short {r r' : List UInt8} (h : numFrac r = .ok () r') : r'.length ≤ r.length := by
  unfold numFrac at h
  have ht : r.tail.length ≤ r.length := by rw [List.length_tail]; omega
  split at h
  · obtain ⟨x, q, h1, h2⟩ := bind_ok_iff h
    have e1 := digits_short h1
    have e2 := tail_short h2
    omega
  · exact tail_short h
theorem num_short {r r' : List UInt8} (h : numR r = .ok () r') : r'.length < r.length := by
  unfold numR at h
  have hs := skip_short 45 r
  split at h
  · next e =>
    have e1 := head_short e
    have e2 := frac_short h
    omega
  · obtain ⟨x, q, h1, h2⟩ := bind_ok_iff h
    have e1 := digits_short h1
    have e2 := frac_short h2
    omega
theorem number_short {r r' t : List UInt8} (h : numberL r = .ok t r') : r'.length < r.length := by
  obtain ⟨x, q, h1, h2⟩ := bind_ok_iff h
  simp only [PR.ok.injEq] at h2
  rw [← h2.2]
  exact num_short h1
theorem hexN_short : ∀ (k n : Nat) {m : Nat} {r r' : List UInt8}, hexN k n r = .ok m r' → r'.length ≤ r.length
  | 0, n, m, r, r', h => by
    simp only [hexN, PR.ok.injEq] at h
    rw [h.2]
    exact Nat.le_refl _
  | k + 1, n, m, r, r', h => by
    cases r with
    | nil => simp [hexN] at h
    | cons c r =>
      simp only [hexN] at h
      split at h
      · cases h
      · have := hexN_short k _ h
        simp only [List.length_cons]
        omega
theorem unit_short {n : Nat} {r r' : List UInt8} (h : unitR r = .ok n r') : r'.length ≤ r.length := by
  obtain ⟨a, q, h1, h2⟩ := bind_ok_iff h
  have e1 := hexN_short 4 0 h1
  split at h2
  · simp only [PR.ok.injEq] at h2
    rw [← h2.2]
    exact e1
  split at h2
  · cases h2
  · split at h2
    · obtain ⟨b, q2, h3, h4⟩ := bind_ok_iff h2
      have e2 := hexN_short 4 0 h3
      simp only [List.length_cons] at e1
      split at h4
      · cases h4
      · simp only [PR.ok.injEq] at h4
        rw [← h4.2]
        omega
    · cases h2
theorem esc_short {r r' x : List UInt8} (h : escR r = .ok x r') : r'.length < r.length := by
  cases r with
  | nil => simp [escR] at h
  | cons c r =>
    simp only [escR] at h
    split at h
    · simp only [PR.ok.injEq] at h
      rw [← h.2]
      simp
    · split at h
      · obtain ⟨n, q, h1, h2⟩ := bind_ok_iff h
        simp only [PR.ok.injEq] at h2
        have := unit_short h1
        rw [← h2.2]
        simp only [List.length_cons]
        omega
      · cases h
theorem textN_short : ∀ (k : Nat) (b : List UInt8) {r r' t : List UInt8}, textN k b r = .ok t r' → r'.length < r.length
  | 0, b, r, r', t, h => by simp [textN] at h
  | k + 1, b, r, r', t, h => by
    cases r with
    | nil => simp [textN] at h
    | cons c r =>
      simp only [textN] at h
      split at h
      · simp only [PR.ok.injEq] at h
        rw [← h.2]
        simp
      split at h
      · obtain ⟨x, q, h1, h2⟩ := bind_ok_iff h
        have e1 := esc_short h1
        have e2 := textN_short k _ h2
        simp only [List.length_cons]
        omega
      split at h
      · cases h
      · have := textN_short k _ h
        simp only [List.length_cons]
        omega
theorem text_short {r r' t : List UInt8} (h : textR r = .ok t r') : r'.length < r.length := by
  obtain ⟨x, q, h1, h2⟩ := bind_ok_iff h
  have e1 := must_short h1
  have e2 := textN_short _ _ h2
  omega
theorem rowN_short {α : Type} (one : α → List UInt8 → PR α) (h1 : ∀ x y r r', one x r = .ok y r' → r'.length < r.length) (e : UInt8) : ∀ (k : Nat) (x : α) {y : α} {r r' : List UInt8}, rowN one e k x r = .ok y r' → r'.length < r.length
  | 0, x, y, r, r', h => by simp [rowN] at h
  | k + 1, x, y, r, r', h => by
    rw [rowN_succ] at h
    obtain ⟨x1, q, h2, h3⟩ := bind_ok_iff h
    have e1 := h1 _ _ _ _ h2
    have e2 := blank_short q
    split at h3
    · next eh =>
      have e3 := head_short eh
      simp only [PR.ok.injEq] at h3
      rw [← h3.2]
      omega
    · obtain ⟨_, q2, h4, h5⟩ := bind_ok_iff h3
      have e3 := must_short h4
      have e4 := rowN_short one h1 e k _ h5
      have e5 := blank_short q2
      omega
theorem row_short {α : Type} (one : α → List UInt8 → PR α) (h1 : ∀ x y r r', one x r = .ok y r' → r'.length < r.length) (e : UInt8) (x : α) {y : α} {r r' : List UInt8} (h : rowR one e x r = .ok y r') : r'.length < r.length := by
  unfold rowR at h
  split at h
  · next eh =>
    have e3 := head_short eh
    simp only [PR.ok.injEq] at h
    rw [← h.2]
    omega
  · exact rowN_short one h1 e _ x h
theorem arr_short {val : List UInt8 → PR JV} (hv : ∀ v r r', val r = .ok v r' → r'.length < r.length) (x y : List JV) (r r' : List UInt8) (h : arrR val x r = .ok y r') : r'.length < r.length := by
  obtain ⟨v, q, h1, h2⟩ := bind_ok_iff h
  simp only [PR.ok.injEq] at h2
  rw [← h2.2]
  exact hv _ _ _ h1
theorem mem_short {val : List UInt8 → PR JV} (hv : ∀ v r r', val r = .ok v r' → r'.length < r.length) (x y : List (List UInt8 × JV)) (r r' : List UInt8) (h : memR val x r = .ok y r') : r'.length < r.length := by
  obtain ⟨n, q, h1, h2⟩ := bind_ok_iff h
  have e1 := text_short h1
  split at h2
  · cases h2
  · obtain ⟨_, q2, h3, h4⟩ := bind_ok_iff h2
    obtain ⟨v, q3, h5, h6⟩ := bind_ok_iff h4
    simp only [PR.ok.injEq] at h6
    have e2 := must_short h3
    have e3 := blank_short q
    have e4 := blank_short q2
    have e5 := hv _ _ _ h5
    rw [← h6.2]
    omega
theorem val_short : ∀ (d : Nat) (v : JV) (r r' : List UInt8), valR d r = .ok v r' → r'.length < r.length := by
  intro d
  induction d with
  | zero =>
    intro v r r' h
    unfold valR at h
    dsimp only at h
    repeat' split at h
    · obtain ⟨_, q, h1, h2⟩ := bind_ok_iff h
      simp only [PR.ok.injEq] at h2
      have := word_short _ h1
      simp only [List.length_cons, List.length_nil] at this
      rw [← h2.2]; omega
    · obtain ⟨_, q, h1, h2⟩ := bind_ok_iff h
      simp only [PR.ok.injEq] at h2
      have := word_short _ h1
      simp only [List.length_cons, List.length_nil] at this
      rw [← h2.2]; omega
    · obtain ⟨_, q, h1, h2⟩ := bind_ok_iff h
      simp only [PR.ok.injEq] at h2
      have := word_short _ h1
      simp only [List.length_cons, List.length_nil] at this
      rw [← h2.2]; omega
    · obtain ⟨_, q, h1, h2⟩ := bind_ok_iff h
      simp only [PR.ok.injEq] at h2
      have := text_short h1
      rw [← h2.2]; omega
    all_goals first
      | cases h; done
      | (obtain ⟨_, q, h1, h2⟩ := bind_ok_iff h
         simp only [PR.ok.injEq] at h2
         have := number_short h1
         rw [← h2.2]; omega)
  | succ d ih =>
    intro v r r' h
    unfold valR at h
    dsimp only at h
    have ht : r.tail.length ≤ r.length := by rw [List.length_tail]; omega
    have hb := blank_short r.tail
    repeat' split at h
    · obtain ⟨_, q, h1, h2⟩ := bind_ok_iff h
      simp only [PR.ok.injEq] at h2
      have := word_short _ h1
      simp only [List.length_cons, List.length_nil] at this
      rw [← h2.2]; omega
    · obtain ⟨_, q, h1, h2⟩ := bind_ok_iff h
      simp only [PR.ok.injEq] at h2
      have := word_short _ h1
      simp only [List.length_cons, List.length_nil] at this
      rw [← h2.2]; omega
    · obtain ⟨_, q, h1, h2⟩ := bind_ok_iff h
      simp only [PR.ok.injEq] at h2
      have := word_short _ h1
      simp only [List.length_cons, List.length_nil] at this
      rw [← h2.2]; omega
    · obtain ⟨_, q, h1, h2⟩ := bind_ok_iff h
      simp only [PR.ok.injEq] at h2
      have := text_short h1
      rw [← h2.2]; omega
    · obtain ⟨_, q, h1, h2⟩ := bind_ok_iff h
      simp only [PR.ok.injEq] at h2
      have := row_short _ (arr_short ih) 93 _ h1
      rw [← h2.2]; omega
    · obtain ⟨_, q, h1, h2⟩ := bind_ok_iff h
      simp only [PR.ok.injEq] at h2
      have := row_short _ (mem_short ih) 125 _ h1
      rw [← h2.2]; omega
    · obtain ⟨_, q, h1, h2⟩ := bind_ok_iff h
      simp only [PR.ok.injEq] at h2
      have := number_short h1
      rw [← h2.2]; omega
    · cases h
end Go.Proofs.Ytfcokdkbjajohaa
/- Rows of cells that lie in memory: of any kind of elements. -/
set_option linter.unusedVariables false
namespace Go.Proofs.Ytfcokdkbjajohaa
open Go.RowKit

/-- The cells xs lie at a. -/
def RdC (w : World) (a : Option Addr) (xs : List Value) : Prop :=
  xs = [] ∨ ∃ b off, a = some ⟨b, off, none⟩ ∧ ∀ (i : Nat) (u : Value), xs[i]? = some u → w.cell? ⟨b, off + i, none⟩ = some u
theorem RdC.below {w w' : World} {a : Option Addr} {xs : List Value} (h : RdC w a xs) (hb : Below w.heap.size w w') : RdC w' a xs := by
  rcases h with h | ⟨b, off, e, h⟩
  · exact .inl h
  · refine .inr ⟨b, off, e, fun i u hu => ?_⟩
    rw [hb.cell (World.block_lt_of_cell? _ _ (h i u hu))]
    exact h i u hu
theorem RdC.at {w : World} {a : Option Addr} {xs : List Value} (h : RdC w a xs) (hne : xs ≠ []) : ∃ b off, a = some ⟨b, off, none⟩ ∧ ∀ (i : Nat) (u : Value), xs[i]? = some u → w.cell? ⟨b, off + i, none⟩ = some u := h.resolve_left hne
/-- A literal row. -/
theorem RdC.of_lit {w : World} {g : Nat} {cs : Array Value} {T : TypeId} {fr : Nat × Nat} {xs : List Value} (h : w.heap[g]? = some (.cells cs T fr)) (hx : cs.toList = xs) : RdC w (some ⟨g, 0, none⟩) xs := by
  refine .inr ⟨g, 0, rfl, fun i u hu => ?_⟩
  rw [Nat.zero_add, Lib.cell_of_heap h]
  rw [← hx] at hu
  rw [← Array.getElem?_toList]
  exact hu
theorem RdC.of_own {B : Nat} {E : TypeId} {sz : Nat} {w : World} {v : Value} {n : Nat} {xs : List Value} (h : w.ownsRow B E sz v n xs) : ∃ a c, v = .slice a n c ∧ RdC w a xs ∧ n ≤ c := by
  have h' := h
  rcases h.2 with ⟨rfl, rfl⟩ | ⟨g, cap, cur, rfl, _, hg, hle, _, _, _⟩
  · exact ⟨none, 0, rfl, .inl (List.eq_nil_of_length_eq_zero (by rw [h.1]; simp)), Nat.le_refl _⟩
  · refine ⟨_, _, rfl, .inr ⟨g, 0, rfl, fun i u hu => ?_⟩, hle⟩
    have := World.ownsRow.cells h' (g := g) rfl i u hu
    rw [Addr.add_lit] at this
    exact this
theorem own_below {B : Nat} {E : TypeId} {sz : Nat} {w w' : World} {v : Value} {n : Nat} {xs : List Value} (h : w.ownsRow B E sz v n xs) (hb : Below w.heap.size w w') : w'.ownsRow B E sz v n xs :=
  World.ownsRow.kept (row := none) h ⟨hb.os, hb.tape, hb.output, hb.size, fun k hk _ => hb.block k hk⟩ (by cases v.ownBlock <;> simp)
theorem own_mono {B B' : Nat} {E : TypeId} {sz : Nat} {w : World} {v : Value} {n : Nat} {xs : List Value} (h : w.ownsRow B E sz v n xs) (hB : B' ≤ B) : w.ownsRow B' E sz v n xs :=
  ⟨h.1, h.2.imp id fun ⟨g, cap, cur, h1, h2, h3⟩ => ⟨g, cap, cur, h1, Nat.le_trans hB h2, h3⟩⟩
theorem below_own {B : Nat} {E : TypeId} {sz : Nat} {a w w' : World} {v : Value} {n : Nat} {xs : List Value} (h : Below B a w) (hown : w.ownsRow B E sz v n xs) (hg : w.grownBy w' v.ownBlock) (hB : B ≤ w.heap.size) : Below B a w' :=
  h.grown hg hB (fun k hk => (hown.lt k hk).1)
theorem RdC.grown {w w' : World} {row : Option Nat} {a : Option Addr} {xs : List Value} (h : RdC w a xs) (hg : w.grownBy w' row) (hne : ∀ b off s, a = some ⟨b, off, s⟩ → some b ≠ row) : RdC w' a xs := by
  rcases h with rfl | ⟨b, off, rfl, hc⟩
  · exact .inl rfl
  · exact .inr ⟨b, off, rfl, fun i u hu => hg.cell (hc i u hu) (hne b off none rfl)⟩
/-- Elements of k cells each. -/
theorem flat_get {α : Type} (f : α → List Value) (k : Nat) (hf : ∀ x, (f x).length = k) : ∀ (l : List α) (i j : Nat) (hi : i < l.length), j < k → (l.flatMap f)[i * k + j]? = (f l[i])[j]?
  | [], i, _, hi, _ => by simp at hi
  | x :: l, 0, j, _, hj => by
    rw [List.flatMap_cons, List.getElem?_append_left (by rw [hf]; omega)]
    simp
  | x :: l, i + 1, j, hi, hj => by
    have ih := flat_get f k hf l i j (by simpa using hi) hj
    rw [List.flatMap_cons, List.getElem?_append_right (by rw [hf]; rw [Nat.add_mul]; omega), hf, show (i + 1) * k + j - k = i * k + j by rw [Nat.add_mul]; omega, ih]
    simp
theorem flat_len {α : Type} (f : α → List Value) (k : Nat) (hf : ∀ x, (f x).length = k) : ∀ (l : List α), (l.flatMap f).length = l.length * k
  | [] => by simp
  | x :: l => by rw [List.flatMap_cons, List.length_append, hf, flat_len f k hf l, List.length_cons, Nat.add_mul]; omega
theorem flat_take {α : Type} (f : α → List Value) (l : List α) (j : Nat) (h : j < l.length) : (l.take (j + 1)).flatMap f = (l.take j).flatMap f ++ f l[j] := by
  rw [List.take_succ_eq_append_getElem h, List.flatMap_append]
  simp [List.flatMap_cons]
/-- append(own, x): one element, which the call has just put into a block of its own. -/
theorem wpList_append_new {ops : Array Oper} {rest : List Oper} {o : Oper} {a : Act} {w : World} {Q : Exit → Act → World → Prop} (hgd : o.guard = none) (s x : Operand) (t : TypeId)
    (ho : o.op = .call { callee := .builtin .append, args := #[s, x], argTypes := #[t, t] })
    (B : Nat) (e : TypeId) (i : TypeInfo) (z : Value) (size bytes : Nat) (ht : Try.prog.underlying t = some (.slice e)) (hi : Try.prog.info? e = some i) (hz : i.zero = some z)
    (hsize : i.size = size) (hby : i.bytes = bytes) (hzs : z.cells.size = size) (hsz : 0 < size)
    (v : Value) (n : Nat) (xs : List Value) (hs : a.eval s = v) (hown : w.ownsRow B e size v n xs)
    (g c : Nat) (cs : Array Value) (T : TypeId) (fr : Nat × Nat) (hg : w.heap[g]? = some (.cells cs T fr)) (hx : a.eval x = .slice (some ⟨g, 0, none⟩) 1 c) (hl : cs.size = size) (h1 : ∀ u ∈ cs.toList, u.oneCell' = true)
    (hbytes : (n + 1) * bytes ≤ 140737488355328) (hn : n ≤ 140737488355328) (hB : B ≤ w.heap.size)
    (h : ∀ v' w', w'.ownsRow B e size v' (n + 1) (xs ++ cs.toList) → w.grownBy w' v.ownBlock → wpList Try.prog ops Q rest (a.put o.dst v') w') : wpList Try.prog ops Q (o :: rest) a w := by
  refine wpList_append_own w hgd s x t ho B e i z size bytes ht hi hz hsize hby hzs hsz v n xs hs hown ⟨g, 0, none⟩ 1 c cs.toList hx (by simpa using hl) (fun j u hu => ?_) h1 (by unfold maxLen; omega) hbytes hB fun v' w' h2 h3 _ => h v' w' h2 h3
  rw [Addr.add_lit, Nat.zero_add, Lib.cell_of_heap hg, ← Array.getElem?_toList]
  exact hu
end Go.Proofs.Ytfcokdkbjajohaa
/- JSON's values in memory. -/
set_option linter.unusedVariables false
namespace Go.Proofs.Ytfcokdkbjajohaa
open Go.RowKit

def strV (t : List UInt8) : Value := .string ⟨t.toArray⟩
/-- The cells of members. -/
def memCells : List (List UInt8 × JV) → List (List Value) → List Value
  | p :: m, r :: cm => strV p.1 :: (r ++ memCells m cm)
  | _, _ => []
/-- Cells lie in a block that may be. -/
def RdO (ok : Nat → Prop) (w : World) (a : Option Addr) (xs : List Value) : Prop :=
  xs = [] ∨ ∃ b off, a = some ⟨b, off, none⟩ ∧ ok b ∧ ∀ (i : Nat) (u : Value), xs[i]? = some u → w.cell? ⟨b, off + i, none⟩ = some u
theorem RdO.rdc {ok : Nat → Prop} {w : World} {a : Option Addr} {xs : List Value} (h : RdO ok w a xs) : RdC w a xs := by
  rcases h with h | ⟨b, off, e, _, h⟩
  · exact .inl h
  · exact .inr ⟨b, off, e, h⟩
theorem RdO.lt {ok : Nat → Prop} {w : World} {a : Option Addr} {xs : List Value} (h : RdO ok w a xs) : RdO (fun b => ok b ∧ b < w.heap.size) w a xs := by
  rcases h with h | ⟨b, off, e, h0, h⟩
  · exact .inl h
  · cases hx : xs with
    | nil => exact .inl rfl
    | cons u r =>
      rw [hx] at h
      refine .inr ⟨b, off, e, ⟨h0, ?_⟩, h⟩
      exact World.block_lt_of_cell? _ _ (h 0 u rfl)
theorem RdO.mono {ok ok' : Nat → Prop} {w : World} {a : Option Addr} {xs : List Value} (h : RdO ok w a xs) (hk : ∀ b, ok b → ok' b) : RdO ok' w a xs := by
  rcases h with h | ⟨b, off, e, h0, h⟩
  · exact .inl h
  · exact .inr ⟨b, off, e, hk b h0, h⟩
theorem RdO.keep {ok : Nat → Prop} {w w' : World} {a : Option Addr} {xs : List Value} (h : RdO ok w a xs) (hk : ∀ b, ok b → b < w.heap.size → w'.heap[b]? = w.heap[b]?) : RdO ok w' a xs := by
  rcases h with h | ⟨b, off, e, h0, h⟩
  · exact .inl h
  · refine .inr ⟨b, off, e, h0, fun i u hu => ?_⟩
    have h1 := h i u hu
    have hlt := World.block_lt_of_cell? _ _ h1
    rw [← h1]
    unfold World.cell?
    rw [hk b h0 hlt]
/-- Five cells are a value, whose rows lie in blocks that may be. -/
inductive Rep (ok : Nat → Prop) (w : World) : List Value → JV → Prop where
  | mk (k : Int) (y : Bool) (t : List UInt8) (l : List JV) (m : List (List UInt8 × JV)) (a : Option Addr) (c : Nat) (a' : Option Addr) (c' : Nat) (cl cm : List (List Value))
    (h1 : RdO ok w a cl.flatten) (h2 : cl.length = l.length) (h3 : ∀ i (hi : i < cl.length) (hj : i < l.length), Rep ok w cl[i] l[i])
    (h4 : RdO ok w a' (memCells m cm)) (h5 : cm.length = m.length) (h6 : ∀ i (hi : i < cm.length) (hj : i < m.length), Rep ok w cm[i] m[i].2)
    (hc : l.length ≤ c) (hc' : m.length ≤ c') :
    Rep ok w [.int .i64 k, .bool y, strV t, .slice a l.length c, .slice a' m.length c'] (.mk k y t l m)
/-- Rows of values. -/
def Reps (ok : Nat → Prop) (w : World) (cl : List (List Value)) (l : List JV) : Prop := cl.length = l.length ∧ ∀ i (hi : i < cl.length) (hj : i < l.length), Rep ok w cl[i] l[i]
def RepsM (ok : Nat → Prop) (w : World) (cm : List (List Value)) (m : List (List UInt8 × JV)) : Prop := cm.length = m.length ∧ ∀ i (hi : i < cm.length) (hj : i < m.length), Rep ok w cm[i] m[i].2
theorem Rep.len {ok : Nat → Prop} {w : World} {cs : List Value} {v : JV} (h : Rep ok w cs v) : cs.length = 5 := by cases h; rfl
theorem Rep.keep {ok : Nat → Prop} {w w' : World} {cs : List Value} {v : JV} (h : Rep ok w cs v) (hk : ∀ b, ok b → b < w.heap.size → w'.heap[b]? = w.heap[b]?) : Rep ok w' cs v := by
  induction h with
  | mk k y t l m a c a' c' cl cm h1 h2 h3 h4 h5 h6 hc hc' i3 i6 => exact .mk k y t l m a c a' c' cl cm (h1.keep hk) h2 i3 (h4.keep hk) h5 i6 hc hc'
theorem Rep.mono {ok ok' : Nat → Prop} {w : World} {cs : List Value} {v : JV} (h : Rep ok w cs v) (hk : ∀ b, ok b → ok' b) : Rep ok' w cs v := by
  induction h with
  | mk k y t l m a c a' c' cl cm h1 h2 h3 h4 h5 h6 hc hc' i3 i6 => exact .mk k y t l m a c a' c' cl cm (h1.mono hk) h2 i3 (h4.mono hk) h5 i6 hc hc'
theorem Rep.lt {ok : Nat → Prop} {w : World} {cs : List Value} {v : JV} (h : Rep ok w cs v) : Rep (fun b => ok b ∧ b < w.heap.size) w cs v := by
  induction h with
  | mk k y t l m a c a' c' cl cm h1 h2 h3 h4 h5 h6 hc hc' i3 i6 => exact .mk k y t l m a c a' c' cl cm h1.lt h2 i3 h4.lt h5 i6 hc hc'
theorem Rep.under {ok : Nat → Prop} {w w' : World} {cs : List Value} {v : JV} (h : Rep ok w cs v) (hb : Below w.heap.size w w') : Rep ok w' cs v := h.keep fun b _ hlt => hb.block b hlt
theorem Reps.keep {ok : Nat → Prop} {w w' : World} {cl : List (List Value)} {l : List JV} (h : Reps ok w cl l) (hk : ∀ b, ok b → b < w.heap.size → w'.heap[b]? = w.heap[b]?) : Reps ok w' cl l := ⟨h.1, fun i hi hj => (h.2 i hi hj).keep hk⟩
theorem RepsM.keep {ok : Nat → Prop} {w w' : World} {cl : List (List Value)} {l : List (List UInt8 × JV)} (h : RepsM ok w cl l) (hk : ∀ b, ok b → b < w.heap.size → w'.heap[b]? = w.heap[b]?) : RepsM ok w' cl l := ⟨h.1, fun i hi hj => (h.2 i hi hj).keep hk⟩
theorem Reps.mono {ok ok' : Nat → Prop} {w : World} {cl : List (List Value)} {l : List JV} (h : Reps ok w cl l) (hk : ∀ b, ok b → ok' b) : Reps ok' w cl l := ⟨h.1, fun i hi hj => (h.2 i hi hj).mono hk⟩
theorem RepsM.mono {ok ok' : Nat → Prop} {w : World} {cl : List (List Value)} {l : List (List UInt8 × JV)} (h : RepsM ok w cl l) (hk : ∀ b, ok b → ok' b) : RepsM ok' w cl l := ⟨h.1, fun i hi hj => (h.2 i hi hj).mono hk⟩
theorem Reps.lt {ok : Nat → Prop} {w : World} {cl : List (List Value)} {l : List JV} (h : Reps ok w cl l) : Reps (fun b => ok b ∧ b < w.heap.size) w cl l := ⟨h.1, fun i hi hj => (h.2 i hi hj).lt⟩
theorem RepsM.lt {ok : Nat → Prop} {w : World} {cl : List (List Value)} {l : List (List UInt8 × JV)} (h : RepsM ok w cl l) : RepsM (fun b => ok b ∧ b < w.heap.size) w cl l := ⟨h.1, fun i hi hj => (h.2 i hi hj).lt⟩
theorem Reps.under {ok : Nat → Prop} {w w' : World} {cl : List (List Value)} {l : List JV} (h : Reps ok w cl l) (hb : Below w.heap.size w w') : Reps ok w' cl l := h.keep fun b _ hlt => hb.block b hlt
theorem RepsM.under {ok : Nat → Prop} {w w' : World} {cl : List (List Value)} {l : List (List UInt8 × JV)} (h : RepsM ok w cl l) (hb : Below w.heap.size w w') : RepsM ok w' cl l := h.keep fun b _ hlt => hb.block b hlt
theorem Reps.nil (ok : Nat → Prop) (w : World) : Reps ok w [] [] := ⟨rfl, fun i hi => by simp at hi⟩
theorem RepsM.nil (ok : Nat → Prop) (w : World) : RepsM ok w [] [] := ⟨rfl, fun i hi => by simp at hi⟩
theorem Reps.snoc {ok : Nat → Prop} {w : World} {cl : List (List Value)} {l : List JV} {cs : List Value} {v : JV} (h : Reps ok w cl l) (hv : Rep ok w cs v) : Reps ok w (cl ++ [cs]) (l ++ [v]) := by
  refine ⟨by simp [h.1], fun i hi hj => ?_⟩
  by_cases e : i < cl.length
  · rw [List.getElem_append_left e, List.getElem_append_left (by rw [← h.1]; exact e)]
    exact h.2 i e _
  · simp only [List.length_append, List.length_cons, List.length_nil] at hi
    obtain rfl : i = cl.length := by omega
    have e2 : cl.length = l.length := h.1
    simp only [List.getElem_concat_length]
    rw [List.getElem_append_right (by omega)]
    simpa [e2] using hv
theorem RepsM.snoc {ok : Nat → Prop} {w : World} {cl : List (List Value)} {l : List (List UInt8 × JV)} {cs : List Value} {n : List UInt8} {v : JV} (h : RepsM ok w cl l) (hv : Rep ok w cs v) : RepsM ok w (cl ++ [cs]) (l ++ [(n, v)]) := by
  refine ⟨by simp [h.1], fun i hi hj => ?_⟩
  by_cases e : i < cl.length
  · rw [List.getElem_append_left e]
    have e2 : (l ++ [(n, v)])[i] = l[i]'(by rw [← h.1]; exact e) := List.getElem_append_left (by rw [← h.1]; exact e)
    rw [e2]
    exact h.2 i e _
  · simp only [List.length_append, List.length_cons, List.length_nil] at hi
    obtain rfl : i = cl.length := by omega
    have e2 : cl.length = l.length := h.1
    simp only [List.getElem_concat_length]
    rw [List.getElem_append_right (by omega)]
    simpa [e2] using hv
theorem memCells_snoc : ∀ (m : List (List UInt8 × JV)) (cm : List (List Value)) (n : List UInt8) (v : JV) (cs : List Value), cm.length = m.length → memCells (m ++ [(n, v)]) (cm ++ [cs]) = memCells m cm ++ (strV n :: cs)
  | [], [], n, v, cs, _ => by simp [memCells]
  | [], _ :: _, _, _, _, h => by simp at h
  | _ :: _, [], _, _, _, h => by simp at h
  | p :: m, r :: cm, n, v, cs, h => by
    simp only [List.cons_append, memCells, List.append_assoc, List.cons.injEq, true_and]
    rw [memCells_snoc m cm n v cs (by simpa using h)]
theorem flat5_len {ok : Nat → Prop} {w : World} {cl : List (List Value)} {l : List JV} (h : Reps ok w cl l) : cl.flatten.length = l.length * 5 := by
  obtain ⟨h1, h2⟩ := h
  induction cl generalizing l with
  | nil =>
    have : l = [] := List.eq_nil_of_length_eq_zero h1.symm
    subst this
    rfl
  | cons c cl ih =>
    cases l with
    | nil => simp at h1
    | cons v l =>
      have h0 := (h2 0 (by simp) (by simp)).len
      simp only [List.getElem_cons_zero] at h0
      have := ih (l := l) (by simpa using h1) (fun i hi hj => by have := h2 (i + 1) (by simp; omega) (by simp; omega); simpa using this)
      simp only [List.flatten_cons, List.length_append, h0, this, List.length_cons]
      omega
theorem mem6_len {ok : Nat → Prop} {w : World} {cm : List (List Value)} {m : List (List UInt8 × JV)} (h : RepsM ok w cm m) : (memCells m cm).length = m.length * 6 := by
  obtain ⟨h1, h2⟩ := h
  induction cm generalizing m with
  | nil => cases m with
    | nil => rfl
    | cons => simp at h1
  | cons c cl ih =>
    cases m with
    | nil => simp at h1
    | cons v l =>
      have h0 := (h2 0 (by simp) (by simp)).len
      simp only [List.getElem_cons_zero] at h0
      have := ih (m := l) (by simpa using h1) (fun i hi hj => by have := h2 (i + 1) (by simp; omega) (by simp; omega); simpa using this)
      simp only [memCells, List.length_append, List.length_cons, h0, this]
      omega
/-- Each element's cells. -/
theorem flat5_get {ok : Nat → Prop} {w : World} {cl : List (List Value)} {l : List JV} (h : Reps ok w cl l) (i : Nat) (hi : i < cl.length) (j : Nat) (hj : j < 5) : cl.flatten[i * 5 + j]? = cl[i][j]? := by
  obtain ⟨h1, h2⟩ := h
  induction cl generalizing l i with
  | nil => simp at hi
  | cons c cl ih =>
    cases l with
    | nil => simp at h1
    | cons v l =>
      have h0 := (h2 0 (by simp) (by simp)).len
      simp only [List.getElem_cons_zero] at h0
      cases i with
      | zero =>
        simp only [Nat.zero_mul, Nat.zero_add, List.flatten_cons, List.getElem_cons_zero]
        rw [List.getElem?_append_left (by omega)]
      | succ i =>
        simp only [List.flatten_cons, List.getElem_cons_succ]
        rw [List.getElem?_append_right (by omega), h0, show (i + 1) * 5 + j - 5 = i * 5 + j by omega]
        exact ih (l := l) i (by simpa using hi) (by simpa using h1) (fun i hi hj => by have := h2 (i + 1) (by simp; omega) (by simp; omega); simpa using this)
theorem mem6_get {ok : Nat → Prop} {w : World} {cm : List (List Value)} {m : List (List UInt8 × JV)} (h : RepsM ok w cm m) (i : Nat) (hi : i < cm.length) (hm : i < m.length) (j : Nat) (hj : j < 6) : (memCells m cm)[i * 6 + j]? = (strV m[i].1 :: cm[i])[j]? := by
  obtain ⟨h1, h2⟩ := h
  induction cm generalizing m i with
  | nil => simp at hi
  | cons c cl ih =>
    cases m with
    | nil => simp at h1
    | cons v l =>
      have h0 := (h2 0 (by simp) (by simp)).len
      simp only [List.getElem_cons_zero] at h0
      cases i with
      | zero =>
        simp only [Nat.zero_mul, Nat.zero_add, memCells, List.getElem_cons_zero]
        rw [← List.cons_append, List.getElem?_append_left (by simp [h0]; omega)]
      | succ i =>
        simp only [memCells, List.getElem_cons_succ]
        rw [← List.cons_append, List.getElem?_append_right (by simp [h0]; omega)]
        simp only [List.length_cons, h0]
        rw [show (i + 1) * 6 + j - (5 + 1) = i * 6 + j by omega]
        exact ih (m := l) i (by simpa using hi) (by simpa using hm) (by simpa using h1) (fun i hi hj => by have := h2 (i + 1) (by simp; omega) (by simp; omega); simpa using this)
theorem rep_of {ok : Nat → Prop} {w : World} {k : Int} {y : Bool} {t : List UInt8} {l : List JV} {m : List (List UInt8 × JV)} {a a' : Option Addr} {c c' : Nat} {cl cm : List (List Value)} (h1 : RdO ok w a cl.flatten) (h2 : Reps ok w cl l) (h3 : RdO ok w a' (memCells m cm)) (h4 : RepsM ok w cm m) (hc : l.length ≤ c) (hc' : m.length ≤ c') :
    Rep ok w [.int .i64 k, .bool y, strV t, .slice a l.length c, .slice a' m.length c'] (.mk k y t l m) := .mk k y t l m a c a' c' cl cm h1 h2.1 h2.2 h3 h4.1 h4.2 hc hc'
theorem Rep.leaf (ok : Nat → Prop) (w : World) (k : Int) (y : Bool) (t : List UInt8) : Rep ok w [.int .i64 k, .bool y, strV t, .slice none 0 0, .slice none 0 0] (.mk k y t [] []) :=
  rep_of (l := []) (m := []) (cl := []) (cm := []) (.inl rfl) (Reps.nil ok w) (.inl rfl) (RepsM.nil ok w) (Nat.le_refl _) (Nat.le_refl _)
theorem Rep.parts {ok : Nat → Prop} {w : World} {cs : List Value} {v : JV} (h : Rep ok w cs v) : ∃ a c a' c' cl cm, cs = [.int .i64 v.kind, .bool v.yes, strV v.text, .slice a v.list.length c, .slice a' v.mem.length c'] ∧ RdO ok w a cl.flatten ∧ Reps ok w cl v.list ∧ RdO ok w a' (memCells v.mem cm) ∧ RepsM ok w cm v.mem ∧ v.list.length ≤ c ∧ v.mem.length ≤ c' := by
  cases h with
  | mk k y t l m a c a' c' cl cm h1 h2 h3 h4 h5 h6 hc hc' => exact ⟨a, c, a', c', cl, cm, rfl, h1, ⟨h2, h3⟩, h4, ⟨h5, h6⟩, hc, hc'⟩
end Go.Proofs.Ytfcokdkbjajohaa
/- A statement whose order is open, by what holds whatever has been done of it: no order is gone through. -/
set_option linter.unusedVariables false
namespace Go.Proofs.Ytfcokdkbjajohaa
open Go.RowKit

theorem wp_region_inv {P : Program} {id : Nat} {l : List Oper} {Q : Exit → Act → World → Prop} {a : Act} {w : World} (hm : P.follows .mixedOrders = true)
    (hac : ((List.range l.length).all fun i => ((l[i]?).map fun o => o.after.all fun e => !Region.binds .any e || decide (e.on < i)).getD true) = true)
    (I : (Nat → Bool) → Act → World → Prop) (h0 : I (fun _ => false) a w.drew)
    (step : ∀ b a w, I b a w → ∀ i o, l[i]? = some o → b i = false → (o.after.all fun e => !Region.binds .any e || b e.on) = true → wpOp P l.toArray Q i (I (fun j => if j = i then true else b j)) a w)
    (done : ∀ b a w, I b a w → (∀ i, i < l.length → b i = true) → Q .normal a w) : (Code.region id l.toArray true).wp P Q a w := by
  refine wp_region_any hm ?_
  have key : ∀ (fuel : Nat) (listed : Array Bool) (b : Nat → Bool) (a : Act) (w : World), listed.size = l.length → (∀ i, i < l.length → b i = listed.getD i false) → (∀ i, l.length ≤ i → b i = false) →
      ((List.range l.length).countP fun i => !b i) ≤ fuel → I b a w → wpAny P .any l.toArray Q fuel listed a w := by
    intro fuel
    induction fuel with
    | zero =>
      intro listed b a w hs hb hb2 hc hI
      have hall : ∀ i, i < l.length → b i = true := by
        intro i hi
        have h1 := List.countP_eq_zero.1 (Nat.le_zero.1 hc) i (List.mem_range.2 hi)
        simpa using h1
      refine ⟨?_, done b a w hI hall⟩
      rw [List.eq_nil_iff_forall_not_mem]
      intro j hj
      obtain ⟨h1, o, ho, _⟩ := mem_ready.1 hj
      have hj' : j < l.length := by
        have := (Array.getElem?_eq_some_iff.1 ho).1
        simpa using this
      have h2 := hall j hj'
      rw [hb j hj'] at h2
      have h3 : listed.getD j true = listed.getD j false := by
        have : j < listed.size := by omega
        simp [Array.getD, this]
      rw [h3, h2] at h1
      cases h1
    | succ fuel ih =>
      intro listed b a w hs hb hb2 hc hI
      refine ⟨?_, ?_⟩
      · intro hr
        refine done b a w hI ?_
        intro i
        induction i using Nat.strongRecOn with
        | _ i ihi =>
          intro hi
          cases hbi : b i with
          | true => rfl
          | false =>
            exfalso
            have hmem : i ∈ Region.ready .any l.toArray listed := by
              refine mem_ready.2 ⟨?_, l[i], by simp [hi], ?_⟩
              · have : i < listed.size := by omega
                have h2 := hb i hi
                rw [hbi] at h2
                simp [Array.getD, this] at h2 ⊢
                exact h2
              · have hac' := (List.all_eq_true.1 hac) i (List.mem_range.2 hi)
                simp only [List.getElem?_eq_getElem hi, Option.map_some, Option.getD_some, Array.all_eq_true_iff_forall_mem] at hac' ⊢
                intro e he
                have h1 := hac' e he
                cases hbd : Region.binds .any e with
                | false => simp
                | true =>
                  rw [hbd] at h1
                  simp at h1
                  have h4 := ihi e.on h1 (by omega)
                  rw [hb e.on (by omega)] at h4
                  simp [h4]
            rw [hr] at hmem
            cases hmem
      · intro i hi
        obtain ⟨h1, o, ho, hall⟩ := mem_ready.1 hi
        have hil : i < l.length := by
          have := (Array.getElem?_eq_some_iff.1 ho).1
          simpa using this
        have ho' : l[i]? = some o := by simpa using ho
        have his : i < listed.size := by omega
        have hbi : b i = false := by
          rw [hb i hil]
          simp [Array.getD, his] at h1 ⊢
          exact h1
        refine wpOp_mono ?_ (step b a w hI i o ho' hbi ?_)
        · intro a' w' hI'
          refine ih _ _ a' w' (by simp [hs]) ?_ ?_ ?_ hI'
          · intro j hj
            by_cases e : j = i
            · subst e
              simp [Array.getD, his]
            · rw [if_neg e, hb j hj]
              have hjs : j < listed.size := by omega
              simp [Array.getD, hjs, Ne.symm e]
          · intro j hj
            rw [if_neg (by omega)]
            exact hb2 j hj
          · have hlt : ((List.range l.length).countP fun j => !(if j = i then true else b j)) < ((List.range l.length).countP fun j => !b j) := by
              have h2 : ∀ (L : List Nat), i ∈ L → L.Nodup → (L.countP fun j => !(if j = i then true else b j)) + 1 = L.countP fun j => !b j := by
                intro L
                induction L with
                | nil => intro h; cases h
                | cons x L ihL =>
                  intro hm hn
                  obtain ⟨hx, hn⟩ := List.nodup_cons.1 hn
                  by_cases e : x = i
                  · subst e
                    have : (L.countP fun j => !(if j = x then true else b j)) = L.countP fun j => !b j := by
                      apply List.countP_congr
                      intro j hj
                      have : j ≠ x := fun e => hx (e ▸ hj)
                      simp [this]
                    rw [List.countP_cons, List.countP_cons, this]
                    simp [hbi]
                  · have hm' : i ∈ L := by
                      rcases List.mem_cons.1 hm with h | h
                      · exact absurd h.symm e
                      · exact h
                    have := ihL hm' hn
                    simp only [List.countP_cons, e, if_false]
                    omega
              have := h2 (List.range l.length) (List.mem_range.2 hil) List.nodup_range
              omega
            omega
        · simp only [Array.all_eq_true_iff_forall_mem] at hall ⊢
          intro e he
          have h2 := hall e he
          cases hbd : Region.binds .any e with
          | false => simp
          | true =>
            rw [hbd] at h2
            simp at h2
            have hac' := (List.all_eq_true.1 hac) i (List.mem_range.2 hil)
            simp only [ho', Option.map_some, Option.getD_some, Array.all_eq_true_iff_forall_mem] at hac'
            have h3 := hac' e he
            rw [hbd] at h3
            simp at h3
            rw [hb e.on (by omega)]
            simp
            have : e.on < listed.size := by omega
            simpa [this] using h2
  refine key _ _ (fun _ => false) a _ (by simp) ?_ (fun _ _ => rfl) ?_ h0
  · intro i hi
    simp [Array.getD, hi]
  · simp

theorem wpOp_plain {P : Program} {ops : Array Oper} {Q : Exit → Act → World → Prop} {i : Nat} {o : Oper} {K : Act → World → Prop} {a : Act} {w : World} (ho : ops[i]? = some o) (hg : o.guard = none)
    (h : Oper.wp P o a w K Q) : wpOp P ops Q i K a w := by
  unfold wpOp
  rw [ho]
  simp only [Region.wanted, hg, if_true]
  exact .inl h

/-- A scope with one label: the way to the label may use what a pass from the label does. -/
theorem wp_scope_again {P : Program} {c X : Code} {Q : Exit → Act → World → Prop} {a : Act} {w : World} (l : Nat) (J : Act → World → Prop) (μ : Act → World → Nat) (hf : findLabel c l = some (Code.skip.seq X))
    (pass : ∀ a w, J a w → X.wp P (Exit.jump l (fun a' w' => J a' w' ∧ μ a' w' < μ a w) Q) a w)
    (first : (∀ a w, J a w → X.wp P (Exit.jump l J Q) a w) → c.wp P (Exit.jump l J Q) a w) : (Code.scope c).wp P Q a w :=
  wp_scope_jumps l J μ hf (first fun a w h => Code.wp_mono (fun e a' w' q => by
    cases e with
    | goto l' => exact ⟨q.1, q.2.1⟩
    | normal => exact q
    | exit _ => exact q
    | ret => exact q
    | panic _ => exact q
    | outgrown => exact q) (pass a w h)) fun a w h => by
      apply wp_seq_k
      intro K hK
      apply wp_skip
      exact hK _ _ (pass a w h)
end Go.Proofs.Ytfcokdkbjajohaa
/- A statement whose order is open and whose operations only add to the memory: whatever the order, each operation's value is what is said of it. -/
set_option linter.unusedVariables false
namespace Go.Proofs.Ytfcokdkbjajohaa
open Go.RowKit

/-- A frame that differs in the slots ds alone. -/
structure Fr (ds : List Nat) (a a' : Act) : Prop where
  defers : a'.defers = a.defers
  size : a'.tmps.size = a.tmps.size
  same : ∀ k, k ∉ ds → a'.tmps.getD k undef = a.tmps.getD k undef

theorem put_at (a : Act) (d : Nat) (v : Value) (h : d < a.tmps.size) : (a.put (some d) v).tmps.getD d undef = v := by
  simp [Act.put, Array.getD, h]
theorem put_other (a : Act) (d k : Nat) (v : Value) (h : k ≠ d) : (a.put (some d) v).tmps.getD k undef = a.tmps.getD k undef := by
  simp [Act.put, Array.getD_eq_getD_getElem?, Array.getElem?_setIfInBounds_ne (Ne.symm h)]
theorem Fr.refl (ds : List Nat) (a : Act) : Fr ds a a := ⟨rfl, rfl, fun _ _ => rfl⟩
theorem Fr.put {ds : List Nat} {a a' : Act} (h : Fr ds a a') {d : Nat} (hd : d ∈ ds) (v : Value) : Fr ds a (a'.put (some d) v) :=
  ⟨h.defers, by simpa [Act.put] using h.size, fun k hk => by
    rw [put_other a' d k v (fun e => hk (by rw [e]; exact hd))]
    exact h.same k hk⟩

theorem wp_region_grow {P : Program} {id : Nat} {l : List Oper} {Q : Exit → Act → World → Prop} {a : Act} {w : World} (hm : P.follows .mixedOrders = true)
    (hac : ((List.range l.length).all fun i => ((l[i]?).map fun o => o.after.all fun e => !Region.binds .any e || decide (e.on < i)).getD true) = true)
    (ds : List Nat) (hds : (l.map (·.dst)) = ds.map some) (hnd : ds.Nodup) (hlt : ds.all (fun d => decide (d < a.tmps.size)) = true)
    (V : Nat → Value → World → Prop) (hV : ∀ i v w1 w2, V i v w1 → Below w1.heap.size w1 w2 → V i v w2)
    (step : ∀ i o, l[i]? = some o → ∀ a' w', Fr ds a a' → Below w.heap.size w w' → (∀ j, (o.after.any fun e => Region.binds .any e && e.on == j) = true → V j (a'.tmps.getD (ds.getD j 0) undef) w') →
      wpOp P l.toArray Q i (fun a'' w'' => ∃ v, a'' = a'.put (some (ds.getD i 0)) v ∧ V i v w'' ∧ Below w'.heap.size w' w'') a' w')
    (done : ∀ a' w', Fr ds a a' → Below w.heap.size w w' → (∀ j, j < l.length → V j (a'.tmps.getD (ds.getD j 0) undef) w') → Q .normal a' w') :
    (Code.region id l.toArray true).wp P Q a w := by
  have hlen : l.length = ds.length := by have := congrArg List.length hds; simpa using this
  have hmem : ∀ j, j < l.length → ds.getD j 0 ∈ ds := by
    intro j hj
    rw [List.getD_eq_getElem?_getD, List.getElem?_eq_getElem (by omega)]
    exact List.getElem_mem _
  have hinj : ∀ i j, i < l.length → j < l.length → ds.getD i 0 = ds.getD j 0 → i = j := by
    intro i j hi hj e
    rw [List.getD_eq_getElem?_getD, List.getElem?_eq_getElem (by omega), List.getD_eq_getElem?_getD, List.getElem?_eq_getElem (by omega)] at e
    exact (List.getElem_inj hnd).1 e
  refine wp_region_inv hm hac (fun b a' w' => Fr ds a a' ∧ Below w.heap.size w w' ∧ ∀ j, j < l.length → b j = true → V j (a'.tmps.getD (ds.getD j 0) undef) w') ?_ ?_ ?_
  · exact ⟨Fr.refl _ _, (Below.refl _ _).drew, fun j _ h => by cases h⟩
  · rintro b a' w' ⟨hf, hb, hall⟩ i o ho hbi hpre
    have hil : i < l.length := (List.getElem?_eq_some_iff.1 ho).1
    refine wpOp_mono ?_ (step i o ho a' w' hf hb ?_)
    · rintro a'' w'' ⟨v, rfl, hv, hb'⟩
      refine ⟨hf.put (hmem i hil) v, hb.trans (hb'.mono hb.size), fun j hj hbj => ?_⟩
      by_cases e : j = i
      · subst e
        rw [put_at]
        · exact hv
        · rw [hf.size]
          have := (List.all_eq_true.1 hlt) _ (hmem j hil)
          simpa using this
      · simp only [e, if_false] at hbj
        rw [put_other _ _ _ _ (fun e' => e (hinj _ _ hj hil e'))]
        exact hV _ _ _ _ (hall j hj hbj) hb'
    · intro j hj
      obtain ⟨k, hk, hj⟩ := Array.any_eq_true.1 hj
      obtain ⟨e, he, e1⟩ : ∃ e, e ∈ o.after ∧ e = o.after[k] := ⟨_, Array.getElem_mem hk, rfl⟩
      rw [← e1] at hj
      simp only [Bool.and_eq_true, beq_iff_eq] at hj
      obtain ⟨hbd, rfl⟩ := hj
      have h1 : b e.on = true := by
        simp only [Array.all_eq_true_iff_forall_mem] at hpre
        have := hpre e he
        rw [hbd] at this
        simpa using this
      have h2 : e.on < i := by
        have hac' := (List.all_eq_true.1 hac) i (List.mem_range.2 hil)
        simp only [ho, Option.map_some, Option.getD_some, Array.all_eq_true_iff_forall_mem] at hac'
        have := hac' e he
        rw [hbd] at this
        simpa using this
      exact hall e.on (by omega) h1
  · rintro b a' w' ⟨hf, hb, hall⟩ hdone
    exact done a' w' hf hb fun j hj => hall j hj (hdone j hj)

theorem Fr.nil_eq {a a' : Act} (h : Fr [] a a') : a' = a := by
  cases a with
  | mk t d =>
    cases a' with
    | mk t' d' =>
      have h1 : d' = d := h.defers
      have h2 : t'.size = t.size := h.size
      have h3 : t' = t := by
        apply Array.ext h2
        intro i hi hi'
        have := h.same i (by simp)
        simp only [Array.getD_eq_getD_getElem?] at this
        rw [Array.getElem?_eq_getElem hi, Array.getElem?_eq_getElem hi'] at this
        simpa using this
      rw [h1, h3]
/-- The frame behind such a statement, written out. -/
theorem Fr.eq : ∀ {ds : List Nat} {a a' : Act} (vs : List Value), Fr ds a a' → (∀ j, j < ds.length → a'.tmps.getD (ds.getD j 0) undef = vs.getD j undef) → ds.Nodup → (ds.all fun d => decide (d < a.tmps.size)) = true → vs.length = ds.length →
    a' = (ds.zip vs).foldl (fun a x => a.put (some x.1) x.2) a
  | [], a, a', vs, h, _, _, _, _ => by simpa using h.nil_eq
  | d :: ds, a, a', [], h, _, _, _, hl => by simp at hl
  | d :: ds, a, a', v :: vs, h, hv, hnd, hlt, hl => by
    simp only [List.zip_cons_cons, List.foldl_cons]
    obtain ⟨hn1, hn2⟩ := List.nodup_cons.1 hnd
    simp only [List.all_cons, Bool.and_eq_true, decide_eq_true_eq] at hlt
    refine Fr.eq vs ⟨h.defers, by simpa [Act.put] using h.size, fun k hk => ?_⟩ (fun j hj => ?_) hn2 (by simpa [Act.put] using hlt.2) (by simpa using hl)
    · by_cases e : k = d
      · subst e
        rw [put_at _ _ _ hlt.1]
        exact hv 0 (by simp)
      · rw [put_other _ _ _ _ e]
        exact h.same k (by simp [e, hk])
    · exact hv (j + 1) (by simpa using hj)

/-- What an operation waits for. -/
def depsAt (l : List Oper) (j : Nat) : List Nat := ((l[j]?).map fun o => (o.after.toList.filter (Region.binds .any)).map (·.on)).getD []
/-- Whatever is done when all that j waits for is done: all ahead of j? -/
def coverGo (l : List Oper) : Nat → List Nat → Bool
  | 0, _ => true
  | i + 1, S => S.contains i && coverGo l i (S ++ depsAt l i)
theorem coverGo_all {l : List Oper} {b : Nat → Bool} (hcl : ∀ j, b j = true → ∀ x ∈ depsAt l j, b x = true) : ∀ (i : Nat) (S : List Nat), coverGo l i S = true → (∀ x ∈ S, b x = true) → ∀ x, x < i → b x = true
  | 0, _, _, _, x, hx => by omega
  | i + 1, S, h, hS, x, hx => by
    simp only [coverGo, Bool.and_eq_true, List.contains_iff_mem] at h
    have hi := hS i h.1
    by_cases e : x = i
    · subst e; exact hi
    · exact coverGo_all hcl i _ h.2 (fun y hy => by
        rcases List.mem_append.1 hy with h' | h'
        · exact hS y h'
        · exact hcl i hi y h') x (by omega)
theorem depsAt_mem {l : List Oper} {i : Nat} {o : Oper} (ho : l[i]? = some o) {x : Nat} : x ∈ depsAt l i ↔ (o.after.any fun e => Region.binds .any e && e.on == x) = true := by
  simp only [depsAt, ho, Option.map_some, Option.getD_some, List.mem_map, List.mem_filter, Array.any_eq_true, Bool.and_eq_true, beq_iff_eq]
  constructor
  · rintro ⟨e, ⟨he, hb⟩, rfl⟩
    obtain ⟨k, hk, rfl⟩ := Array.mem_iff_getElem.1 (Array.mem_toList_iff.1 he)
    exact ⟨k, hk, hb, rfl⟩
  · rintro ⟨k, hk, hb, rfl⟩
    exact ⟨_, ⟨Array.mem_toList_iff.2 (Array.getElem_mem hk), hb⟩, rfl⟩

theorem wpOp_of_list {P : Program} {l : List Oper} {Q : Exit → Act → World → Prop} {i : Nat} {o : Oper} {a : Act} {w : World} (ho : l[i]? = some o) (h : wpList P l.toArray Q (l.drop i) a w) : wpOp P l.toArray Q i (fun a' w' => wpList P l.toArray Q (l.drop (i + 1)) a' w') a w := by
  have hil : i < l.length := (List.getElem?_eq_some_iff.1 ho).1
  have e : l.drop i = o :: l.drop (i + 1) := by
    rw [List.drop_eq_getElem_cons hil]
    rw [List.getElem?_eq_getElem hil] at ho
    simp at ho
    rw [ho]
  rw [e] at h
  unfold wpOp
  rw [show l.toArray[i]? = some o by simpa using ho]
  exact h

/-- .. and then a few in a forced order. -/
theorem wp_region_grow_tail {P : Program} {id : Nat} {l : List Oper} {Q : Exit → Act → World → Prop} {a : Act} {w : World} (n : Nat) (hm : P.follows .mixedOrders = true)
    (hac : ((List.range l.length).all fun i => ((l[i]?).map fun o => o.after.all fun e => !Region.binds .any e || decide (e.on < i)).getD true) = true)
    (hn : n ≤ l.length) (hcov : ((List.range l.length).all fun j => decide (j < n) || coverGo l j (depsAt l j)) = true)
    (ds : List Nat) (hds : ((l.take n).map (·.dst)) = ds.map some) (hnd : ds.Nodup) (hlt : ds.all (fun d => decide (d < a.tmps.size)) = true)
    (V : Nat → Value → World → Prop) (hV : ∀ i v w1 w2, V i v w1 → Below w1.heap.size w1 w2 → V i v w2)
    (step : ∀ i o, (l.take n)[i]? = some o → ∀ a' w', Fr ds a a' → Below w.heap.size w w' → (∀ j, (o.after.any fun e => Region.binds .any e && e.on == j) = true → V j (a'.tmps.getD (ds.getD j 0) undef) w') →
      wpOp P l.toArray Q i (fun a'' w'' => ∃ v, a'' = a'.put (some (ds.getD i 0)) v ∧ V i v w'' ∧ Below w'.heap.size w' w'') a' w')
    (done : ∀ a' w', Fr ds a a' → Below w.heap.size w w' → (∀ j, j < n → V j (a'.tmps.getD (ds.getD j 0) undef) w') → wpList P l.toArray Q (l.drop n) a' w') :
    (Code.region id l.toArray true).wp P Q a w := by
  have hlen : n = ds.length := by have := congrArg List.length hds; simp at this; omega
  have hmem : ∀ j, j < n → ds.getD j 0 ∈ ds := by
    intro j hj
    rw [List.getD_eq_getElem?_getD, List.getElem?_eq_getElem (by omega)]
    exact List.getElem_mem _
  have hinj : ∀ i j, i < n → j < n → ds.getD i 0 = ds.getD j 0 → i = j := by
    intro i j hi hj e
    rw [List.getD_eq_getElem?_getD, List.getElem?_eq_getElem (by omega), List.getD_eq_getElem?_getD, List.getElem?_eq_getElem (by omega)] at e
    exact (List.getElem_inj hnd).1 e
  have hdeps : ∀ (b : Nat → Bool) i o, l[i]? = some o → (o.after.all fun e => !Region.binds .any e || b e.on) = true → ∀ x ∈ depsAt l i, b x = true := by
    intro b i o ho hpre x hx
    rw [depsAt_mem ho] at hx
    obtain ⟨k, hk, hj⟩ := Array.any_eq_true.1 hx
    simp only [Bool.and_eq_true, beq_iff_eq] at hj
    have := (Array.all_eq_true.1 hpre) k hk
    rw [hj.1, hj.2] at this
    simpa using this
  refine wp_region_inv hm hac (fun b a' w' => (∀ j, b j = true → ∀ x ∈ depsAt l j, b x = true) ∧
    (((∀ j, n ≤ j → b j = false) ∧ Fr ds a a' ∧ Below w.heap.size w w' ∧ ∀ j, j < n → b j = true → V j (a'.tmps.getD (ds.getD j 0) undef) w') ∨
     (∃ k, n ≤ k ∧ (∀ j, b j = true ↔ j < k) ∧ wpList P l.toArray Q (l.drop k) a' w'))) ?_ ?_ ?_
  · exact ⟨fun _ h => (by cases h), .inl ⟨fun _ _ => rfl, Fr.refl _ _, (Below.refl _ _).drew, fun j _ h => by cases h⟩⟩
  · rintro b a' w' ⟨hcl, hI⟩ i o ho hbi hpre
    have hil : i < l.length := (List.getElem?_eq_some_iff.1 ho).1
    have hdi := hdeps b i o ho hpre
    have hcl' : ∀ j, (if j = i then true else b j) = true → ∀ x ∈ depsAt l j, (if x = i then true else b x) = true := by
      intro j hj x hx
      by_cases ex : x = i
      · simp [ex]
      · simp only [ex, if_false]
        by_cases ej : j = i
        · subst ej; exact hdi x hx
        · simp only [ej, if_false] at hj; exact hcl j hj x hx
    have hcovi : n ≤ i → ∀ x, x < i → b x = true := by
      intro hni
      have := (List.all_eq_true.1 hcov) i (List.mem_range.2 hil)
      simp only [Bool.or_eq_true, decide_eq_true_eq] at this
      rcases this with h | h
      · omega
      · exact coverGo_all hcl i _ h hdi
    rcases hI with ⟨hno, hf, hb, hall⟩ | ⟨k, hk, hbk, hw⟩
    · by_cases hin : i < n
      · refine wpOp_mono ?_ (step i o (by rw [List.getElem?_take, if_pos hin]; exact ho) a' w' hf hb ?_)
        · rintro a'' w'' ⟨v, rfl, hv, hb'⟩
          refine ⟨hcl', .inl ⟨fun j hj => ?_, hf.put (hmem i hin) v, hb.trans (hb'.mono hb.size), fun j hj hbj => ?_⟩⟩
          · simp only [show j ≠ i by omega, if_false]; exact hno j hj
          · by_cases e : j = i
            · subst e
              rw [put_at]
              · exact hv
              · rw [hf.size]
                have := (List.all_eq_true.1 hlt) _ (hmem j hin)
                simpa using this
            · simp only [e, if_false] at hbj
              rw [put_other _ _ _ _ (fun e' => e (hinj _ _ hj hin e'))]
              exact hV _ _ _ _ (hall j hj hbj) hb'
        · intro j hj
          have h1 : b j = true := hdi j ((depsAt_mem ho).2 hj)
          have h2 : j < n := by
            rcases Nat.lt_or_ge j n with h | h
            · exact h
            · rw [hno j h] at h1; cases h1
          exact hall j h2 h1
      · have hc := hcovi (by omega)
        have ein : i = n := by
          rcases Nat.lt_or_ge n i with h | h
          · have := hc n h
            rw [hno n (Nat.le_refl _)] at this
            cases this
          · omega
        subst ein
        refine wpOp_mono ?_ (wpOp_of_list ho (done a' w' hf hb fun j hj => hall j hj (hc j hj)))
        intro a'' w'' hw'
        refine ⟨hcl', .inr ⟨i + 1, by omega, fun j => ?_, hw'⟩⟩
        by_cases e : j = i
        · simp [e]
        · simp only [e, if_false]
          constructor
          · intro h
            rcases Nat.lt_or_ge j i with h' | h'
            · omega
            · rw [hno j h'] at h; cases h
          · intro h; exact hc j (by omega)
    · have hki : i = k := by
        have h1 : ¬ i < k := fun h => by rw [(hbk i).2 h] at hbi; cases hbi
        have hc := hcovi (by omega)
        rcases Nat.lt_or_ge k i with h | h
        · have := (hbk k).1 (hc k h)
          omega
        · omega
      subst hki
      refine wpOp_mono ?_ (wpOp_of_list ho hw)
      intro a'' w'' hw'
      refine ⟨hcl', .inr ⟨i + 1, by omega, fun j => ?_, hw'⟩⟩
      by_cases e : j = i
      · simp [e]
      · simp only [e, if_false]
        rw [hbk j]
        omega
  · rintro b a' w' ⟨hcl, hI⟩ hdone
    rcases hI with ⟨hno, hf, hb, hall⟩ | ⟨k, hk, hbk, hw⟩
    · have hnl : l.length ≤ n := by
        rcases Nat.lt_or_ge n l.length with h | h
        · have := hdone n h
          rw [hno n (Nat.le_refl _)] at this
          cases this
        · exact h
      have := done a' w' hf hb fun j hj => hall j hj (hdone j (by omega))
      rw [List.drop_eq_nil_of_le hnl] at this
      exact this
    · have hkl : l.length ≤ k := by
        rcases Nat.lt_or_ge k l.length with h | h
        · have := (hbk k).1 (hdone k h)
          omega
        · exact h
      rw [List.drop_eq_nil_of_le hkl] at hw
      exact hw

/-- An operation that is carried out. -/
theorem grow_op {P : Program} {l : List Oper} {Q : Exit → Act → World → Prop} {i d : Nat} {o : Oper} {a : Act} {w : World} {V : Value → World → Prop} (ho : l[i]? = some o) (hw : Region.wanted o (yielded l.toArray a.tmps) = true) (hd : o.dst = some d)
    (h : o.wp P a w (fun a'' w'' => ∃ v, a'' = a.put o.dst v ∧ V v w'' ∧ Below w.heap.size w w'') Q) : wpOp P l.toArray Q i (fun a'' w'' => ∃ v, a'' = a.put (some d) v ∧ V v w'' ∧ Below w.heap.size w w'') a w := by
  unfold wpOp
  rw [show l.toArray[i]? = some o by simpa using ho]
  simp only [hw, if_true]
  rw [hd] at h
  exact .inl h
/-- .. or isn't. -/
theorem grow_no {P : Program} {l : List Oper} {Q : Exit → Act → World → Prop} {i d : Nat} {o : Oper} {a : Act} {w : World} {V : Value → World → Prop} (ho : l[i]? = some o) (hw : Region.wanted o (yielded l.toArray a.tmps) = false) (hd : o.dst = some d)
    (h : V undef w) : wpOp P l.toArray Q i (fun a'' w'' => ∃ v, a'' = a.put (some d) v ∧ V v w'' ∧ Below w.heap.size w w'') a w := by
  unfold wpOp
  rw [show l.toArray[i]? = some o by simpa using ho]
  simp only [hw]
  rw [hd]
  exact ⟨_, rfl, h, Below.refl _ _⟩

theorem run_enters {P : Program} {f : FuncId} {fn : Func} {c : Code} (hf : P.funcs[f]? = some fn) (hname : (fn.name == "runtime.NumGoroutine") = false) (hb : fn.body = some c) (args : Array Value) (w : World) :
    (callFunc f args).run P w = .ok (.enter f args) w := by
  have h1 : fn.name ≠ "runtime.NumGoroutine" := by simpa using hname
  simp [callFunc, hf, h1, hb]
theorem grow_wanted {l : List Oper} {o : Oper} {a : Act} {j d : Nat} {b : Bool} (hg : o.guard = some (j, b)) (hd : ((l[j]?).bind (·.dst)) = some d) (hv : a.tmps.getD d undef = .bool b) : Region.wanted o (yielded l.toArray a.tmps) = true := by
  have h1 : a.tmps[d]? = some (.bool b) := by
    rw [Array.getD_eq_getD_getElem?] at hv
    cases e : a.tmps[d]? with
    | none => rw [e] at hv; simp [undef] at hv
    | some x => rw [e] at hv; simpa using hv
  simp [Region.wanted, hg, yielded, hd, h1]

/-- What an operation leaves behind. -/
abbrev Grew (d : Option Nat) (V : Value → World → Prop) (a : Act) (w : World) : Act → World → Prop := fun a'' w'' => ∃ v, a'' = a.put d v ∧ V v w'' ∧ Below w.heap.size w w''

section
variable {P : Program} {Q : Exit → Act → World → Prop} {o : Oper} {a : Act} {w : World} {V : Value → World → Prop}
theorem grow_value {v : Value} {w' : World} (h : (execOp a.eval o).run P w = .ok (.value v) w') (hv : V v w') (hb : Below w.heap.size w w') : o.wp P a w (Grew o.dst V a w) Q := by
  unfold Oper.wp
  rw [h]
  exact ⟨v, rfl, hv, hb⟩
theorem grow_move {x : Operand} (ho : o.op = .move x) (hv : V (a.eval x) w) : o.wp P a w (Grew o.dst V a w) Q :=
  grow_value (by simp only [execOp, ho]; rfl) hv (Below.refl _ _)
theorem grow_assign {x : Operand} (ho : o.op = .assign x) (hv : V (a.eval x) w) : o.wp P a w (Grew o.dst V a w) Q :=
  grow_value (by simp only [execOp, ho]; rfl) hv (Below.refl _ _)
theorem grow_pick {c x y : Operand} {b : Bool} (ho : o.op = .pick c x y) (hc : a.eval c = .bool b) (hv : V (if b then a.eval x else a.eval y) w) : o.wp P a w (Grew o.dst V a w) Q :=
  grow_value (by simp only [execOp, ho, hc]; rfl) hv (Below.refl _ _)
theorem grow_convert {s d : TypeId} {x : Operand} {v : Value} (ho : o.op = .convert s d x) (hc : (convert s d (a.eval x)).run P w = .ok v w) (hv : V v w) : o.wp P a w (Grew o.dst V a w) Q :=
  grow_value (v := v) (by simp only [execOp, ho, Sem.run_bind, hc]; rfl) hv (Below.refl _ _)
theorem grow_call {f : FuncId} {xs : Array Operand} {ts : Array TypeId} (hf : ∀ args w, (callFunc f args).run P w = .ok (.enter f args) w) (ho : o.op = .call { callee := .value (.func f), args := xs, argTypes := ts })
    (h : Calls P f (xs.map a.eval) w fun e w' => ∃ v, e = .returned v ∧ V v w' ∧ Below w.heap.size w w') : o.wp P a w (Grew o.dst V a w) Q := by
  unfold Oper.wp
  have e : (execOp a.eval o).run P w = .ok (.enter f (xs.map a.eval)) w := by
    simp [execOp, ho, resolve, Act.eval, Deferred.ofValue, invoke, hf]
  rw [e]
  rw [Oper.upon_enter]
  refine h.mono ?_
  rintro e w' ⟨v, rfl, hv, hb⟩
  exact ⟨v, rfl, hv, hb⟩
end

/-- Values of which it is said what they are. -/
def VIs (x : Value) : Value → World → Prop := fun v _ => v = x
def Stab (V : Value → World → Prop) : Prop := ∀ v w1 w2, V v w1 → Below w1.heap.size w1 w2 → V v w2
theorem VIs.stab (x : Value) : Stab (VIs x) := fun _ _ _ h _ => h
theorem stab_list (Vs : List (Value → World → Prop)) (h : ∀ V ∈ Vs, Stab V) : ∀ i v w1 w2, (Vs.getD i fun _ _ => True) v w1 → Below w1.heap.size w1 w2 → (Vs.getD i fun _ _ => True) v w2 := by
  intro i v w1 w2 hv hb
  simp only [List.getD_eq_getElem?_getD] at *
  cases e : Vs[i]? with
  | none => simp
  | some V =>
    simp only [e, Option.getD_some] at hv ⊢
    exact h V (List.mem_of_getElem? e) v w1 w2 hv hb
end Go.Proofs.Ytfcokdkbjajohaa
/- json's reader: an array's element. -/
set_option linter.unusedVariables false
namespace Go.Proofs.Ytfcokdkbjajohaa
open Go.RowKit

section
variable {P : Program} {l : List Oper} {ops : Array Oper} {Q : Exit → Act → World → Prop} {i : Nat} {o : Oper} {a : Act} {w : World} {K : Act → World → Prop}
theorem op_step (ho : l[i]? = some o) (hw : Region.wanted o (yielded l.toArray a.tmps) = true) (h : o.wp P a w K Q) : wpOp P l.toArray Q i K a w := by
  unfold wpOp
  rw [show l.toArray[i]? = some o by simpa using ho]
  simp only [hw, if_true]
  exact .inl h
theorem op_value {v : Value} {w' : World} (h : (execOp a.eval o).run P w = .ok (.value v) w') (hk : K (a.put o.dst v) w') : o.wp P a w K Q := by
  unfold Oper.wp
  rw [h]
  exact hk
theorem op_skip {w' : World} (h : (execOp a.eval o).run P w = .ok .skip w') (hd : o.dst = none) (hk : K a w') : o.wp P a w K Q := by
  unfold Oper.wp
  rw [h]
  show K (a.put o.dst undef) _
  rw [hd]
  exact hk
theorem op_call {f : FuncId} {xs : Array Operand} {ts : Array TypeId} {args : Array Value} (hf : ∀ args w, (callFunc f args).run P w = .ok (.enter f args) w) (ho : o.op = .call { callee := .value (.func f), args := xs, argTypes := ts }) (ha : xs.map a.eval = args)
    (h : Calls P f args w fun e w' => (∃ v, e = .returned v ∧ K (a.put o.dst v) w') ∨ ∃ ps, e = .panicked ps ∧ Q (.panic ps) a w') : o.wp P a w K Q := by
  subst ha
  unfold Oper.wp
  have e : (execOp a.eval o).run P w = .ok (.enter f (xs.map a.eval)) w := by
    simp [execOp, ho, resolve, Act.eval, Deferred.ofValue, invoke, hf]
  rw [e]
  rw [Oper.upon_enter]
  refine h.mono ?_
  rintro e w' (⟨v, rfl, hv⟩ | ⟨ps, rfl, hv⟩)
  · exact hv
  · exact hv
/-- A few cells stored in the midst of a block. -/
theorem op_store (ty : TypeId) (x y : Operand) (ho : o.op = .store ty x y) (hd : o.dst = none) (g off : Nat) (cs : List Value) (hx : a.eval x = .pointer (some ⟨g, off, none⟩)) (hy : a.eval y = .agg cs.toArray)
    (t : TypeId) (cur : Array Value) (hg : w.heap[g]? = some (.cells cur t (0, 0))) (hi : (P.info? ty).map (·.size) = some cs.length) (hsz : off + cs.length ≤ cur.size) (h1 : ∀ v ∈ cs, v.oneCell' = true)
    (h : K a (w.setRow g (cur.toList.take off ++ cs ++ cur.toList.drop (off + cs.length)).toArray)) : o.wp P a w K Q := by
  have := run_storeCells_at P g off t cs 0 cur w hg (by omega) h1
  simp only [Nat.add_zero] at this
  have hst : (storeVar ty ⟨g, off, none⟩ (.agg cs.toArray)).run P w = .ok () (w.setRow g (cur.toList.take off ++ cs ++ cur.toList.drop (off + cs.length)).toArray) := by
    cases hq : P.info? ty with
    | none => simp [hq] at hi
    | some i =>
      have hs : cs.length = i.size := by simp [hq] at hi; omega
      simp [storeVar, sizeOf, typeInfo, hq, Value.cells, hs]
      rw [hs] at this
      simpa using this
  unfold Oper.wp execOp
  simp only [ho, hx, hy, Instr.storeAt, Instr.sureAddr, Sem.run_bind, Sem.run_pure, Result.andThen_ok, hst]
  show K (a.put o.dst undef) _
  rw [hd]
  exact h
end
theorem own_put {B : Nat} {E : TypeId} {sz : Nat} {w : World} {k n cap : Nat} {xs zs cs : List Value} (h : w.ownsRow B E sz (.slice (some ⟨k, 0, none⟩) n cap) n (xs ++ zs)) (hl : zs.length = cs.length) :
    ∃ cur, w.heap[k]? = some (.cells cur E (0, 0)) ∧ xs.length + cs.length ≤ cur.size ∧ (w.setRow k (cur.toList.take xs.length ++ cs ++ cur.toList.drop (xs.length + cs.length)).toArray).ownsRow B E sz (.slice (some ⟨k, 0, none⟩) n cap) n (xs ++ cs) := by
  obtain ⟨h1, ⟨h2, _⟩ | ⟨g, cap', cur, h2, hB, hg, hn, hc, hs, ht⟩⟩ := h
  · cases h2
  simp only [Value.slice.injEq, Option.some.injEq, Addr.mk.injEq, and_true, true_and] at h2
  obtain ⟨rfl, rfl⟩ := h2
  have hlen : (xs ++ zs).length = xs.length + cs.length := by rw [List.length_append, hl]
  have hle : n * sz ≤ cur.size := by rw [hs]; exact Nat.mul_le_mul_right _ hn
  refine ⟨cur, hg, by omega, by rw [List.length_append, ← h1, hlen], .inr ⟨k, cap, _, rfl, hB, setRow_heap w k cur _ E _ hg, hn, hc, ?_, ?_⟩⟩
  · simp only [List.size_toArray, List.length_append, List.length_take, List.length_drop, Array.length_toList]
    omega
  · have e : n * sz = xs.length + cs.length := by omega
    have e2 : cur.toList.take xs.length = xs := by
      have := congrArg (List.take xs.length) ht
      rw [List.take_take, Nat.min_eq_left (by omega), List.take_left] at this
      exact this
    rw [e2, e]
    show List.take (xs.length + cs.length) ((xs ++ cs ++ _).toArray.toList) = _
    rw [List.toList_toArray, ← List.length_append]
    exact List.take_left
theorem ent_value : ∀ args w, (callFunc 44 args).run Try.prog w = .ok (.enter 44 args) w := run_enters Try.func44 (by kernel_rfl) rfl

/-- Below B all is as it was, but two blocks. -/
structure ButV (B g gv : Nat) (w w' : World) : Prop where
  os : w'.os = w.os
  tape : w'.tape = w.tape
  output : w'.output = w.output
  size : w.heap.size ≤ w'.heap.size
  block : ∀ k, k < B → k ≠ g → k ≠ gv → w'.heap[k]? = w.heap[k]?
theorem ButV.of_but {B g gv : Nat} {w w' : World} (h : But g w w') (hB : B ≤ w.heap.size) : ButV B g gv w w' := ⟨h.os, h.tape, h.output, h.size, fun k hk hg _ => h.block k (by omega) hg⟩
theorem ButV.trans {B g gv : Nat} {a b c : World} (h : ButV B g gv a b) (k : ButV B g gv b c) : ButV B g gv a c :=
  ⟨k.os.trans h.os, k.tape.trans h.tape, k.output.trans h.output, Nat.le_trans h.size k.size, fun i hi hg hv => (k.block i hi hg hv).trans (h.block i hi hg hv)⟩
theorem ButV.refl (B g gv : Nat) (w : World) : ButV B g gv w w := ⟨rfl, rfl, rfl, Nat.le_refl _, fun _ _ _ _ => rfl⟩
/-- How a value's call ends. -/
def ValRes (val : List UInt8 → PR JV) (g : Nat) (S : List UInt8) (p d o : Nat) (w : World) (e : Ending) (w' : World) : Prop :=
  Hid (But g w w') ∧ ((∃ cs v q, Hid (val (S.drop p) = .ok v (S.drop q)) ∧ e = .returned (.agg cs.toArray) ∧ Hid (Rep (w.heap.size ≤ ·) w' cs v) ∧ Hid (Rdr w' g S q d o)) ∨ ∃ n a, Hid (val (S.drop p) = .bad n) ∧ e = .panicked (thrown n a))
/-- A value's call. -/
def ValC (val : List UInt8 → PR JV) (g : Nat) (S : List UInt8) (d o : Nat) : Prop :=
  ∀ p w, Rdr w g S p d o → Calls Try.prog 44 #[.pointer (some ⟨g, 0, none⟩)] w (ValRes val g S p d o w)
/-- An array that is read: its value at block gv. -/
structure ArrIs (g gv gb B : Nat) (S : List UInt8) (d o : Nat) (w : World) (l : List JV) (p : Nat) (V : Value) (cl : List (List Value)) : Prop where
  rdr : Rdr w g S p d o
  box : w.cell? ⟨gb, 0, none⟩ = some (.pointer (some ⟨g, 0, none⟩))
  blk : w.heap[gv]? = some (.cells #[.int .i64 5, .bool false, .string ⟨#[]⟩, V, .slice none 0 0] 28 (0, 0))
  own : w.ownsRow B 28 5 V l.length cl.flatten
  reps : Reps (fun k => B ≤ k ∧ V.ownBlock ≠ some k) w cl l
  size : B ≤ w.heap.size
  len : l.length ≤ p
def zero5 : List Value := [.int .i64 0, .bool false, .string ⟨#[]⟩, .slice none 0 0, .slice none 0 0]
/-- Ahead of the append. -/
structure AJ (g gv : Nat) (S : List UInt8) (d o p : Nat) (val : List UInt8 → PR JV) (V : Value) (n : Nat) (a0 : Act) (w0 : World) (b : Nat → Bool) (a : Act) (w : World) : Prop where
  fr : Fr [2, 3, 4, 5, 6, 7, 8, 9, 10] a0 a
  but : But g w0 w
  late : ∀ i, 6 < i → b i = false
  b0 : b 0 = true → a.tmps.getD 2 undef = .pointer (some ⟨gv, 3, none⟩)
  b1 : b 1 = true → a.tmps.getD 3 undef = V
  b2 : b 2 = true → a.tmps.getD 4 undef = .pointer (some ⟨g, 0, none⟩)
  b3 : b 3 = true → ∃ cs v q, val (S.drop p) = .ok v (S.drop q) ∧ a.tmps.getD 5 undef = .agg cs.toArray ∧ Rep (w0.heap.size ≤ ·) w cs v ∧ Rdr w g S q d o
  n3 : b 3 = false → Rdr w g S p d o
  b4 : b 4 = true → a.tmps.getD 6 undef = .int .i64 (n : Nat)
  b5 : b 5 = true → ∃ h, a.tmps.getD 7 undef = .slice (some ⟨h, 0, none⟩) 1 1 ∧ w0.heap.size ≤ h ∧ w.heap[h]? = some (.cells zero5.toArray 28 (0, 0))
/-- Behind it. -/
structure AK (g gv B : Nat) (S : List UInt8) (d o q : Nat) (V : Value) (l : List JV) (cl : List (List Value)) (cs : List Value) (v : JV) (k cap : Nat) (a0 : Act) (w0 : World) (b : Nat → Bool) (a : Act) (w : World) : Prop where
  fr : Fr [2, 3, 4, 5, 6, 7, 8, 9, 10] a0 a
  but : ButV B g gv w0 w
  all : ∀ i, i < 7 → b i = true
  e5 : a.tmps.getD 5 undef = .agg cs.toArray
  e6 : a.tmps.getD 6 undef = .int .i64 (l.length : Nat)
  e8 : a.tmps.getD 8 undef = .slice (some ⟨k, 0, none⟩) (l.length + 1) cap
  own : w.ownsRow B 28 5 (.slice (some ⟨k, 0, none⟩) (l.length + 1) cap) (l.length + 1) (cl.flatten ++ (if b 8 then cs else zero5))
  reps : Reps (fun j => B ≤ j ∧ j ≠ k) w cl l
  rep : Rep (fun j => B ≤ j ∧ j ≠ k) w cs v
  rdr : Rdr w g S q d o
  blk : w.heap[gv]? = some (.cells #[.int .i64 5, .bool false, .string ⟨#[]⟩, if b 10 then .slice (some ⟨k, 0, none⟩) (l.length + 1) cap else V, .slice none 0 0] 28 (0, 0))
  b7 : b 7 = true → a.tmps.getD 9 undef = .pointer (some ⟨k, l.length * 5, none⟩)
  b9 : b 9 = true → a.tmps.getD 10 undef = .pointer (some ⟨gv, 3, none⟩)
theorem rep_cells {ok : Nat → Prop} {w : World} {cs : List Value} {v : JV} (h : Rep ok w cs v) : ∀ u ∈ cs, u.oneCell' = true := by
  cases h
  intro u hu
  simp only [List.mem_cons, List.mem_nil_iff, or_false] at hu
  rcases hu with rfl | rfl | rfl | rfl | rfl <;> rfl
theorem dep_of {o : Oper} {b : Nat → Bool} (hall : (o.after.all fun e => !Region.binds .any e || b e.on) = true) (j : Nat) (h : (o.after.any fun e => Region.binds .any e && e.on == j) = true) : b j = true := by
  obtain ⟨k, hk, hj⟩ := Array.any_eq_true.1 h
  have := (Array.all_eq_true.1 hall) k hk
  simp only [Bool.and_eq_true, beq_iff_eq] at hj
  rw [hj.1, hj.2] at this
  simpa using this
theorem AJ.step {g gv : Nat} {S : List UInt8} {d o p : Nat} {val : List UInt8 → PR JV} {V : Value} {n : Nat} {a0 : Act} {w0 : World} {b : Nat → Bool} {a : Act} {w : World} (h : AJ g gv S d o p val V n a0 w0 b a w) (hs : a0.tmps.size = 11) (hg : g < w0.heap.size)
    (i : Nat) (hi : i < 6) (x : Value) (w' : World) (hb : But g w w') (n0 : i = 0 → x = .pointer (some ⟨gv, 3, none⟩)) (n1 : i = 1 → x = V) (n2 : i = 2 → x = .pointer (some ⟨g, 0, none⟩))
    (n3 : i = 3 → ∃ cs v q, val (S.drop p) = .ok v (S.drop q) ∧ x = .agg cs.toArray ∧ Rep (w0.heap.size ≤ ·) w' cs v ∧ Rdr w' g S q d o) (k3 : i ≠ 3 → w'.heap[g]? = w.heap[g]?) (n4 : i = 4 → x = .int .i64 (n : Nat))
    (n5 : i = 5 → ∃ h, x = .slice (some ⟨h, 0, none⟩) 1 1 ∧ w0.heap.size ≤ h ∧ w'.heap[h]? = some (.cells zero5.toArray 28 (0, 0))) :
    AJ g gv S d o p val V n a0 w0 (fun j => if j = i then true else b j) (a.put (some (i + 2)) x) w' := by
  have hmem : i + 2 ∈ [2, 3, 4, 5, 6, 7, 8, 9, 10] := by
    simp only [List.mem_cons, List.mem_nil_iff, or_false]
    omega
  have hsz : i + 2 < a.tmps.size := by rw [h.fr.size, hs]; omega
  have hat := put_at a (i + 2) x hsz
  have hot : ∀ k, k ≠ i + 2 → (a.put (some (i + 2)) x).tmps.getD k undef = a.tmps.getD k undef := fun k hk => put_other a (i + 2) k x hk
  refine ⟨h.fr.put hmem x, h.but.trans hb, (fun j hj => (if_neg (by omega)).trans (h.late j hj)), fun e => ?_, fun e => ?_, fun e => ?_, fun e => ?_, fun e => ?_, fun e => ?_, fun e => ?_⟩
  · by_cases ei : i = 0
    · subst ei; rw [hat]; exact n0 rfl
    · rw [hot 2 (by omega)]
      exact h.b0 (by simpa [show (0 : Nat) ≠ i by omega] using e)
  · by_cases ei : i = 1
    · subst ei; rw [hat]; exact n1 rfl
    · rw [hot 3 (by omega)]
      exact h.b1 (by simpa [show (1 : Nat) ≠ i by omega] using e)
  · by_cases ei : i = 2
    · subst ei; rw [hat]; exact n2 rfl
    · rw [hot 4 (by omega)]
      exact h.b2 (by simpa [show (2 : Nat) ≠ i by omega] using e)
  · by_cases ei : i = 3
    · subst ei; rw [hat]; exact n3 rfl
    · rw [hot 5 (by omega)]
      obtain ⟨cs, v, q, h1, h2, h3, h4⟩ := h.b3 (by simpa [show (3 : Nat) ≠ i by omega] using e)
      exact ⟨cs, v, q, h1, h2, h3.keep fun k hk hlt => hb.block k hlt (by omega), ⟨(k3 ei).trans h4.heap, h4.le⟩⟩
  · by_cases ei : i = 3
    · subst ei; simp at e
    · have h4 := h.n3 (by simpa [show (3 : Nat) ≠ i by omega] using e)
      exact ⟨(k3 ei).trans h4.heap, h4.le⟩
  · by_cases ei : i = 4
    · subst ei; rw [hat]; exact n4 rfl
    · rw [hot 6 (by omega)]
      exact h.b4 (by simpa [show (4 : Nat) ≠ i by omega] using e)
  · by_cases ei : i = 5
    · subst ei; rw [hat]; exact n5 rfl
    · rw [hot 7 (by omega)]
      obtain ⟨k, h1, h2, h3⟩ := h.b5 (by simpa [show (5 : Nat) ≠ i by omega] using e)
      exact ⟨k, h1, h2, (hb.block k (Array.getElem?_eq_some_iff.1 h3).1 (by omega)).trans h3⟩
theorem op_append {o : Oper} {a : Act} {w : World} {K : Act → World → Prop} {P : Program} {Q : Exit → Act → World → Prop} (s x : Operand) (t : TypeId)
    (ho : o.op = .call { callee := .builtin .append, args := #[s, x], argTypes := #[t, t] })
    (base : Nat) (e : TypeId) (size bytes : Nat) (ht : P.underlying t = some (.slice e)) (hinfo : ((P.info? e).bind fun i => i.zero.map fun z => (i.size, i.bytes, z.cells.size)) = some (size, bytes, size)) (hsz : 0 < size)
    (v : Value) (n : Nat) (xs : List Value) (hs : a.eval s = v) (hown : w.ownsRow base e size v n xs)
    (ad : Addr) (m c : Nat) (news : List Value) (hx : a.eval x = .slice (some ad) m c) (hl : news.length = m * size) (hnews : ∀ j u, news[j]? = some u → w.cell? (ad.add j) = some u) (h1 : ∀ u ∈ news, u.oneCell' = true)
    (h63 : n + m ≤ maxLen) (hbytes : (n + m) * bytes ≤ 140737488355328) (hbase : base ≤ w.heap.size)
    (h : ∀ v' w', w'.ownsRow base e size v' (n + m) (xs ++ news) → w.grownBy w' v.ownBlock → (v'.ownBlock = v.ownBlock ∨ v'.ownBlock = some w.heap.size) → K (a.put o.dst v') w') : o.wp P a w K Q := by
  obtain ⟨i, hi, h0⟩ := Option.bind_eq_some_iff.1 hinfo
  obtain ⟨z, hz, h0⟩ := Option.map_eq_some_iff.1 h0
  simp only [Prod.mk.injEq] at h0
  obtain ⟨hsize, hby, hzs⟩ := h0
  obtain ⟨v', w', hr, h2, h3, h4, h5⟩ := run_append_own_at (P := P) w base t o.type e i z size bytes ht hi hz hsize hby hzs hsz v n xs hown ad m c news hl hnews h1 h63 hbytes hbase
  unfold Oper.wp execOp
  simp only [ho, resolve, invoke, builtin, Sem.run_bind, Sem.run_pure, Result.andThen_ok, List.map_toArray, List.map_cons, List.map_nil, hs, hx, hr]
  exact h v' w' h2 h3 h5
theorem own_butg {B g : Nat} {E : TypeId} {sz n : Nat} {w w' : World} {v : Value} {xs : List Value} (h : w.ownsRow B E sz v n xs) (hb : But g w w') (hg : g < B) : w'.ownsRow B E sz v n xs := by
  refine World.ownsRow.kept (row := some g) h ⟨hb.os, hb.tape, hb.output, hb.size, fun k hk hne => hb.block k hk (fun e => hne (by rw [e]))⟩ ?_
  cases hv : v.ownBlock with
  | none => exact .inl rfl
  | some k =>
    refine .inr ?_
    have := (h.lt k hv).1
    simp only [ne_eq, Option.some.injEq]
    omega
set_option maxRecDepth 100000 in
set_option maxHeartbeats 8000000 in
theorem jelem_any (val : List UInt8 → PR JV) (hsh : ∀ v r r', val r = .ok v r' → r'.length < r.length) (g gv gb B : Nat) (S : List UInt8) (d o : Nat) (hV : ValC val g S d o) (hl : S.length ≤ 1000000) (hgv : g < B) (hvv : gv < B) (hbv : gb < B) (h1 : g ≠ gv) (h2 : g ≠ gb) (hbg : gb ≠ gv)
    (w : World) (l : List JV) (p : Nat) (V : Value) (cl : List (List Value)) (h : ArrIs g gv gb B S d o w l p V cl) :
    Calls Try.prog 82 #[.pointer (some ⟨gv, 0, none⟩), .pointer (some ⟨gb, 0, none⟩)] w fun e w' => ButV B g gv w w' ∧
      ((∃ v q V' cl', val (S.drop p) = .ok v (S.drop q) ∧ e = .returned (.tuple #[]) ∧ ArrIs g gv gb B S d o w' (l ++ [v]) q V' cl') ∨ ∃ n a, val (S.drop p) = .bad n ∧ e = .panicked (thrown n a)) := by
  have H := Lib.hid h
  have HV := Lib.hid hV
  have HS := Lib.hid hsh
  have hB := h.size
  have hfl := flat5_len h.reps
  have hlp := h.len
  have hple := h.rdr.le
  clear h hV hsh
  go_enter Try.func82, Try.ntmps82
  go_upto_region 0 with (fail)
  generalize ha0 : ({ tmps := #[Value.pointer (some ⟨gv, 0, none⟩), Value.pointer (some ⟨gb, 0, none⟩), undef, undef, undef, undef, undef, undef, undef, undef, undef], defers := [] } : Act) = a0
  have hs0 : a0.tmps.size = 11 := by rw [← ha0]; rfl
  have hd0 : a0.defers = [] := by rw [← ha0]
  have z0 : a0.tmps.getD 0 undef = .pointer (some ⟨gv, 0, none⟩) := by rw [← ha0]; rfl
  have z1 : a0.tmps.getD 1 undef = .pointer (some ⟨gb, 0, none⟩) := by rw [← ha0]; rfl
  clear ha0
  refine wp_region_inv (by kernel_rfl) (by kernel_rfl) (fun b a' w' => (b 6 = false ∧ AJ g gv S d o p val V l.length a0 w b a' w') ∨ ∃ cs v q k cap, val (S.drop p) = .ok v (S.drop q) ∧ AK g gv B S d o q V l cl cs v k cap a0 w b a' w') ?_ ?_ ?_
  · exact .inl ⟨rfl, Fr.refl _ _, ⟨rfl, rfl, rfl, Nat.le_refl _, fun _ _ _ => rfl⟩, (fun _ _ => rfl), (fun e => by cases e), (fun e => by cases e), (fun e => by cases e), (fun e => by cases e), fun _ => ⟨H.out.rdr.heap, H.out.rdr.le⟩, (fun e => by cases e), (fun e => by cases e)⟩
  · rintro b a' w' (⟨hb6, hJ⟩ | ⟨cs, v, q, k, cap, hok, hK⟩) i op ho hbi hdep
    · have t0 : a'.tmps.getD 0 undef = .pointer (some ⟨gv, 0, none⟩) := (hJ.fr.same 0 (by decide)).trans z0
      have t1 : a'.tmps.getD 1 undef = .pointer (some ⟨gb, 0, none⟩) := (hJ.fr.same 1 (by decide)).trans z1
      have hgl : g < w.heap.size := by omega
      rcases i with _ | _ | _ | _ | _ | _ | _ | _ | _ | _ | _ | i
      · cases ho
        refine op_step rfl rfl (op_value (v := .pointer (some ⟨gv, 3, none⟩)) (w' := w') ?_ (.inl ⟨by simpa using hb6, hJ.step hs0 hgl 0 (by decide) _ w' (But.refl g w') (fun _ => rfl) (fun e => absurd e (by decide)) (fun e => absurd e (by decide)) (fun e => absurd e (by decide)) (fun _ => rfl) (fun e => absurd e (by decide)) (fun e => absurd e (by decide))⟩))
        simp only [execOp, Act.eval, t0]
        go_simp
      · cases ho
        have e0 := hJ.b0 (dep_of hdep 0 (by kernel_rfl))
        have c3 : w'.cell? ⟨gv, 3, none⟩ = some V := by rw [Lib.cell_of_heap ((hJ.but.block gv (by omega) (Ne.symm h1)).trans H.out.blk)]; rfl
        refine op_step rfl rfl (op_value (v := V) (w' := w') ?_ (.inl ⟨by simpa using hb6, hJ.step hs0 hgl 1 (by decide) _ w' (But.refl g w') (fun e => absurd e (by decide)) (fun _ => rfl) (fun e => absurd e (by decide)) (fun e => absurd e (by decide)) (fun _ => rfl) (fun e => absurd e (by decide)) (fun e => absurd e (by decide))⟩))
        simp only [execOp, Act.eval, e0]
        go_simp
      · cases ho
        have cb : w'.cell? ⟨gb, 0, none⟩ = some (.pointer (some ⟨g, 0, none⟩)) := by
          rw [← H.out.box]
          unfold World.cell?
          rw [hJ.but.block gb (by omega) (Ne.symm h2)]
        refine op_step rfl rfl (op_value (v := .pointer (some ⟨g, 0, none⟩)) (w' := w') ?_ (.inl ⟨by simpa using hb6, hJ.step hs0 hgl 2 (by decide) _ w' (But.refl g w') (fun e => absurd e (by decide)) (fun e => absurd e (by decide)) (fun _ => rfl) (fun e => absurd e (by decide)) (fun _ => rfl) (fun e => absurd e (by decide)) (fun e => absurd e (by decide))⟩))
        simp only [execOp, Act.eval, t1]
        go_simp
      · cases ho
        have e2 := hJ.b2 (dep_of hdep 2 (by kernel_rfl))
        refine op_step rfl rfl (op_call ent_value rfl (by simp only [List.map_toArray, List.map_cons, List.map_nil, Act.eval, e2]) ((HV.out p w' (hJ.n3 hbi)).mono ?_))
        rintro e w'' ⟨hbu, ⟨cs, v, q, hok, rfl, hrep, hrd⟩ | ⟨n, at', hbad, rfl⟩⟩
        · refine .inl ⟨_, rfl, .inl ⟨by simpa using hb6, hJ.step hs0 hgl 3 (by decide) _ w'' hbu.out (fun e => absurd e (by decide)) (fun e => absurd e (by decide)) (fun e => absurd e (by decide)) (fun _ => ⟨cs, v, q, hok.out, rfl, hrep.out.mono fun k hk => Nat.le_trans hJ.but.size hk, hrd.out⟩) (fun e => absurd rfl e) (fun e => absurd e (by decide)) (fun e => absurd e (by decide))⟩⟩
        · refine .inr ⟨_, rfl, ?_⟩
          have hdf := hJ.fr.defers
          have HB := ButV.of_but (gv := gv) (hJ.but.trans hbu.out) hB
          have hbad' := hbad.out
          exact ⟨hdf.trans hd0, HB, .inr ⟨n, at', hbad', rfl⟩⟩
      · cases ho
        have e1 := hJ.b1 (dep_of hdep 1 (by kernel_rfl))
        obtain ⟨xa, xc, hVe, _⟩ : ∃ xa xc, V = .slice xa l.length xc ∧ True := by
          rcases H.out.own.2 with ⟨rfl, hn⟩ | ⟨x1, x2, x3, rfl, _⟩
          · exact ⟨_, _, by rw [hn], trivial⟩
          · exact ⟨_, _, rfl, trivial⟩
        refine op_step rfl rfl (op_value (v := .int .i64 (l.length : Nat)) (w' := w') ?_ (.inl ⟨by simpa using hb6, hJ.step hs0 hgl 4 (by decide) _ w' (But.refl g w') (fun e => absurd e (by decide)) (fun e => absurd e (by decide)) (fun e => absurd e (by decide)) (fun e => absurd e (by decide)) (fun _ => rfl) (fun _ => rfl) (fun e => absurd e (by decide))⟩))
        simp only [execOp, resolve, invoke, builtin]
        go_simp
      · cases ho
        refine op_step rfl rfl (op_value (v := .slice (some ⟨w'.heap.size, 0, none⟩) 1 1) (w' := w'.alloc (.cells zero5.toArray 28)) ?_ (.inl ⟨by simpa using hb6, hJ.step hs0 hgl 5 (by decide) _ _ ⟨rfl, rfl, rfl, by simp, fun k hk _ => (World.grownBy_alloc w' _ none).block k hk (by simp)⟩ (fun e => absurd e (by decide)) (fun e => absurd e (by decide)) (fun e => absurd e (by decide)) (fun e => absurd e (by decide)) (fun _ => (World.grownBy_alloc w' _ none).block g (Nat.lt_of_lt_of_le hgl hJ.but.size) (by simp)) (fun e => absurd e (by decide)) (fun _ => ⟨_, rfl, hJ.but.size, heap_alloc_new w' _⟩)⟩))
        simp only [execOp, Act.eval]
        go_simp
        rfl
      · cases ho
        have e1 := hJ.b1 (dep_of hdep 1 (by kernel_rfl))
        obtain ⟨cs, v, q, hok, e5, hrep, hrd⟩ := hJ.b3 (dep_of hdep 3 (by kernel_rfl))
        have e6 := hJ.b4 (dep_of hdep 4 (by kernel_rfl))
        obtain ⟨kz, e7, hkz, hz⟩ := hJ.b5 (dep_of hdep 5 (by kernel_rfl))
        have hown := own_butg H.out.own hJ.but hgv
        have hBw : B ≤ w'.heap.size := Nat.le_trans hB hJ.but.size
        refine op_step rfl rfl (op_append (.tmp 3) (.tmp 7) _ rfl B 28 5 80 rfl (by kernel_rfl) (by decide) V l.length cl.flatten e1 hown ⟨kz, 0, none⟩ 1 1 zero5 e7 rfl ?_ (by decide) (by simp only [maxLen]; omega) (by omega) hBw ?_)
        · intro j u hu
          rw [Addr.add_lit]
          rw [Lib.cell_of_heap hz]
          simpa using hu
        · intro v' w'' hown' hgr hat
          obtain ⟨k, cap, hve, hBk⟩ : ∃ k cap, v' = .slice (some ⟨k, 0, none⟩) (l.length + 1) cap ∧ B ≤ k := by
            rcases hown'.2 with ⟨_, hn⟩ | ⟨k, cap, cur, rfl, hk, _⟩
            · omega
            · exact ⟨k, cap, rfl, hk⟩
          have hk : V.ownBlock = some k ∨ k = w'.heap.size := by
            rw [hve] at hat
            simp only [Value.ownBlock, Option.some.injEq] at hat
            rcases hat with h | h
            · exact .inl h.symm
            · exact .inr h
          have hlow : ∀ j, V.ownBlock = some j → B ≤ j ∧ j < w.heap.size := H.out.own.lt
          subst hve
          have hwb : ∀ j, j < w'.heap.size → V.ownBlock ≠ some j → w''.heap[j]? = w'.heap[j]? := fun j hj hne => hgr.block j hj (fun e => hne e.symm)
          have hnoB : ∀ j, j < B → V.ownBlock ≠ some j := fun j hj e => by have := (hlow j e).1; omega
          refine .inr ⟨cs, v, q, k, cap, hok, ?_⟩
          refine ⟨hJ.fr.put (by decide) _, ?_, ?_, ?_, ?_, ?_, ?_, ?_, ?_, ?_, ?_, ?_, ?_⟩
          · exact (ButV.of_but hJ.but hB).trans ⟨hgr.os, hgr.tape, hgr.output, hgr.size, fun j hj _ _ => hwb j (by omega) (hnoB j hj)⟩
          · intro j hj
            by_cases ej : j = 6
            · simp [ej]
            · simp only [ej, if_false]
              have : j = 0 ∨ j = 1 ∨ j = 2 ∨ j = 3 ∨ j = 4 ∨ j = 5 := by omega
              rcases this with rfl | rfl | rfl | rfl | rfl | rfl <;> exact dep_of hdep _ (by kernel_rfl)
          · exact (put_other _ _ _ _ (by decide)).trans e5
          · exact (put_other _ _ _ _ (by decide)).trans e6
          · exact put_at _ _ _ (by rw [hJ.fr.size, hs0]; decide)
          · have hb8 : b 8 = false := hJ.late 8 (by decide)
            simpa [hb8] using hown'
          · refine (H.out.reps.lt.keep fun j hj hjl => ?_).mono fun j hj => ⟨hj.1.1, ?_⟩
            · rw [hwb j (Nat.lt_of_lt_of_le hj.2 hJ.but.size) hj.1.2]
              exact hJ.but.block j hj.2 (by have := hj.1.1; omega)
            · rintro rfl
              rcases hk with hk | hk
              · exact hj.1.2 hk
              · have := hj.2; have := hJ.but.size; omega
          · refine (hrep.lt.keep fun j hj hjl => ?_).mono fun j hj => ⟨by have := hj.1; omega, ?_⟩
            · exact hwb j hj.2 (fun e => by have := (hlow j e).2; have := hj.1; omega)
            · rintro rfl
              rcases hk with hk | hk
              · have := (hlow _ hk).2; have := hj.1; omega
              · have := hj.2; omega
          · exact ⟨(hwb g (by omega) (hnoB g hgv)).trans hrd.heap, hrd.le⟩
          · have hb10 : b 10 = false := hJ.late 10 (by decide)
            rw [if_neg (by simp [hb10])]
            exact (hwb gv (by omega) (hnoB gv hvv)).trans ((hJ.but.block gv (by omega) (Ne.symm h1)).trans H.out.blk)
          · intro e
            exact absurd e (by simp [hJ.late 7 (by decide)])
          · intro e
            exact absurd e (by simp [hJ.late 9 (by decide)])
      all_goals first | (cases ho; done) | (cases ho; have := dep_of hdep 6 (by kernel_rfl); rw [hb6] at this; cases this)
    · have hd : ∀ x, x ∈ [2, 3, 4, 5, 6, 7, 8, 9, 10] ∨ x ∉ [2, 3, 4, 5, 6, 7, 8, 9, 10] := fun x => Classical.em _
      have t0 : a'.tmps.getD 0 undef = .pointer (some ⟨gv, 0, none⟩) := (hK.fr.same 0 (by decide)).trans z0
      have hBk : B ≤ k := (hK.own.lt k rfl).1
      have hkl : k < w'.heap.size := (hK.own.lt k rfl).2
      have hi4 : i = 7 ∨ i = 8 ∨ i = 9 ∨ i = 10 := by
        have hlt : i < 11 := (List.getElem?_eq_some_iff.1 ho).1
        rcases Nat.lt_or_ge i 7 with h | h
        · exact absurd (hK.all i h) (by simp [hbi])
        · omega
      rcases hi4 with rfl | rfl | rfl | rfl
      · cases ho
        refine op_step rfl rfl (op_value (v := .pointer (some ⟨k, l.length * 5, none⟩)) (w' := w') ?_ (.inr ⟨cs, v, q, k, cap, hok, ?_⟩))
        · have hix : (l.length : Int) < ((l.length + 1 : Nat) : Int) := by omega
          simp only [execOp, Act.eval, hK.e8, hK.e6]
          go_simp
          intro hx
          omega
        · refine ⟨hK.fr.put (by decide) _, hK.but, ?_, ?_, ?_, ?_, ?_, hK.reps, hK.rep, hK.rdr, ?_, ?_, ?_⟩
          · intro j hj
            exact (if_neg (by omega)).trans (hK.all j hj)
          · exact (put_other _ _ _ _ (by decide)).trans hK.e5
          · exact (put_other _ _ _ _ (by decide)).trans hK.e6
          · exact (put_other _ _ _ _ (by decide)).trans hK.e8
          · simpa using hK.own
          · simpa using hK.blk
          · intro _
            exact put_at _ _ _ (by rw [hK.fr.size, hs0]; decide)
          · intro e
            exact (put_other _ _ _ _ (by decide)).trans (hK.b9 (by simpa using e))
      · cases ho
        have e9 := hK.b7 (dep_of hdep 7 (by kernel_rfl))
        have hb8 : b 8 = false := hbi
        have hown := hK.own
        rw [if_neg (by simp [hb8])] at hown
        obtain ⟨cur, hcur, hsz, hown'⟩ := own_put hown (cs := cs) (by rw [hK.rep.len]; rfl)
        rw [hfl] at hsz hown'
        refine op_step rfl rfl (op_store _ (.tmp 9) (.tmp 5) rfl rfl k (l.length * 5) cs e9 hK.e5 _ cur hcur (by rw [hK.rep.len]; kernel_rfl) hsz (rep_cells hK.rep) (.inr ⟨cs, v, q, k, cap, hok, ?_⟩))
        refine ⟨hK.fr, hK.but.trans ⟨rfl, rfl, rfl, by simp [World.setRow], fun j hj _ _ => setRow_other w' k j _ (by omega)⟩, ?_, hK.e5, hK.e6, hK.e8, ?_, ?_, ?_, ?_, ?_, ?_, ?_⟩
        · intro j hj
          exact (if_neg (by omega)).trans (hK.all j hj)
        · simpa using hown'
        · exact hK.reps.keep fun j hj _ => setRow_other w' k j _ hj.2
        · exact hK.rep.keep fun j hj _ => setRow_other w' k j _ hj.2
        · exact ⟨(setRow_other w' k g _ (by omega)).trans hK.rdr.heap, hK.rdr.le⟩
        · simpa using (setRow_other w' k gv _ (by omega)).trans hK.blk
        · intro e
          exact e9
        · intro e
          exact hK.b9 (by simpa using e)
      · cases ho
        refine op_step rfl rfl (op_value (v := .pointer (some ⟨gv, 3, none⟩)) (w' := w') ?_ (.inr ⟨cs, v, q, k, cap, hok, ?_⟩))
        · simp only [execOp, Act.eval, t0]
          go_simp
        · refine ⟨hK.fr.put (by decide) _, hK.but, ?_, ?_, ?_, ?_, ?_, hK.reps, hK.rep, hK.rdr, ?_, ?_, ?_⟩
          · intro j hj
            exact (if_neg (by omega)).trans (hK.all j hj)
          · exact (put_other _ _ _ _ (by decide)).trans hK.e5
          · exact (put_other _ _ _ _ (by decide)).trans hK.e6
          · exact (put_other _ _ _ _ (by decide)).trans hK.e8
          · simpa using hK.own
          · simpa using hK.blk
          · intro e
            exact (put_other _ _ _ _ (by decide)).trans (hK.b7 (by simpa using e))
          · intro _
            exact put_at _ _ _ (by rw [hK.fr.size, hs0]; decide)
      · cases ho
        have e10 := hK.b9 (dep_of hdep 9 (by kernel_rfl))
        have hb10 : b 10 = false := hbi
        have hblk := hK.blk
        have hset : ∀ j, j ≠ gv → (w'.setCell ⟨gv, 3, none⟩ (.slice (some ⟨k, 0, none⟩) (l.length + 1) cap)).heap[j]? = w'.heap[j]? := fun j hj => Below.heap_setCell _ _ _ _ hj
        have c3 : w'.cell? ⟨gv, 3, none⟩ = some V := by rw [Lib.cell_of_heap hblk]; simp [hb10]
        have f3 : w'.frozen? ⟨gv, 3, none⟩ = false := Lib.frozen_of_heap hblk 3
        refine op_step rfl rfl ?_
        refine op_skip (w' := w'.setCell ⟨gv, 3, none⟩ (.slice (some ⟨k, 0, none⟩) (l.length + 1) cap)) ?_ rfl (Or.inr ⟨cs, v, q, k, cap, hok, ?_⟩)
        · simp only [execOp, Act.eval, e10, hK.e8]
          go_simp
        refine ⟨hK.fr, hK.but.trans ⟨rfl, rfl, rfl, by simp [World.setCell], fun j hj _ hne => hset j hne⟩, ?_, hK.e5, hK.e6, hK.e8, ?_, ?_, ?_, ?_, ?_, ?_, ?_⟩
        · intro j hj
          exact (if_neg (by omega)).trans (hK.all j hj)
        · refine World.ownsRow.kept (w := w') (row := some gv) (by simpa using hK.own) ⟨rfl, rfl, rfl, by simp [World.setCell], fun j hj hne => hset j (fun e => hne (by rw [e]))⟩ (.inr ?_)
          simp only [Value.ownBlock, ne_eq, Option.some.injEq]
          omega
        · exact hK.reps.keep fun j hj _ => hset j (by omega)
        · exact hK.rep.keep fun j hj _ => hset j (by omega)
        · exact ⟨(hset g h1).trans hK.rdr.heap, hK.rdr.le⟩
        · rw [setCell_block hblk]
          simp
        · intro e
          exact hK.b7 (by simpa using e)
        · intro e
          exact e10
  · rintro b a' w' (⟨hb6, hJ⟩ | ⟨cs, v, q, k, cap, hok, hK⟩) hdone
    · rw [hdone 6 (by decide)] at hb6
      cases hb6
    · have hown := hK.own
      have hblk := hK.blk
      rw [if_pos (hdone 8 (by decide))] at hown
      rw [if_pos (hdone 10 (by decide))] at hblk
      have hsh := HS.out v _ _ hok
      have hqle := hK.rdr.le
      simp only [List.length_drop] at hsh
      refine ⟨hK.fr.defers.trans hd0, .tuple #[], by simp [results, go_sem], hK.but, .inl ⟨v, q, _, cl ++ [cs], hok, rfl, hK.rdr, ?_, hblk, ?_, ?_, Nat.le_trans hB hK.but.size, ?_⟩⟩
      · rw [← H.out.box]
        unfold World.cell?
        rw [hK.but.block gb (by omega) (Ne.symm h2) hbg]
      · simpa using hown
      · refine (Reps.snoc hK.reps hK.rep).mono fun j hj => ⟨hj.1, ?_⟩
        simp only [Value.ownBlock, ne_eq, Option.some.injEq]
        exact fun e => hj.2 e.symm
      · simp only [List.length_append, List.length_cons, List.length_nil]
        omega
end Go.Proofs.Ytfcokdkbjajohaa
