/- text.Show. -/
import Derived.Test.YtgmieceebchmfaaDoorTxtX
import Derived.Test.YtgmieceebchmfaaDoorTxtQ
set_option linter.unusedVariables false
namespace Go.Proofs.YtgmieceebchmfaaDoor
open Go.RowKit

theorem ent_escape : ∀ args w, (callFunc 15 args).run Tryd.prog w = .ok (.enter 15 args) w := run_enters Tryd.func15 (by kernel_rfl) rfl
def VOne (x : List UInt8) : Value → World → Prop := fun v w => ∃ g, v = .slice (some ⟨g, 0, none⟩) 1 1 ∧ w.heap[g]? = some (.cells #[.string ⟨x.toArray⟩] 9 (0, 0))
theorem VOne.stab (x : List UInt8) : Stab (VOne x) := fun v w1 w2 ⟨g, e, h⟩ hb => ⟨g, e, (hb.block _ (Array.getElem?_eq_some_iff.1 h).1).trans h⟩
theorem grow_one {Q : Exit → Act → World → Prop} {o : Oper} {a : Act} {w : World} {x : Operand} {m : List UInt8} (ho : o.op = .buildSlice 64 1 #[(0, x)]) (hx : a.eval x = .string ⟨m.toArray⟩) : o.wp Tryd.prog a w (Grew o.dst (VOne m) a w) Q := by
  refine grow_value (v := .slice (some ⟨w.heap.size, 0, none⟩) 1 1) (w' := w.alloc (.cells #[.string ⟨m.toArray⟩] 9)) ?_ ⟨_, rfl, heap_alloc_new _ _⟩ ((Below.refl _ _).alloc (Nat.le_refl _) _)
  simp only [execOp, ho, List.map_toArray, List.map_cons, List.map_nil, hx]
  go_simp
theorem join_le (k : Nat) : ∀ (L : List (List UInt8)), (∀ x ∈ L, x.length ≤ k) → (Lib.join L [38]).length ≤ L.length * (k + 1)
  | [], _ => by simp [Lib.join]
  | [x], h => by rw [Lib.join_one]; have := h x (by simp); simp; omega
  | x :: y :: r, h => by
    rw [join_two]
    have h1 := join_le k (y :: r) (fun z hz => h z (by simp [hz]))
    have h2 := h x (by simp)
    simp only [List.length_append, List.length_cons, List.length_nil] at h1 ⊢
    rw [Nat.add_mul (r.length + 1) 1, Nat.one_mul]
    omega
theorem showP_len (p : PairL) : (showP p).length ≤ 3 * p.1.length + 3 * p.2.length + 1 := by
  have h1 := escT_len p.1
  have h2 := escT_len p.2
  unfold showP
  simp only [List.length_append, List.length_cons]
  omega
/-- Pairs that may be shown. -/
def Shown (l : List PairL) : Prop := l.length ≤ 32 ∧ ∀ p ∈ l, p.1.length ≤ 1000 ∧ p.2.length ≤ 1000
theorem Shown.len {l : List PairL} (h : Shown l) : (Lib.join (l.map showP) [38]).length ≤ 200000 := by
  have h1 := join_le 6001 (l.map showP) (fun x hx => by
    obtain ⟨p, hp, rfl⟩ := List.mem_map.1 hx
    have := showP_len p
    have := h.2 p hp
    omega)
  rw [List.length_map] at h1
  have := h.1
  have : l.length * (6001 + 1) ≤ 32 * 6002 := Nat.mul_le_mul this (Nat.le_refl _)
  omega

set_option maxRecDepth 100000 in
set_option maxHeartbeats 8000000 in
theorem show_any (a : Option Addr) (c : Nat) (l : List PairL) (w : World) (hr : RdC w a (l.flatMap paircell)) (hs : Shown l) :
    Calls Tryd.prog 26 #[.slice a l.length c] w fun e w' => e = .returned (.string ⟨(Lib.join (l.map showP) [38]).toArray⟩) ∧ Below w.heap.size w w' := by
  obtain ⟨i0, hi, hz0, hz1, hz2⟩ := info_parts info_str
  have HI := Lib.hid hi
  have HZ0 := Lib.hid hz0
  have HZ1 := Lib.hid hz1
  have HZ2 := Lib.hid hz2
  have HR := Lib.hid hr
  have HJL := Lib.hid hs.len
  have HSP := Lib.hid hs.2
  have hl32 := hs.1
  clear hi hz0 hz1 hz2 hr hs
  go_enter Tryd.func26, Tryd.ntmps26
  go_wp2_with fail
  go_loopg [3, 8] l.length (fun k out y wr => ∃ j : Nat, y = .int .i64 (j : Int) ∧ j + k = l.length ∧ Hid (wr.ownsRow w.heap.size 9 1 out j (strs ((l.take j).map showP))) ∧ Hid (Below w.heap.size w wr))
  case atStart => exact ⟨0, rfl, by omega, Lib.hid (World.ownsRow_nil _ _ _ _), Lib.hid (Below.refl _ _)⟩
  case round =>
    obtain ⟨j, rfl, hj, HW, HB⟩ := hrel
    have hszB : w.heap.size ≤ wr.heap.size := HB.out.size
    obtain ⟨ao, co, hout, hro, hco⟩ := RdC.of_own HW.out
    subst hout
    have HRO := Lib.hid hro
    clear hro
    by_cases hlt : j < l.length
    · have hltI : (j : Int) < (l.length : Int) := by omega
      obtain ⟨b, off, rfl, c1, c2⟩ := pair_get (HR.out.below HB.out) hlt
      obtain ⟨hp1, hp2⟩ := HSP.out l[j] (List.getElem_mem _)
      have htk : l.take (j + 1) = l.take j ++ [l[j]] := by rw [List.take_succ_eq_append_getElem hlt]
      generalize l[j] = p at *
      obtain ⟨pn, pv⟩ := p
      simp only at c1 c2 hp1 hp2
      have HTK := Lib.hid htk
      clear htk
      have he1 := escT_len pn
      have he2 := escT_len pv
      go_upto_region 5 with (fail)
      have hba : Below wr.heap.size wr (wr.alloc (.cells #[.string ⟨pn.toArray⟩, .string ⟨pv.toArray⟩] 38)) := (Below.refl _ _).alloc (Nat.le_refl _) _
      have hkp := heap_alloc_new wr (.cells #[.string ⟨pn.toArray⟩, .string ⟨pv.toArray⟩] 38)
      have d0 : (wr.alloc (.cells #[.string ⟨pn.toArray⟩, .string ⟨pv.toArray⟩] 38)).cell? ⟨wr.heap.size, 0, none⟩ = some (.string ⟨pn.toArray⟩) := by rw [Lib.cell_of_heap hkp]; rfl
      have d1 : (wr.alloc (.cells #[.string ⟨pn.toArray⟩, .string ⟨pv.toArray⟩] 38)).cell? ⟨wr.heap.size, 1, none⟩ = some (.string ⟨pv.toArray⟩) := by rw [Lib.cell_of_heap hkp]; rfl
      have D1 := Lib.hid d0
      have D2 := Lib.hid d1
      have HB1 := Lib.hid (HB.out.trans (hba.mono hszB))
      have HW1 := Lib.hid (own_below HW.out hba)
      clear hba hkp c1 c2 d0 d1 HB HW HRO
      generalize (wr.alloc (.cells #[.string ⟨pn.toArray⟩, .string ⟨pv.toArray⟩] 38)) = wn at *
      have hszN : w.heap.size ≤ wn.heap.size := HB1.out.size
      refine wp_region_grow_tail 10 (by kernel_rfl) (by kernel_rfl) (by decide) (by kernel_rfl) [12, 13, 14, 15, 16, 17, 18, 19, 20, 21] rfl (by decide) (by kernel_rfl) (fun iX => [VIs (.slice ao j co), VIs (.pointer (some ⟨wr.heap.size, 0, none⟩)), VIs (.string ⟨pn.toArray⟩), VIs (.string ⟨(escT pn).toArray⟩), VIs (.string ⟨(escT pn ++ ([61] : List UInt8)).toArray⟩), VIs (.pointer (some ⟨wr.heap.size, 1, none⟩)), VIs (.string ⟨pv.toArray⟩), VIs (.string ⟨(escT pv).toArray⟩), VIs (.string ⟨(showP (pn, pv)).toArray⟩), VOne (showP (pn, pv))].getD iX fun _ _ => True) (stab_list _ ?_) ?_ ?_
      · skip
        intro V hV
        simp only [List.mem_cons, List.mem_nil_iff, or_false] at hV
        rcases hV with rfl | rfl | rfl | rfl | rfl | rfl | rfl | rfl | rfl | rfl <;> first | exact VIs.stab _ | exact VOne.stab _ | exact VStr.stab _ | exact VParts.stab _ | exact VRow.stab _ | exact VRow8.stab _ _ | exact VRowIs.stab _ _ _
      · intro iX o ho a' w' hf hb hd
        rcases iX with _ | _ | _ | _ | _ | _ | _ | _ | _ | _ | iX
        · cases ho
          refine grow_op rfl rfl rfl (grow_move rfl ?_)
          exact (hf.same 3 (by decide)).trans rfl
        · cases ho
          refine grow_op rfl rfl rfl ?_
          have e5 : a'.tmps.getD 5 undef = .pointer (some ⟨wr.heap.size, 0, none⟩) := (hf.same 5 (by decide)).trans rfl
          refine grow_value (v := .pointer (some ⟨wr.heap.size, 0, none⟩)) (w' := w') ?_ rfl (Below.refl _ _)
          simp only [execOp, Act.eval]
          go_simp
        · cases ho
          refine grow_op rfl rfl rfl ?_
          have e1 : a'.tmps.getD 13 undef = .pointer (some ⟨wr.heap.size, 0, none⟩) := hd 1 (by kernel_rfl)
          have c1 := cell_now hb D1.out
          refine grow_value (v := .string ⟨pn.toArray⟩) (w' := w') ?_ rfl (Below.refl _ _)
          simp only [execOp, Act.eval, e1]
          go_simp
        · cases ho
          refine grow_op rfl rfl rfl ?_
          have e2 : a'.tmps.getD 14 undef = .string ⟨pn.toArray⟩ := hd 2 (by kernel_rfl)
          refine grow_call ent_escape rfl ?_
          simp only [List.map_toArray, List.map_cons, List.map_nil, Act.eval, e2]
          exact (escape_any pn w' (by omega)).mono (fun e w'' ⟨h1, h2⟩ => ⟨_, h1, rfl, h2⟩)
        · cases ho
          refine grow_op rfl rfl rfl ?_
          have e3 : a'.tmps.getD 15 undef = .string ⟨(escT pn).toArray⟩ := hd 3 (by kernel_rfl)
          refine grow_value (v := .string ⟨(escT pn ++ ([61] : List UInt8)).toArray⟩) (w' := w') ?_ rfl (Below.refl _ _)
          simp only [execOp, Act.eval, e3]
          go_simp
          rw [if_neg (by omega)]
          exact congrArg (fun x => Result.ok (Next.value (Value.string x)) w') (str_cat (escT pn) [61])
        · cases ho
          refine grow_op rfl rfl rfl ?_
          have e5 : a'.tmps.getD 5 undef = .pointer (some ⟨wr.heap.size, 0, none⟩) := (hf.same 5 (by decide)).trans rfl
          refine grow_value (v := .pointer (some ⟨wr.heap.size, 1, none⟩)) (w' := w') ?_ rfl (Below.refl _ _)
          simp only [execOp, Act.eval]
          go_simp
        · cases ho
          refine grow_op rfl rfl rfl ?_
          have e5 : a'.tmps.getD 17 undef = .pointer (some ⟨wr.heap.size, 1, none⟩) := hd 5 (by kernel_rfl)
          have c1 := cell_now hb D2.out
          refine grow_value (v := .string ⟨pv.toArray⟩) (w' := w') ?_ rfl (Below.refl _ _)
          simp only [execOp, Act.eval, e5]
          go_simp
        · cases ho
          refine grow_op rfl rfl rfl ?_
          have e6 : a'.tmps.getD 18 undef = .string ⟨pv.toArray⟩ := hd 6 (by kernel_rfl)
          refine grow_call ent_escape rfl ?_
          simp only [List.map_toArray, List.map_cons, List.map_nil, Act.eval, e6]
          exact (escape_any pv w' (by omega)).mono (fun e w'' ⟨h1, h2⟩ => ⟨_, h1, rfl, h2⟩)
        · cases ho
          refine grow_op rfl rfl rfl ?_
          have e4 : a'.tmps.getD 16 undef = .string ⟨(escT pn ++ ([61] : List UInt8)).toArray⟩ := hd 4 (by kernel_rfl)
          have e7 : a'.tmps.getD 19 undef = .string ⟨(escT pv).toArray⟩ := hd 7 (by kernel_rfl)
          refine grow_value (v := .string ⟨(showP (pn, pv)).toArray⟩) (w' := w') ?_ rfl (Below.refl _ _)
          simp only [execOp, Act.eval, e4, e7]
          go_simp
          rw [if_neg (by omega), str_cat]
          simp [showP]
        · cases ho
          refine grow_op rfl rfl rfl ?_
          exact grow_one rfl (hd 8 (by kernel_rfl))
        · simp at ho
      · intro a' w' hf hb hd
        obtain ⟨gb, hv21, hbk⟩ := hd 9 (by decide)
        obtain rfl := hf.eq [Value.slice ao j co, Value.pointer (some ⟨wr.heap.size, 0, none⟩), Value.string ⟨pn.toArray⟩, Value.string ⟨(escT pn).toArray⟩, Value.string ⟨(escT pn ++ ([61] : List UInt8)).toArray⟩, Value.pointer (some ⟨wr.heap.size, 1, none⟩), Value.string ⟨pv.toArray⟩, Value.string ⟨(escT pv).toArray⟩, Value.string ⟨(showP (pn, pv)).toArray⟩, Value.slice (some ⟨gb, 0, none⟩) 1 1] (fun j hj => match j, hj with
          | 0, _ => hd 0 (by decide)
          | 1, _ => hd 1 (by decide)
          | 2, _ => hd 2 (by decide)
          | 3, _ => hd 3 (by decide)
          | 4, _ => hd 4 (by decide)
          | 5, _ => hd 5 (by decide)
          | 6, _ => hd 6 (by decide)
          | 7, _ => hd 7 (by decide)
          | 8, _ => hd 8 (by decide)
          | 9, _ => hv21
          | k + 10, h => absurd h (by simp)) (by decide) (by kernel_rfl) rfl
        simp only [List.zip_cons_cons, List.zip_nil_right, List.foldl_cons, List.foldl_nil, Act.put, List.setIfInBounds_toArray, List.set_cons_succ, List.set_cons_zero]
        have HW2 := Lib.hid (own_below HW1.out hb)
        have HB2 := Lib.hid (HB1.out.trans (hb.mono hszN))
        have HG2 := Lib.hid hbk
        have hszM : w.heap.size ≤ w'.heap.size := HB2.out.size
        clear hd hf hb hbk hv21 HW1 HB1 D1 D2
        (refine wpList_append_new rfl (.tmp 12) (.tmp 21) 64 rfl w.heap.size 9 i0 _ 1 16 Tryd.underlying64 HI.out HZ0.out HZ1.out HZ2.out rfl (by decide) _ _ _ rfl HW2.out gb 1 #[.string ⟨(showP (pn, pv)).toArray⟩] 9 (0, 0) ?c1 rfl rfl ?c2 ?c3 ?c4 ?c5 ?_)
        case c1 => exact HG2.out
        case c2 => intro u hu; simp at hu; subst hu; rfl
        case c3 => omega
        case c4 => omega
        case c5 => exact hszM
        intro v' w4 hown' hgrow
        have hb4 := below_own HB2.out HW2.out hgrow hszM
        have HW4 := Lib.hid hown'
        have HB4 := Lib.hid hb4
        clear hown' hgrow hb4 HW2 HB2 HG2
        go_wp2_with fail
        go_roundg (gk - 1)
        case measure => omega
        case rel => exact ⟨j + 1, by first | rfl | (congr 1), by omega, Lib.hid (by rw [HTK.out]; have := HW4.out; simpa [strs] using this), HB4⟩
    · have hltI : ¬ (j : Int) < (l.length : Int) := by omega
      obtain rfl : j = l.length := by omega
      have HRO2 := Lib.hid HRO.out
      by_cases h0 : l = []
      · subst h0
        go_wp2_with fail
        refine (Tryd.strings_Join_none ao co ⟨#[38]⟩ wr).mono ?_
        rintro e w1 ⟨rfl, rfl⟩
        go_wp2_with fail
        go_ret
        exact ⟨rfl, HB.out⟩
      · have hro := HRO.out
        rw [List.take_length] at hro
        obtain ⟨bo, offo, rfl, hc⟩ := hro.at (by simp [strs, h0])
        have hlp : 0 < l.length := List.length_pos_iff.2 h0
        have hc0 := hc 0 (.string ⟨(showP (l[0]'hlp)).toArray⟩) (by simp [strs, List.getElem?_eq_getElem hlp])
        have hj := Tryd.strings_Join bo offo co ((l.map showP).map fun p => (⟨p.toArray⟩ : ByteArray)) ⟨#[38]⟩ wr (fun i x hx => hc i _ (by
          simp only [List.getElem?_map] at hx
          simp only [strs, List.getElem?_map]
          cases h : l[i]? with
          | none => rw [h] at hx; simp at hx
          | some p => rw [h] at hx; simp at hx ⊢; rw [← hx])) (World.block_lt_of_cell? _ _ hc0) (by simp; omega) (by simpa using hco)
          (by
            have e : (((l.map showP).map fun p => (⟨p.toArray⟩ : ByteArray)).map (·.data.toList)) = l.map showP := by simp
            rw [e]
            have := HJL.out
            exact Nat.le_trans this (by decide))
        rw [show (((l.map showP).map fun p => (⟨p.toArray⟩ : ByteArray)).map (·.data.toList)) = l.map showP by simp] at hj
        simp only [List.length_map] at hj
        have HJ := Lib.hid hj
        clear hj hc hro hc0
        go_wp2_with fail
        refine HJ.out.mono ?_
        rintro e w1 ⟨rfl, hb1⟩
        have HB1 := Lib.hid (HB.out.trans (hb1.mono hszB))
        clear hb1
        go_wp2_with fail
        go_ret
        exact ⟨rfl, HB1.out⟩
end Go.Proofs.YtgmieceebchmfaaDoor
