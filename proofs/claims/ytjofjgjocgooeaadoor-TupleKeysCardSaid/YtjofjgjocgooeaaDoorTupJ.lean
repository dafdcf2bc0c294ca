/- tuple.Read. -/
import Derived.Test.YtjofjgjocgooeaaDoorTupI
set_option linter.unusedVariables false
namespace Go.Proofs.YtjofjgjocgooeaaDoor
open Go.RowKit

def ReadIs (s : List UInt8) (e : Ending) (w' : World) : Prop :=
  (∃ l a c, readL s = some l ∧ e = .returned (.tuple #[.slice a l.length c, .int .i64 0]) ∧ RdC w' a (pcells l)) ∨ (readL s = none ∧ e = .returned (.tuple #[.slice none 0 0, .int .i64 10]))
theorem info_tp : (Tryd.prog.info? 39).map (fun i => (i.zero, i.size, i.bytes)) = some (some (.agg #[.bool false, .int .i64 0, .string ⟨#[]⟩]), 3, 32) := by kernel_rfl

set_option maxRecDepth 100000 in
set_option maxHeartbeats 8000000 in
theorem read_any (s : List UInt8) (w : World) (hs : s.length ≤ 1000000) :
    Calls Tryd.prog 16 #[.string ⟨s.toArray⟩] w fun e w' => ReadIs s e w' ∧ Below w.heap.size w w' := by
  obtain ⟨i0, hi, hz0, hz1, hz2⟩ := info_parts info_tp
  have HI := Lib.hid hi
  have HZ0 := Lib.hid hz0
  have HZ1 := Lib.hid hz1
  have HZ2 := Lib.hid hz2
  clear hi hz0 hz1 hz2
  go_enter Tryd.func16, Tryd.ntmps16
  go_wp2_with fail
  go_loopg [0, 4] s.length (fun k key out wr => ∃ (l : List TP) (r : List UInt8), key = .string ⟨r.toArray⟩ ∧ r.length = k ∧ Hid (readL s = (readL r).map (l ++ ·)) ∧ l.length + r.length ≤ s.length ∧ Hid (wr.ownsRow w.heap.size 39 3 out l.length (pcells l)) ∧ Hid (Below w.heap.size w wr))
  case atStart => exact ⟨[], s, rfl, rfl, Lib.hid (by cases readL s <;> simp), by simp, Lib.hid (World.ownsRow_nil _ _ _ _), Lib.hid (Below.refl _ _)⟩
  case round =>
    obtain ⟨l, r, rfl, hr, HRL, hlr, HW, HB⟩ := hrel
    cases r with
    | nil =>
      have hrl := HRL.out
      rw [show readL [] = some [] from rfl, Option.map_some, List.append_nil] at hrl
      obtain ⟨a', c', rfl, hrd, _⟩ := RdC.of_own HW.out
      have HRD := Lib.hid hrd
      have HR1 := Lib.hid hrl
      clear hrd hrl
      go_wp2_with fail
      go_ret2
      exact ⟨.inl ⟨l, a', c', HR1.out, rfl, HRD.out⟩, HB.out⟩
    | cons b q =>
      have hrl := HRL.out
      rw [readL_cons] at hrl
      have HR1 := Lib.hid hrl
      clear hrl HRL
      simp only [List.length_cons] at hr hlr
      have hix : ∀ w, (Instr.index 9 (.string ⟨(b :: q).toArray⟩) (.int .i64 0)).run Tryd.prog w = .ok (.int .u8 (b.toNat : Nat)) w := fun w => str_at (b :: q) 0 (by simp) w
      have hsl : ∀ w, (Instr.slice 9 (.string ⟨(b :: q).toArray⟩) (some (.int .i64 1)) none none).run Tryd.prog w = .ok (.string ⟨q.toArray⟩) w := fun w => str_tail (b :: q) 1 (by simp) 1 rfl w
      by_cases hb2 : b = 2
      · subst hb2
        go_wp2_with fail
        refine (figures_any q wr (by omega)).mono ?_
        rintro e w1 ⟨rfl, hb1⟩
        have HB1 := Lib.hid (HB.out.trans (hb1.mono HB.out.size))
        have hszB : w.heap.size ≤ w1.heap.size := HB1.out.size
        unfold figuresV
        have hr1 := HR1.out
        rw [show oneL 2 q = (figuresL q).map fun x => (⟨true, x.1, []⟩, x.2) from rfl] at hr1
        cases hf : figuresL q with
        | none =>
          rw [hf] at hr1
          have HR2 := Lib.hid hr1
          clear hr1 HR1 hb1
          simp only
          go_wp2_with fail
          go_ret2
          exact ⟨.inr ⟨HR2.out, rfl⟩, HB1.out.alloc hszB _⟩
        | some x =>
          obtain ⟨x, y⟩ := x
          rw [hf] at hr1
          simp only [Option.map_some, Option.bind_some] at hr1
          rw [show (Option.map (fun x_1 => l ++ x_1) (Option.map (fun x_1 => (⟨true, x, []⟩ : TP) :: x_1) (readL y))) = (readL y).map ((l ++ [⟨true, x, []⟩]) ++ ·) by cases readL y <;> simp] at hr1
          have HR2 := Lib.hid hr1
          have hyl : y.length + 8 = q.length := by
            have h1 := (figuresL_some hf).1
            have h2 := beN_len 8 (turnN x)
            have h3 := congrArg List.length h1
            rw [List.length_append] at h3
            omega
          clear hr1 HR1 hf
          simp only
          go_wp2_with (at_builtin; refine wpList_append_new rfl (.tmp 34) (.tmp 36) 22 rfl w.heap.size 39 i0 _ 3 32 Tryd.underlying22 HI.out HZ0.out HZ1.out HZ2.out rfl (by decide) _ _ _ rfl ((own_below HW.out hb1).alloc _ |>.alloc _) (w1.heap.size + 1) 1 #[.bool true, .int .i64 x, .string ⟨#[]⟩] 39 (0, 0) ?c1 rfl rfl ?c2 ?c3 ?c4 ?c5 ?_)
          case c1 => first | exact heap_new2 _ _ _ | exact (Array.getElem?_eq_some_iff.1 (heap_new2 w1 _ _)).2
          case c2 => exact ⟨rfl, rfl, rfl⟩
          case c3 => omega
          case c4 => omega
          case c5 => simp; omega
          intro v' w2 hown' hgrow
          have hb2 := below_own ((HB1.out.alloc HB1.out.size _).alloc (by simp; omega) _) (((own_below HW.out hb1).alloc _).alloc _) hgrow (by simp; omega)
          have HW2 := Lib.hid hown'
          have HB2 := Lib.hid hb2
          clear hown' hgrow hb2 hb1 hszB
          go_wp2_with fail
          go_roundg y.length
          case measure => omega
          case rel => exact ⟨l ++ [⟨true, x, []⟩], y, rfl, rfl, Lib.hid (by rw [HR2.out]; try simp), by simp; omega, Lib.hid (by have := HW2.out; simpa [pcells, pcell] using this), HB2⟩
      · have hbI : ¬ ((b.toNat : Nat) : Int) = 2 := fun e => hb2 (UInt8.toNat_inj.1 (by show b.toNat = 2; omega))
        have hbI2 : (((b.toNat : Nat) : Int) == 2) = false := by simpa using hbI
        go_wp2_with fail
        refine (words_any q wr (by omega)).mono ?_
        rintro e w1 ⟨rfl, hb1⟩
        have HB1 := Lib.hid (HB.out.trans (hb1.mono HB.out.size))
        have hszB : w.heap.size ≤ w1.heap.size := HB1.out.size
        unfold wordsV
        have hr1 := HR1.out
        rw [show oneL b q = if b = 1 then (wordsL q).map fun x => (⟨false, 0, x.1⟩, x.2) else none by unfold oneL; rw [if_neg hb2]] at hr1
        cases hf : wordsL q with
        | none =>
          rw [hf] at hr1
          have hr2 : readL s = none := by rw [hr1]; split <;> rfl
          have HR2 := Lib.hid hr2
          clear hr1 hr2 HR1 hb1
          simp only
          go_wp2_with fail
          go_ret2
          exact ⟨.inr ⟨HR2.out, rfl⟩, HB1.out.alloc hszB _⟩
        | some x =>
          obtain ⟨x, y⟩ := x
          rw [hf] at hr1
          by_cases hb1' : b = 1
          · subst hb1'
            rw [if_pos rfl] at hr1
            simp only [Option.map_some, Option.bind_some] at hr1
            rw [show (Option.map (fun x_1 => l ++ x_1) (Option.map (fun x_1 => (⟨false, 0, x⟩ : TP) :: x_1) (readL y))) = (readL y).map ((l ++ [⟨false, 0, x⟩]) ++ ·) by cases readL y <;> simp] at hr1
            have HR2 := Lib.hid hr1
            have hyl : y.length < q.length := wordsL_len _ _ _ _ (Nat.le_refl _) hf
            clear hr1 HR1 hf hbI hbI2
            simp only
            go_wp2_with (at_builtin; refine wpList_append_new rfl (.tmp 34) (.tmp 36) 22 rfl w.heap.size 39 i0 _ 3 32 Tryd.underlying22 HI.out HZ0.out HZ1.out HZ2.out rfl (by decide) _ _ _ rfl ((own_below HW.out hb1).alloc _ |>.alloc _) (w1.heap.size + 1) 1 #[.bool false, .int .i64 0, .string ⟨x.toArray⟩] 39 (0, 0) ?d1 rfl rfl ?d2 ?d3 ?d4 ?d5 ?_)
            case d1 => first | exact heap_new2 _ _ _ | exact (Array.getElem?_eq_some_iff.1 (heap_new2 w1 _ _)).2
            case d2 => exact ⟨rfl, rfl, rfl⟩
            case d3 => omega
            case d4 => omega
            case d5 => simp; omega
            intro v' w2 hown' hgrow
            have hb2 := below_own ((HB1.out.alloc HB1.out.size _).alloc (by simp; omega) _) (((own_below HW.out hb1).alloc _).alloc _) hgrow (by simp; omega)
            have HW2 := Lib.hid hown'
            have HB2 := Lib.hid hb2
            clear hown' hgrow hb2 hb1 hszB
            go_wp2_with fail
            go_roundg y.length
            case measure => omega
            case rel => exact ⟨l ++ [⟨false, 0, x⟩], y, rfl, rfl, Lib.hid (by rw [HR2.out]; try simp), by simp; omega, Lib.hid (by have := HW2.out; simpa [pcells, pcell] using this), HB2⟩
          · have hbI1 : ¬ ((b.toNat : Nat) : Int) = 1 := fun e => hb1' (UInt8.toNat_inj.1 (by show b.toNat = 1; omega))
            have hbI1' : (((b.toNat : Nat) : Int) != 1) = true := by simpa using hbI1
            have hbI3 : (((b.toNat : Nat) : Int) != 2) = true := by simpa using hbI
            rw [if_neg hb1'] at hr1
            have HR2 := Lib.hid hr1
            clear hr1 HR1 hb1 hf
            simp only
            go_wp2_with fail
            go_ret2
            exact ⟨.inr ⟨HR2.out, rfl⟩, HB1.out.alloc hszB _⟩
end Go.Proofs.YtjofjgjocgooeaaDoor
