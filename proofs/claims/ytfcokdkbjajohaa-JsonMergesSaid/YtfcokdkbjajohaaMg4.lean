/- Merged: JsW, JsX, JsXn, Tl, GrowB, TxtB, TxtC, TxtD, JsY, JsBa, JsNu, Build, BuildS, BldZ, RowF. -/
import Derived.Defers
import Derived.Recover
import Derived.Laws.Pointers
import Derived.Maps.AppendAt
import Derived.ArgAppend
import Derived.Deep.Upon
import Derived.Test.YtfcokdkbjajohaaProg
import Derived.WalkSpells
import Derived.Deep.LoopGhost
import Derived.Deep.DeepCutAuto
import Derived.WalkKit
import Derived.WalkLawsBesides
import Derived.KernelRfl
import Derived.Lib.Builder
import Derived.Lib.OthersKept
import Derived.Lib.FrozenHead2
import Derived.Lib.Hide
import Derived.Lib.AppendStr
import Derived.Test.YtfcokdkbjajohaaMg1
import Derived.Test.YtfcokdkbjajohaaMg2
import Derived.Test.YtfcokdkbjajohaaMg3
/- json: caught. -/
set_option linter.unusedVariables false
namespace Go.Proofs.Ytfcokdkbjajohaa
open Go.RowKit

theorem wp_frame_to {P : Program} {c : Code} {Q : Exit → Act → World → Prop} {a a' : Act} {w : World} (ha : a = a') (h : c.wp P Q a' w) : c.wp P Q a w := ha ▸ h
structure CJ (rv rf : Nat) (E A : Int) (w : World) (a0 : Act) (b : Nat → Bool) (a : Act) (w' : World) : Prop where
  fr : Fr [16, 17] a0 a
  b0 : b 0 = true → a.tmps.getD 16 undef = .agg #[.int .i64 0, .bool false, .string ⟨#[]⟩, .slice none 0 0, .slice none 0 0]
  b1 : b 1 = true → a.tmps.getD 17 undef = .agg #[.int .i64 E, .int .i64 A]
  hrv : w'.heap[rv]? = some (.cells #[.int .i64 0, .bool false, .string ⟨#[]⟩, .slice none 0 0, .slice none 0 0] 28 (0, 0))
  hrf : w'.heap[rf]? = some (.cells (if b 3 then #[.int .i64 E, .int .i64 A] else #[.int .i64 0, .int .i64 0]) 63 (0, 0))
  nw : w'.heap[w.heap.size]? = some (.cells #[.int .i64 E, .int .i64 A] 63 (0, 0))
  ot : ∀ k, k < w.heap.size → k ≠ rv → k ≠ rf → w'.heap[k]? = w.heap[k]?
  os : w'.os = w.os
  tape : w'.tape = w.tape
  output : w'.output = w.output
  size : w.heap.size ≤ w'.heap.size
theorem fault_is (v : Value) (xT : TypeId) (w : World) : (Instr.typeAssert (.iface 63 v) xT 63 true).run Try.prog w = .ok (.tuple #[v, .bool true]) w := by
  simp [Instr.typeAssert, run_underlying Try.underlying63, go_sem, Result.andThen]
set_option maxRecDepth 100000 in
set_option maxHeartbeats 8000000 in
theorem catch_idle (p q : Addr) (w : World) :
    CallsD Try.prog 42 #[.pointer (some p), .pointer (some q)] .returning w fun e u' w' => e = .returned (.tuple #[]) ∧ u' = .returning ∧ w' = w := by
  refine callsD_of_wpS Try.func42 rfl fun c₀ cs hu => ?_
  apply wpS_seq
  apply wpS_region
  simp [wpOpsS, go_sem, recoverD, hu, Exit.thenS]
  apply wpS_seq
  apply wpS_seq
  apply wpS_region
  simp [wpOpsS, go_sem, recoverD, hu, Exit.thenS]
  refine wpS_cond (t := true) (by simp [Act.eval, Array.replicate]) ?_
  simp only [if_true]
  refine wpS_of_wp ?_
  go_wp2_with fail
  simp only [Exit.thenS]
  cases c₀
  simp_all [bodyPostS, results, go_sem]
set_option maxRecDepth 100000 in
set_option maxHeartbeats 8000000 in
theorem catch_panicking (rv rf : Nat) (E A : Int) (older : List PanicEntry) (w : World) (hv : w.heap[rv]? = some (.cells #[.int .i64 0, .bool false, .string ⟨#[]⟩, .slice none 0 0, .slice none 0 0] 28 (0, 0))) (hf : w.heap[rf]? = some (.cells #[.int .i64 0, .int .i64 0] 63 (0, 0))) (hne : rv ≠ rf) :
    CallsD Try.prog 42 #[.pointer (some ⟨rv, 0, none⟩), .pointer (some ⟨rf, 0, none⟩)] (.panicking ({ v := .iface 63 (.agg #[.int .i64 E, .int .i64 A]), recovered := false } :: older)) w fun e u' w' =>
      e = .returned (.tuple #[]) ∧ u' = .panicking ({ v := .iface 63 (.agg #[.int .i64 E, .int .i64 A]), recovered := true } :: older) ∧
      w'.heap[rv]? = some (.cells #[.int .i64 0, .bool false, .string ⟨#[]⟩, .slice none 0 0, .slice none 0 0] 28 (0, 0)) ∧ w'.heap[rf]? = some (.cells #[.int .i64 E, .int .i64 A] 63 (0, 0)) ∧
      (∀ k, k < w.heap.size → k ≠ rv → k ≠ rf → w'.heap[k]? = w.heap[k]?) ∧ w'.os = w.os ∧ w'.tape = w.tape ∧ w'.output = w.output ∧ w.heap.size ≤ w'.heap.size := by
  have hta := fault_is
  have HV := Lib.hid hv
  have HF := Lib.hid hf
  have HN := Lib.hid hne
  have hvl : rv < w.heap.size := (Array.getElem?_eq_some_iff.1 hv).1
  have hfl : rf < w.heap.size := (Array.getElem?_eq_some_iff.1 hf).1
  clear hv hf hne
  refine callsD_of_wpS Try.func42 rfl fun c₀ cs hu => ?_
  apply wpS_seq
  apply wpS_region
  simp [wpOpsS, go_sem, recoverD, hu, Exit.thenS]
  refine wpS_of_wp (wp_frame_to (a' := { tmps := #[.pointer (some ⟨rv, 0, none⟩), .pointer (some ⟨rf, 0, none⟩), .iface 63 (.agg #[.int .i64 E, .int .i64 A]), undef, undef, .iface 63 (.agg #[.int .i64 E, .int .i64 A]), undef, undef, undef, undef, undef, undef, undef, undef, undef, undef, undef, undef], defers := [] }) rfl ?_)
  go_upto_region 5 with (fail)
  have hb5 := World.grownBy_alloc w (.cells #[.int .i64 E, .int .i64 A] 63) none
  have hg5 := heap_alloc_new w (.cells #[.int .i64 E, .int .i64 A] 63)
  generalize w.alloc _ = w5 at *
  refine wp_frame_gen fun a0 hs0 hd0 hz => ?_
  have hs0 : a0.tmps.size = 18 := hs0
  have hd0 : a0.defers = [] := hd0
  have z0 : a0.tmps.getD 0 undef = .pointer (some ⟨rv, 0, none⟩) := hz 0
  have z1 : a0.tmps.getD 1 undef = .pointer (some ⟨rf, 0, none⟩) := hz 1
  have z3 : a0.tmps.getD 3 undef = .pointer (some ⟨w.heap.size, 0, none⟩) := hz 3
  clear hz
  refine wp_region_inv (by kernel_rfl) (by kernel_rfl) (CJ rv rf E A w a0) ?_ ?_ ?_
  · exact ⟨Fr.refl _ _, (fun e => by cases e), (fun e => by cases e), (hb5.block rv hvl (by simp)).trans HV.out, (hb5.block rf hfl (by simp)).trans HF.out, hg5, fun k hk _ _ => hb5.block k hk (by simp), hb5.os, hb5.tape, hb5.output, hb5.size⟩
  · rintro b a' w' hJ i op ho hbi hdep
    have t0 : a'.tmps.getD 0 undef = .pointer (some ⟨rv, 0, none⟩) := (hJ.fr.same 0 (by decide)).trans z0
    have t1 : a'.tmps.getD 1 undef = .pointer (some ⟨rf, 0, none⟩) := (hJ.fr.same 1 (by decide)).trans z1
    have t3 : a'.tmps.getD 3 undef = .pointer (some ⟨w.heap.size, 0, none⟩) := (hJ.fr.same 3 (by decide)).trans z3
    rcases i with _ | _ | _ | _ | i
    · cases ho
      refine op_step rfl rfl (op_value (v := .agg #[.int .i64 0, .bool false, .string ⟨#[]⟩, .slice none 0 0, .slice none 0 0]) (w' := w') ?_ ⟨hJ.fr.put (by decide) _, ?_, ?_, hJ.hrv, by simpa using hJ.hrf, hJ.nw, hJ.ot, hJ.os, hJ.tape, hJ.output, hJ.size⟩)
      · simp only [execOp]
        go_simp
      · intro _
        exact put_at _ _ _ (by rw [hJ.fr.size, hs0]; decide)
      · intro e
        exact (put_other _ _ _ _ (by decide)).trans (hJ.b1 (by simpa using e))
    · cases ho
      have c0 : w'.cell? ⟨w.heap.size, 0, none⟩ = some (.int .i64 E) := by rw [Lib.cell_of_heap hJ.nw]; rfl
      have c1 : w'.cell? ⟨w.heap.size, 1, none⟩ = some (.int .i64 A) := by rw [Lib.cell_of_heap hJ.nw]; rfl
      refine op_step rfl rfl (op_value (v := .agg #[.int .i64 E, .int .i64 A]) (w' := w') ?_ ⟨hJ.fr.put (by decide) _, ?_, ?_, hJ.hrv, by simpa using hJ.hrf, hJ.nw, hJ.ot, hJ.os, hJ.tape, hJ.output, hJ.size⟩)
      · simp only [execOp, Act.eval, t3]
        go_simp
      · intro e
        exact (put_other _ _ _ _ (by decide)).trans (hJ.b0 (by simpa using e))
      · intro _
        exact put_at _ _ _ (by rw [hJ.fr.size, hs0]; decide)
    · cases ho
      have e0 := hJ.b0 (dep_of hdep 0 (by kernel_rfl))
      refine op_step rfl rfl (op_store _ (.tmp 0) (.tmp 16) rfl rfl rv 0 [.int .i64 0, .bool false, .string ⟨#[]⟩, .slice none 0 0, .slice none 0 0] t0 e0 _ _ hJ.hrv (by kernel_rfl) (by simp) (by simp [Value.oneCell']) ⟨hJ.fr, fun e => hJ.b0 (by simpa using e), fun e => hJ.b1 (by simpa using e), ?_, ?_, ?_, ?_, hJ.os, hJ.tape, hJ.output, by simpa [World.setRow] using hJ.size⟩)
      · exact setRow_heap w' rv _ _ _ _ hJ.hrv
      · simpa using (setRow_other w' rv rf _ (Ne.symm HN.out)).trans hJ.hrf
      · exact (setRow_other w' rv w.heap.size _ (by omega)).trans hJ.nw
      · intro k hk h1 h2
        exact (setRow_other w' rv k _ h1).trans (hJ.ot k hk h1 h2)
    · cases ho
      have e1 := hJ.b1 (dep_of hdep 1 (by kernel_rfl))
      have hbf : b 3 = false := hbi
      have hrf := hJ.hrf
      rw [if_neg (by simp [hbf])] at hrf
      refine op_step rfl rfl (op_store _ (.tmp 1) (.tmp 17) rfl rfl rf 0 [.int .i64 E, .int .i64 A] t1 e1 _ _ hrf (by kernel_rfl) (by simp) (by simp [Value.oneCell']) ⟨hJ.fr, fun e => hJ.b0 (by simpa using e), fun e => hJ.b1 (by simpa using e), ?_, ?_, ?_, ?_, hJ.os, hJ.tape, hJ.output, by simpa [World.setRow] using hJ.size⟩)
      · exact (setRow_other w' rf rv _ HN.out).trans hJ.hrv
      · simpa using setRow_heap w' rf _ _ _ _ hrf
      · exact (setRow_other w' rf w.heap.size _ (by omega)).trans hJ.nw
      · intro k hk h1 h2
        exact (setRow_other w' rf k _ h2).trans (hJ.ot k hk h1 h2)
    · cases ho
  · rintro b a' w' hJ hdone
    have hrf := hJ.hrf
    rw [if_pos (hdone 3 (by decide))] at hrf
    refine ⟨hJ.fr.defers.trans hd0, _, rfl, .tuple #[], by simp [results, go_sem], rfl, rfl, hJ.hrv, hrf, hJ.ot, hJ.os, hJ.tape, hJ.output, hJ.size⟩
end Go.Proofs.Ytfcokdkbjajohaa
/- json: caught, with a whole text. -/
set_option linter.unusedVariables false
namespace Go.Proofs.Ytfcokdkbjajohaa
open Go.RowKit

/-- Two new blocks may turn. -/
structure NewTwo (a b : Nat) (w w' : World) : Prop where
  os : w'.os = w.os
  tape : w'.tape = w.tape
  output : w'.output = w.output
  size : w.heap.size ≤ w'.heap.size
  block : ∀ k, k < w.heap.size → k ≠ a → k ≠ b → w'.heap[k]? = w.heap[k]?
theorem But.trans_new {g : Nat} {w w4 w' : World} (h : But g w w4) (k : NewTwo w.heap.size (w.heap.size + 1) w4 w') : But g w w' :=
  ⟨k.os.trans h.os, k.tape.trans h.tape, k.output.trans h.output, Nat.le_trans h.size k.size, fun j hj hg => (k.block j (Nat.lt_of_lt_of_le hj h.size) (by omega) (by omega)).trans (h.block j hj hg)⟩
set_option maxRecDepth 100000 in
set_option maxHeartbeats 16000000 in
theorem jcaught_any (g : Nat) (S : List UInt8) (d : Nat) (w : World) (h : Rdr w g S 0 d 0) (hl : S.length ≤ 1000000) (hd : d ≤ 1000) :
    Calls Try.prog 25 #[.func (.func 26) #[.pointer (some ⟨g, 0, none⟩)] #[]] w fun e w' => Hid (But g w w') ∧ ∃ cs v E A, e = .returned (.tuple #[.agg cs.toArray, .agg #[.int .i64 E, .int .i64 A]]) ∧ Hid (Rep (w.heap.size ≤ ·) w' cs v) ∧ Hid ((wholeR d S = .ok v [] ∧ E = 0) ∨ (wholeR d S = .bad E ∧ v = .zero)) := by
  have hgl := h.lt
  have HR := Lib.hid h
  have hmf : ∀ (fn : Fn) (first cap : Array Value) (w : World), (Instr.makeFunc fn first cap).run Try.prog w = .ok (.func fn first cap) w := fun _ _ _ _ => rfl
  clear h
  go_enter_defers Try.func25, Try.ntmps25
  go_upto_region 2 with (fail)
  have hb1 : Below w.heap.size w ((w.alloc (.cells #[.int .i64 0, .bool false, .string ⟨#[]⟩, .slice none 0 0, .slice none 0 0] 28)).alloc (.cells #[.int .i64 0, .int .i64 0] 63)) := ((Below.refl _ _).alloc (Nat.le_refl _) _).alloc (by simp) _
  have hg1 : ((w.alloc (.cells #[.int .i64 0, .bool false, .string ⟨#[]⟩, .slice none 0 0, .slice none 0 0] 28)).alloc (.cells #[.int .i64 0, .int .i64 0] 63)).heap[w.heap.size]? = some (.cells #[.int .i64 0, .bool false, .string ⟨#[]⟩, .slice none 0 0, .slice none 0 0] 28 (0, 0)) := ((World.grownBy_alloc (w.alloc _) _ none).block _ (by simp) (by simp)).trans (heap_alloc_new w _)
  have hg2 : ((w.alloc (.cells #[.int .i64 0, .bool false, .string ⟨#[]⟩, .slice none 0 0, .slice none 0 0] 28)).alloc (.cells #[.int .i64 0, .int .i64 0] 63)).heap[w.heap.size + 1]? = some (.cells #[.int .i64 0, .int .i64 0] 63 (0, 0)) := by
    rw [show w.heap.size + 1 = (w.alloc (.cells #[.int .i64 0, .bool false, .string ⟨#[]⟩, .slice none 0 0, .slice none 0 0] 28)).heap.size by simp]
    exact heap_alloc_new _ _
  generalize (w.alloc _).alloc _ = w1 at *
  have HB1 : Hid (But g w w1) := Lib.hid ⟨hb1.os, hb1.tape, hb1.output, hb1.size, fun k hk _ => hb1.block k hk⟩
  have HR1 : Hid (Rdr w1 g S 0 d 0) := Lib.hid ⟨(hb1.block g hgl).trans HR.out.heap, HR.out.le⟩
  have HG1 := Lib.hid hg1
  have HG2 := Lib.hid hg2
  have hs1 : w.heap.size + 1 < w1.heap.size := (Array.getElem?_eq_some_iff.1 hg2).1
  have HW := Lib.hid (jwhole_any g S d w1 HR1.out hl hd)
  clear hb1 hg1 hg2 HR
  go_wp2_with fail
  refine HW.out.mono ?_
  rintro e w4 ⟨hb4, ⟨cs, v, h4, rfl, hrep⟩ | ⟨n, a, h4, rfl⟩⟩
  · obtain ⟨ya, yc, ya', yc', _, _, rfl, -⟩ := hrep.out.parts
    unfold strV at *
    have HB4 := Lib.hid (HB1.out.trans hb4.out)
    have HV4 := Lib.hid ((hb4.out.block _ (by omega) (by omega)).trans HG1.out)
    have HF4 := Lib.hid ((hb4.out.block _ (by omega) (by omega)).trans HG2.out)
    have HP4 := hrep
    have HE := h4
    have hs4 := hb4.out.size
    clear h4 hb4 hrep HW
    have d0 : w4.cell? ⟨w.heap.size, 0, none⟩ = some (.int .i64 0) := by rw [Lib.cell_of_heap HV4.out]; rfl
    have f0 := Lib.frozen_of_heap HV4.out 0
    have d1 : w4.cell? ⟨w.heap.size, 1, none⟩ = some (.bool false) := by rw [Lib.cell_of_heap HV4.out]; rfl
    have f1 := Lib.frozen_of_heap HV4.out 1
    have d2 : w4.cell? ⟨w.heap.size, 2, none⟩ = some (.string ⟨#[]⟩) := by rw [Lib.cell_of_heap HV4.out]; rfl
    have f2 := Lib.frozen_of_heap HV4.out 2
    have d3 : w4.cell? ⟨w.heap.size, 3, none⟩ = some (.slice none 0 0) := by rw [Lib.cell_of_heap HV4.out]; rfl
    have f3 := Lib.frozen_of_heap HV4.out 3
    have d4 : w4.cell? ⟨w.heap.size, 4, none⟩ = some (.slice none 0 0) := by rw [Lib.cell_of_heap HV4.out]; rfl
    have f4 := Lib.frozen_of_heap HV4.out 4
    have b0 : w4.cell? ⟨w.heap.size + 1, 0, none⟩ = some (.int .i64 0) := by rw [Lib.cell_of_heap HF4.out]; rfl
    have g0 := Lib.frozen_of_heap HF4.out 0
    have b1 : w4.cell? ⟨w.heap.size + 1, 1, none⟩ = some (.int .i64 0) := by rw [Lib.cell_of_heap HF4.out]; rfl
    have g1 := Lib.frozen_of_heap HF4.out 1
    go_wp2_with fail
    refine leaves_cons (f := 42) (args := #[.pointer (some ⟨w.heap.size, 0, none⟩), .pointer (some ⟨w.heap.size + 1, 0, none⟩)]) (by simp) (by simp [go_sem]) ?_
    refine (catch_idle ⟨w.heap.size, 0, none⟩ ⟨w.heap.size + 1, 0, none⟩ _).mono ?_
    rintro e u' w'' ⟨rfl, rfl, rfl⟩
    have hst := value_stored HV4.out (.int .i64 v.kind) (.bool v.yes) (.string ⟨v.text.toArray⟩) (.slice ya v.list.length yc) (.slice ya' v.mem.length yc')
    have HBE := Lib.hid (but_stored (gv := w.heap.size) HB4.out (Nat.le_refl _) (.int .i64 v.kind) (.bool v.yes) (.string ⟨v.text.toArray⟩) (.slice ya v.list.length yc) (.slice ya' v.mem.length yc'))
    have HOT := Lib.hid (five_other w4 w.heap.size (.int .i64 v.kind) (.bool v.yes) (.string ⟨v.text.toArray⟩) (.slice ya v.list.length yc) (.slice ya' v.mem.length yc'))
    generalize hw5 : ((((w4.setCell ⟨w.heap.size, 0, none⟩ _).setCell ⟨w.heap.size, 1, none⟩ _).setCell ⟨w.heap.size, 2, none⟩ _).setCell ⟨w.heap.size, 3, none⟩ _).setCell ⟨w.heap.size, 4, none⟩ _ = w5 at *
    have HF5 := (HOT.out (w.heap.size + 1) (by omega)).trans HF4.out
    have hF6 : ((w5.setCell ⟨w.heap.size + 1, 0, none⟩ (.int .i64 0)).setCell ⟨w.heap.size + 1, 1, none⟩ (.int .i64 0)).heap[w.heap.size + 1]? = some (.cells #[.int .i64 0, .int .i64 0] 63 (0, 0)) := by
      rw [setCell_block (setCell_block HF5 _)]
      rfl
    have hot6 : ∀ k, k ≠ w.heap.size + 1 → ((w5.setCell ⟨w.heap.size + 1, 0, none⟩ (.int .i64 0)).setCell ⟨w.heap.size + 1, 1, none⟩ (.int .i64 0)).heap[k]? = w5.heap[k]? := fun k hk => by
      rw [Below.heap_setCell _ _ _ _ hk, Below.heap_setCell _ _ _ _ hk]
    have hV6 := (hot6 w.heap.size (by omega)).trans hst
    have HB6 : Hid (But g w ((w5.setCell ⟨w.heap.size + 1, 0, none⟩ (.int .i64 0)).setCell ⟨w.heap.size + 1, 1, none⟩ (.int .i64 0))) := Lib.hid (HBE.out.trans_new ⟨rfl, rfl, rfl, by simp [World.setCell], fun k _ _ h2 => hot6 k h2⟩)
    have HP6 : Hid (Rep (w.heap.size ≤ ·) ((w5.setCell ⟨w.heap.size + 1, 0, none⟩ (.int .i64 0)).setCell ⟨w.heap.size + 1, 1, none⟩ (.int .i64 0)) [.int .i64 v.kind, .bool v.yes, .string ⟨v.text.toArray⟩, .slice ya v.list.length yc, .slice ya' v.mem.length yc'] v) := Lib.hid ((HP4.out.keep fun k hk _ => (hot6 k (by omega)).trans (HOT.out k (by omega))).mono fun k hk => by omega)
    generalize (w5.setCell ⟨w.heap.size + 1, 0, none⟩ (.int .i64 0)).setCell ⟨w.heap.size + 1, 1, none⟩ (.int .i64 0) = w6 at *
    have e0 := Lib.cell_of_heap hV6 0
    have e1 := Lib.cell_of_heap hV6 1
    have e2 := Lib.cell_of_heap hV6 2
    have e3 := Lib.cell_of_heap hV6 3
    have e4 := Lib.cell_of_heap hV6 4
    have e5 := Lib.cell_of_heap hF6 0
    have e6 := Lib.cell_of_heap hF6 1
    simp only [List.getElem?_toArray] at e0 e1 e2 e3 e4 e5 e6
    exact ⟨.tuple #[.agg #[.int .i64 v.kind, .bool v.yes, .string ⟨v.text.toArray⟩, .slice ya v.list.length yc, .slice ya' v.mem.length yc'], .agg #[.int .i64 0, .int .i64 0]], by simp [results, Try.results25, go_sem, e0, e1, e2, e3, e4, e5, e6], HB6, _, v, 0, 0, rfl, HP6, Lib.hid (.inl ⟨HE.out, rfl⟩)⟩
  · have HB4 := Lib.hid (HB1.out.trans hb4.out)
    have HV4 := Lib.hid ((hb4.out.block _ (by omega) (by omega)).trans HG1.out)
    have HF4 := Lib.hid ((hb4.out.block _ (by omega) (by omega)).trans HG2.out)
    have HE := h4
    have hs4 := hb4.out.size
    clear h4 hb4 HW
    unfold thrown
    go_wp2_with fail
    refine leaves_cons (f := 42) (args := #[.pointer (some ⟨w.heap.size, 0, none⟩), .pointer (some ⟨w.heap.size + 1, 0, none⟩)]) (by simp) (by simp [go_sem]) ?_
    refine (catch_panicking w.heap.size (w.heap.size + 1) n a [] w4 HV4.out HF4.out (by omega)).mono ?_
    rintro e u' w'' ⟨rfl, rfl, kv, kf, hot, hos, htape, hout, hsz⟩
    have e0 := Lib.cell_of_heap kv 0
    have e1 := Lib.cell_of_heap kv 1
    have e2 := Lib.cell_of_heap kv 2
    have e3 := Lib.cell_of_heap kv 3
    have e4 := Lib.cell_of_heap kv 4
    have e5 := Lib.cell_of_heap kf 0
    have e6 := Lib.cell_of_heap kf 1
    simp only [List.getElem?_toArray] at e0 e1 e2 e3 e4 e5 e6
    have HBF : Hid (But g w w'') := Lib.hid (HB4.out.trans_new ⟨hos, htape, hout, hsz, hot⟩)
    refine ⟨.tuple #[.agg zero5.toArray, .agg #[.int .i64 n, .int .i64 a]], by simp [zero5, results, Try.results25, go_sem, e0, e1, e2, e3, e4, e5, e6], HBF, zero5, .zero, n, a, rfl, Lib.hid (Rep.leaf _ _ 0 false []), Lib.hid (.inr ⟨HE.out, rfl⟩)⟩
end Go.Proofs.Ytfcokdkbjajohaa
/- json: caught, with a number. -/
set_option linter.unusedVariables false
namespace Go.Proofs.Ytfcokdkbjajohaa
open Go.RowKit

set_option maxRecDepth 100000 in
set_option maxHeartbeats 16000000 in
theorem jcaughtn_any (g : Nat) (S : List UInt8) (d : Nat) (w : World) (h : Rdr w g S 0 d 0) (hl : S.length ≤ 1000000) (hd : d ≤ 1000) :
    Calls Try.prog 25 #[.func (.func 27) #[.pointer (some ⟨g, 0, none⟩)] #[]] w fun e w' => Hid (But g w w') ∧ ∃ (k : Int) (t : List UInt8) (E A : Int), e = .returned (.tuple #[.agg #[.int .i64 k, .bool false, .string ⟨t.toArray⟩, .slice none 0 0, .slice none 0 0], .agg #[.int .i64 E, .int .i64 A]]) ∧ Hid ((∃ r, numberL S = .ok t r ∧ E = 0) ∨ (numberL S = .bad E ∧ t = [])) := by
  have hgl := h.lt
  have HR := Lib.hid h
  have hmf : ∀ (fn : Fn) (first cap : Array Value) (w : World), (Instr.makeFunc fn first cap).run Try.prog w = .ok (.func fn first cap) w := fun _ _ _ _ => rfl
  clear h
  go_enter_defers Try.func25, Try.ntmps25
  go_upto_region 2 with (fail)
  have hb1 : Below w.heap.size w ((w.alloc (.cells #[.int .i64 0, .bool false, .string ⟨#[]⟩, .slice none 0 0, .slice none 0 0] 28)).alloc (.cells #[.int .i64 0, .int .i64 0] 63)) := ((Below.refl _ _).alloc (Nat.le_refl _) _).alloc (by simp) _
  have hg1 : ((w.alloc (.cells #[.int .i64 0, .bool false, .string ⟨#[]⟩, .slice none 0 0, .slice none 0 0] 28)).alloc (.cells #[.int .i64 0, .int .i64 0] 63)).heap[w.heap.size]? = some (.cells #[.int .i64 0, .bool false, .string ⟨#[]⟩, .slice none 0 0, .slice none 0 0] 28 (0, 0)) := ((World.grownBy_alloc (w.alloc _) _ none).block _ (by simp) (by simp)).trans (heap_alloc_new w _)
  have hg2 : ((w.alloc (.cells #[.int .i64 0, .bool false, .string ⟨#[]⟩, .slice none 0 0, .slice none 0 0] 28)).alloc (.cells #[.int .i64 0, .int .i64 0] 63)).heap[w.heap.size + 1]? = some (.cells #[.int .i64 0, .int .i64 0] 63 (0, 0)) := by
    rw [show w.heap.size + 1 = (w.alloc (.cells #[.int .i64 0, .bool false, .string ⟨#[]⟩, .slice none 0 0, .slice none 0 0] 28)).heap.size by simp]
    exact heap_alloc_new _ _
  generalize (w.alloc _).alloc _ = w1 at *
  have HB1 : Hid (But g w w1) := Lib.hid ⟨hb1.os, hb1.tape, hb1.output, hb1.size, fun k hk _ => hb1.block k hk⟩
  have HR1 : Hid (Rdr w1 g S 0 d 0) := Lib.hid ⟨(hb1.block g hgl).trans HR.out.heap, HR.out.le⟩
  have HG1 := Lib.hid hg1
  have HG2 := Lib.hid hg2
  have hs1 : w.heap.size + 1 < w1.heap.size := (Array.getElem?_eq_some_iff.1 hg2).1
  have HW := Lib.hid (jnumber_any g S 0 d 0 w1 HR1.out hl)
  clear hb1 hg1 hg2 HR
  go_wp2_with fail
  refine HW.out.mono ?_
  rintro e w4 ⟨hb4', ⟨t, q, h4', rfl, hr4⟩ | ⟨n, a, h4', rfl⟩⟩
  · unfold leafV
    have hb4 := Lib.hid hb4'
    have h4 := Lib.hid h4'
    clear hb4' h4' hr4
    have HB4 := Lib.hid (HB1.out.trans hb4.out)
    have HV4 := Lib.hid ((hb4.out.block _ (by omega) (by omega)).trans HG1.out)
    have HF4 := Lib.hid ((hb4.out.block _ (by omega) (by omega)).trans HG2.out)
    have HE := h4
    have hs4 := hb4.out.size
    clear h4 hb4 HW
    have d0 : w4.cell? ⟨w.heap.size, 0, none⟩ = some (.int .i64 0) := by rw [Lib.cell_of_heap HV4.out]; rfl
    have f0 := Lib.frozen_of_heap HV4.out 0
    have d1 : w4.cell? ⟨w.heap.size, 1, none⟩ = some (.bool false) := by rw [Lib.cell_of_heap HV4.out]; rfl
    have f1 := Lib.frozen_of_heap HV4.out 1
    have d2 : w4.cell? ⟨w.heap.size, 2, none⟩ = some (.string ⟨#[]⟩) := by rw [Lib.cell_of_heap HV4.out]; rfl
    have f2 := Lib.frozen_of_heap HV4.out 2
    have d3 : w4.cell? ⟨w.heap.size, 3, none⟩ = some (.slice none 0 0) := by rw [Lib.cell_of_heap HV4.out]; rfl
    have f3 := Lib.frozen_of_heap HV4.out 3
    have d4 : w4.cell? ⟨w.heap.size, 4, none⟩ = some (.slice none 0 0) := by rw [Lib.cell_of_heap HV4.out]; rfl
    have f4 := Lib.frozen_of_heap HV4.out 4
    have b0 : w4.cell? ⟨w.heap.size + 1, 0, none⟩ = some (.int .i64 0) := by rw [Lib.cell_of_heap HF4.out]; rfl
    have g0 := Lib.frozen_of_heap HF4.out 0
    have b1 : w4.cell? ⟨w.heap.size + 1, 1, none⟩ = some (.int .i64 0) := by rw [Lib.cell_of_heap HF4.out]; rfl
    have g1 := Lib.frozen_of_heap HF4.out 1
    go_wp2_with fail
    refine leaves_cons (f := 42) (args := #[.pointer (some ⟨w.heap.size, 0, none⟩), .pointer (some ⟨w.heap.size + 1, 0, none⟩)]) (by simp) (by simp [go_sem]) ?_
    refine (catch_idle ⟨w.heap.size, 0, none⟩ ⟨w.heap.size + 1, 0, none⟩ _).mono ?_
    rintro e u' w'' ⟨rfl, rfl, rfl⟩
    have hst := value_stored HV4.out (.int .i64 3) (.bool false) (.string ⟨t.toArray⟩) (.slice none 0 0) (.slice none 0 0)
    have HBE := Lib.hid (but_stored (gv := w.heap.size) HB4.out (Nat.le_refl _) (.int .i64 3) (.bool false) (.string ⟨t.toArray⟩) (.slice none 0 0) (.slice none 0 0))
    have HOT := Lib.hid (five_other w4 w.heap.size (.int .i64 3) (.bool false) (.string ⟨t.toArray⟩) (.slice none 0 0) (.slice none 0 0))
    generalize hw5 : ((((w4.setCell ⟨w.heap.size, 0, none⟩ _).setCell ⟨w.heap.size, 1, none⟩ _).setCell ⟨w.heap.size, 2, none⟩ _).setCell ⟨w.heap.size, 3, none⟩ _).setCell ⟨w.heap.size, 4, none⟩ _ = w5 at *
    have HF5 := (HOT.out (w.heap.size + 1) (by omega)).trans HF4.out
    have hF6 : ((w5.setCell ⟨w.heap.size + 1, 0, none⟩ (.int .i64 0)).setCell ⟨w.heap.size + 1, 1, none⟩ (.int .i64 0)).heap[w.heap.size + 1]? = some (.cells #[.int .i64 0, .int .i64 0] 63 (0, 0)) := by
      rw [setCell_block (setCell_block HF5 _)]
      rfl
    have hot6 : ∀ k, k ≠ w.heap.size + 1 → ((w5.setCell ⟨w.heap.size + 1, 0, none⟩ (.int .i64 0)).setCell ⟨w.heap.size + 1, 1, none⟩ (.int .i64 0)).heap[k]? = w5.heap[k]? := fun k hk => by
      rw [Below.heap_setCell _ _ _ _ hk, Below.heap_setCell _ _ _ _ hk]
    have hV6 := (hot6 w.heap.size (by omega)).trans hst
    have HB6 : Hid (But g w ((w5.setCell ⟨w.heap.size + 1, 0, none⟩ (.int .i64 0)).setCell ⟨w.heap.size + 1, 1, none⟩ (.int .i64 0))) := Lib.hid (HBE.out.trans_new ⟨rfl, rfl, rfl, by simp [World.setCell], fun k _ _ h2 => hot6 k h2⟩)
    generalize (w5.setCell ⟨w.heap.size + 1, 0, none⟩ (.int .i64 0)).setCell ⟨w.heap.size + 1, 1, none⟩ (.int .i64 0) = w6 at *
    have e0 := Lib.cell_of_heap hV6 0
    have e1 := Lib.cell_of_heap hV6 1
    have e2 := Lib.cell_of_heap hV6 2
    have e3 := Lib.cell_of_heap hV6 3
    have e4 := Lib.cell_of_heap hV6 4
    have e5 := Lib.cell_of_heap hF6 0
    have e6 := Lib.cell_of_heap hF6 1
    simp only [List.getElem?_toArray] at e0 e1 e2 e3 e4 e5 e6
    exact ⟨.tuple #[.agg #[.int .i64 3, .bool false, .string ⟨t.toArray⟩, .slice none 0 0, .slice none 0 0], .agg #[.int .i64 0, .int .i64 0]], by simp [results, Try.results25, go_sem, e0, e1, e2, e3, e4, e5, e6], HB6, 3, t, 0, 0, rfl, Lib.hid (.inl ⟨_, HE.out, rfl⟩)⟩
  · have hb4 := Lib.hid hb4'
    have h4 := Lib.hid h4'
    clear hb4' h4'
    have HB4 := Lib.hid (HB1.out.trans hb4.out)
    have HV4 := Lib.hid ((hb4.out.block _ (by omega) (by omega)).trans HG1.out)
    have HF4 := Lib.hid ((hb4.out.block _ (by omega) (by omega)).trans HG2.out)
    have HE := h4
    have hs4 := hb4.out.size
    clear h4 hb4 HW
    unfold thrown
    go_wp2_with fail
    refine leaves_cons (f := 42) (args := #[.pointer (some ⟨w.heap.size, 0, none⟩), .pointer (some ⟨w.heap.size + 1, 0, none⟩)]) (by simp) (by simp [go_sem]) ?_
    refine (catch_panicking w.heap.size (w.heap.size + 1) n a [] w4 HV4.out HF4.out (by omega)).mono ?_
    rintro e u' w'' ⟨rfl, rfl, kv, kf, hot, hos, htape, hout, hsz⟩
    have e0 := Lib.cell_of_heap kv 0
    have e1 := Lib.cell_of_heap kv 1
    have e2 := Lib.cell_of_heap kv 2
    have e3 := Lib.cell_of_heap kv 3
    have e4 := Lib.cell_of_heap kv 4
    have e5 := Lib.cell_of_heap kf 0
    have e6 := Lib.cell_of_heap kf 1
    simp only [List.getElem?_toArray] at e0 e1 e2 e3 e4 e5 e6
    have HBF : Hid (But g w w'') := Lib.hid (HB4.out.trans_new ⟨hos, htape, hout, hsz, hot⟩)
    refine ⟨.tuple #[.agg zero5.toArray, .agg #[.int .i64 n, .int .i64 a]], by simp [zero5, results, Try.results25, go_sem, e0, e1, e2, e3, e4, e5, e6], HBF, 0, [], n, a, rfl, Lib.hid (.inr ⟨HE.out, rfl⟩)⟩
end Go.Proofs.Ytfcokdkbjajohaa
/- Rows of bytes of the call's own that may begin amid their block; what a call leaves as it was. -/
set_option linter.unusedVariables false
namespace Go.Proofs.Ytfcokdkbjajohaa
open Go.RowKit

/-- The bytes l: nothing at all, or in a block g (from block B on), from some place on. -/
def Tl (B : Nat) (w : World) (v : Value) (l : List UInt8) : Prop :=
  (v = .slice none 0 0 ∧ l = []) ∨ ∃ g off cap cur, v = .slice (some ⟨g, off, none⟩) l.length cap ∧ B ≤ g ∧ w.heap[g]? = some (.cells cur 5 (0, 0)) ∧ l.length ≤ cap ∧ off + cap ≤ cur.size ∧ cap ≤ maxLen ∧
    ∀ j (h : j < l.length), cur[off + j]? = some (.int .u8 (l[j]).toNat)

theorem Tl.shape {B : Nat} {w : World} {v : Value} {l : List UInt8} (h : Tl B w v l) : ∃ a c, v = .slice a l.length c ∧ Rd w a l ∧ l.length ≤ c ∧ c ≤ maxLen ∧ Value.ownBlock v = a.map (·.block) := by
  rcases h with ⟨rfl, rfl⟩ | ⟨g, off, cap, cur, rfl, _, hg, hc, _, hm, hl⟩
  · exact ⟨none, 0, rfl, .inl rfl, Nat.le_refl _, by decide, rfl⟩
  · exact ⟨_, cap, rfl, .inr ⟨g, off, rfl, fun i hi => by rw [Lib.cell_of_heap hg]; exact hl i hi⟩, hc, hm, rfl⟩
theorem Tl.nil (B : Nat) (w : World) : Tl B w (.slice none 0 0) [] := .inl ⟨rfl, rfl⟩
theorem Tl.of_own {B : Nat} {w : World} {v : Value} {l : List UInt8} (h : Own B w v l) : Tl B w v l := by
  rcases h.2 with ⟨rfl, h0⟩ | ⟨g, cap, cur, rfl, hB, hg, hlc, hm, hsz, htake⟩
  · exact .inl ⟨rfl, List.eq_nil_of_length_eq_zero h0⟩
  · refine .inr ⟨g, 0, cap, cur, rfl, hB, hg, hlc, by omega, hm, fun j hj => ?_⟩
    rw [Nat.zero_add]
    have h1 : (cur.toList.take (l.length * 1))[j]? = (Lib.byteCells l)[j]? := by rw [htake]
    rw [List.getElem?_take, if_pos (by omega)] at h1
    rw [← Array.getElem?_toList, h1]
    simp [Lib.byteCells, hj]
theorem Tl.lt {B : Nat} {w : World} {v : Value} {l : List UInt8} (h : Tl B w v l) : ∀ k, v.ownBlock = some k → B ≤ k ∧ k < w.heap.size := by
  intro k hk
  rcases h with ⟨rfl, rfl⟩ | ⟨g, off, cap, cur, rfl, hB, hg, _⟩
  · cases hk
  · simp [Value.ownBlock] at hk
    subst hk
    exact ⟨hB, (Array.getElem?_eq_some_iff.1 hg).1⟩
theorem Tl.mono {B B' : Nat} {w : World} {v : Value} {l : List UInt8} (h : Tl B w v l) (hB : B' ≤ B) : Tl B' w v l :=
  h.imp id fun ⟨g, off, cap, cur, h1, h2, h3⟩ => ⟨g, off, cap, cur, h1, Nat.le_trans hB h2, h3⟩
/-- The relation looks at its own block alone. -/
theorem Tl.keep {B : Nat} {w w' : World} {v : Value} {l : List UInt8} (h : Tl B w v l) (hk : ∀ k, v.ownBlock = some k → w'.heap[k]? = w.heap[k]?) : Tl B w' v l := by
  rcases h with h | ⟨g, off, cap, cur, rfl, hB, hg, h⟩
  · exact .inl h
  · exact .inr ⟨g, off, cap, cur, rfl, hB, by rw [hk g rfl]; exact hg, h⟩
theorem Tl.kind {B : Nat} {w : World} {v : Value} {l : List UInt8} (h : Tl B w v l) : ∀ k, v.ownBlock = some k → ∃ cur, w.heap[k]? = some (.cells cur 5 (0, 0)) := by
  intro k hk
  rcases h with ⟨rfl, rfl⟩ | ⟨g, off, cap, cur, rfl, hB, hg, _⟩
  · cases hk
  · simp [Value.ownBlock] at hk
    subst hk
    exact ⟨cur, hg⟩
/-- l[n:] -/
theorem Tl.drop {B : Nat} {w : World} {a : Option Addr} {len c : Nat} {l : List UInt8} (h : Tl B w (.slice a len c) l) (n : Nat) (hn : n ≤ l.length) : Tl B w (sliced a n len c 1) (l.drop n) := by
  unfold sliced
  rcases h with ⟨he, rfl⟩ | ⟨g, off, cap, cur, he, hB, hg, hlc, hsz, hm, hl⟩
  · simp at he hn
    obtain ⟨rfl, rfl, rfl⟩ := he
    subst hn
    exact .inl ⟨rfl, rfl⟩
  · simp at he
    obtain ⟨rfl, rfl, rfl⟩ := he
    by_cases e : c = n
    · refine .inr ⟨g, off, 0, cur, ?_, hB, hg, ?_, by omega, by omega, ?_⟩
      · simp [e]
      · rw [List.length_drop]; omega
      · intro j hj
        rw [List.length_drop] at hj
        omega
    · refine .inr ⟨g, off + n, c - n, cur, ?_, hB, hg, ?_, by omega, by omega, ?_⟩
      · simp [e, Addr.add_lit]
      · rw [List.length_drop]; omega
      · intro j hj
        rw [List.length_drop] at hj
        have := hl (n + j) (by omega)
        rw [show off + n + j = off + (n + j) by omega, this]
        simp
theorem setCells_block {g : Nat} {T : TypeId} {fr : Nat × Nat} : ∀ (vs : List Value) (o : Nat) (w : World) (cs : Array Value), w.heap[g]? = some (.cells cs T fr) →
    ∃ cs', (w.setCells g o vs).heap[g]? = some (.cells cs' T fr) ∧ cs'.size = cs.size ∧ (∀ j, j < o → cs'[j]? = cs[j]?) ∧ (∀ j (h : j < vs.length), o + j < cs.size → cs'[o + j]? = some vs[j]) ∧ ∀ j, o + vs.length ≤ j → cs'[j]? = cs[j]?
  | [], o, w, cs, h => ⟨cs, h, rfl, fun _ _ => rfl, fun j h => by simp at h, fun _ _ => rfl⟩
  | v :: r, o, w, cs, h => by
    have h2 : (w.setCell ⟨g, o, none⟩ v).heap[g]? = some (.cells (cs.setIfInBounds o v) T fr) := by simp [World.setCell, Array.getElem?_modify, h]
    obtain ⟨cs', e1, e2, e3, e4, e5⟩ := setCells_block r (o + 1) _ _ h2
    refine ⟨cs', e1, by simpa using e2, fun j hj => ?_, fun j hj hlt => ?_, fun j hj => ?_⟩
    · rw [e3 j (by omega), Array.getElem?_setIfInBounds_ne (by omega)]
    · cases j with
      | zero =>
        rw [Nat.add_zero] at hlt ⊢
        rw [e3 o (by omega)]
        simp [hlt]
      | succ j =>
        have := e4 j (by simpa using hj) (by simp; omega)
        rw [show o + (j + 1) = o + 1 + j by omega, this]
        rfl
    · simp at hj
      rw [e5 j (by omega), Array.getElem?_setIfInBounds_ne (by omega)]
theorem setCells_size (g : Nat) : ∀ (vs : List Value) (o : Nat) (w : World), (w.setCells g o vs).heap.size = w.heap.size
  | [], _, _ => rfl
  | v :: r, o, w => by rw [World.setCells, setCells_size g r]; simp [World.setCell]
theorem setCells_tape (g : Nat) : ∀ (vs : List Value) (o : Nat) (w : World), (w.setCells g o vs).tape = w.tape
  | [], _, _ => rfl
  | v :: r, o, w => by rw [World.setCells, setCells_tape g r]; rfl
theorem setCells_output (g : Nat) : ∀ (vs : List Value) (o : Nat) (w : World), (w.setCells g o vs).output = w.output
  | [], _, _ => rfl
  | v :: r, o, w => by rw [World.setCells, setCells_output g r]; rfl
theorem setCells_os (g : Nat) : ∀ (vs : List Value) (o : Nat) (w : World), (w.setCells g o vs).os = w.os
  | [], _, _ => rfl
  | v :: r, o, w => by rw [World.setCells, setCells_os g r]; rfl

theorem info_u8' : ∃ i, Try.prog.info? 5 = some i ∧ i.zero = some (.int .u8 0) ∧ i.size = 1 ∧ i.bytes = 1 := info_parts info_u8

/-- append(l, m...) -/
theorem run_append_tl (ty : TypeId) {B : Nat} {w : World} {v : Value} {l : List UInt8} (h : Tl B w v l) {ad : Option Addr} {m : List UInt8} {n c : Nat} (hn : n = m.length) (hrd : Rd w ad m) (hlen : l.length + m.length ≤ 140737488355328) (hB : B ≤ w.heap.size) :
    ∃ v' w', (Builtin.append_ #[43, 43] ty #[v, .slice ad n c]).run Try.prog w = .ok v' w' ∧ Tl B w' v' (l ++ m) ∧ w.grownBy w' v.ownBlock ∧ (v'.ownBlock = v.ownBlock ∨ ∃ k, v'.ownBlock = some k ∧ w.heap.size ≤ k) := by
  subst hn
  obtain ⟨i0, hi, hz0, hz1, hz2⟩ := info_u8'
  cases ad with
  | none =>
    have hm : m = [] := by
      rcases hrd with h | ⟨_, _, h, _⟩
      · exact h
      · cases h
    subst hm
    refine ⟨v, w, ?_, by simpa using h, ⟨rfl, rfl, rfl, Nat.le_refl _, fun _ _ _ => rfl⟩, .inl rfl⟩
    obtain ⟨a, cp, rfl, _, hle, _⟩ := h.shape
    exact run_append_nothing w 43 43 ty 5 i0 Try.underlying43 hi a _ cp hle _ (Src.ofNil w Try.underlying43 c)
  | some x =>
    have hc : ∀ j u, (Lib.byteCells m)[j]? = some u → w.cell? (x.add j) = some u := by
      intro j u hu
      have hj : j < m.length := by have := (List.getElem?_eq_some_iff.1 hu).1; simpa [Lib.byteCells] using this
      rcases hrd with rfl | ⟨b, off, e, hc⟩
      · simp at hj
      · simp at e
        subst e
        have e1 : u = .int .u8 (m[j]).toNat := by
          simp [Lib.byteCells, hj] at hu
          exact hu.symm
        rw [e1, ← hc j hj, Addr.add_lit]
    rcases h with ⟨rfl, rfl⟩ | ⟨g, off, cap, cur, rfl, hBg, hg, hlc, hsz, hmx, hl⟩
    · obtain ⟨v', w', e1, e2, e3, _, e5⟩ := run_append_own_at (P := Try.prog) w B 43 ty 5 i0 (.int .u8 0) 1 1 Try.underlying43 hi hz0 hz1 hz2 rfl (by decide) (.slice none 0 0) 0 [] (World.ownsRow_nil _ _ _ _) x m.length c (Lib.byteCells m) (by simp [byteCells_len]) hc (byteCells_one m) (by simp at hlen; unfold maxLen; omega) (by simp at hlen; omega) hB
      refine ⟨v', w', e1, Tl.of_own ?_, e3, e5.imp id fun h => ⟨_, h, Nat.le_refl _⟩⟩
      unfold Own
      simpa using e2
    · by_cases hroom : l.length + m.length ≤ cap
      · have hcur : ∀ j, j < (Lib.byteCells m).length → w.cell? ⟨g, off + l.length * i0.size + j, none⟩ = cur[off + l.length + j]? := by
          intro j hj
          rw [hz1, Nat.mul_one, Lib.cell_of_heap hg]
        have h1 := run_append_room_cells (P := Try.prog) w 43 ty 5 i0 Try.underlying43 hi g off l.length cap x m.length c (Lib.byteCells m) (by simp [byteCells_len, hz1]) hc (byteCells_one m) hroom
          (fun j hj => by
            rw [hcur j hj]
            rw [byteCells_len] at hj
            rw [Array.getElem?_eq_getElem (by omega)]
            rfl) (fun j hj => Lib.frozen_of_heap hg _)
        rw [hz1, Nat.mul_one] at h1
        obtain ⟨cs', f1, f2, f3, f4, f5⟩ := setCells_block (Lib.byteCells m) (off + l.length) w cur hg
        refine ⟨_, _, h1, .inr ⟨g, off, cap, cs', by rw [List.length_append], hBg, f1, by rw [List.length_append]; omega, by omega, hmx, ?_⟩, ⟨setCells_os _ _ _ _, setCells_tape _ _ _ _, setCells_output _ _ _ _, Nat.le_of_eq (setCells_size _ _ _ _).symm, ?_⟩, .inl rfl⟩
        · intro j hj
          rw [List.length_append] at hj
          by_cases hjl : j < l.length
          · rw [f3 _ (by omega), hl j hjl, List.getElem_append_left hjl]
          · have := f4 (j - l.length) (by rw [byteCells_len]; omega) (by omega)
            rw [show off + l.length + (j - l.length) = off + j by omega] at this
            rw [this, List.getElem_append_right (by omega)]
            simp [Lib.byteCells]
        · intro k hk hne
          exact World.heap_setCells_other w g _ _ hk (fun e => hne (by subst e; rfl))
      · obtain ⟨v', w', e1, e2, e3⟩ := run_append_arg_grows (P := Try.prog) w 43 ty 5 i0 (.int .u8 0) 1 1 Try.underlying43 hi hz0 hz1 hz2 rfl (by decide) ⟨g, off, none⟩ l.length cap (Lib.byteCells l) (by simp [byteCells_len])
          (fun j u hu => by
            have hj : j < l.length := by have := (List.getElem?_eq_some_iff.1 hu).1; simpa [Lib.byteCells] using this
            have e1 : u = .int .u8 (l[j]).toNat := by
              simp [Lib.byteCells, hj] at hu
              exact hu.symm
            rw [Addr.add_lit, Lib.cell_of_heap hg, hl j hj, e1])
          x m.length c (Lib.byteCells m) (by simp [byteCells_len]) hc (by omega) (by unfold maxLen; omega) (by omega)
        have hown : Own w.heap.size w' v' (l ++ m) := by
          unfold Own
          rw [byteCells_app, List.length_append]
          exact e2
        refine ⟨v', w', e1, (Tl.of_own hown).mono hB, ⟨e3.os, e3.tape, e3.output, e3.size, fun k hk _ => e3.block k hk (by simp)⟩, ?_⟩
        · rcases hown.2 with ⟨rfl, h0⟩ | ⟨g', cap', cur', rfl, hB', hg', _⟩
          · exfalso
            rw [List.length_append] at h0
            omega
          · exact .inr ⟨g', rfl, hB'⟩
/-- .. for the walk. -/
theorem wpList_append_tl {ops : Array Oper} {rest : List Oper} {o : Oper} {a : Act} {w : World} {Q : Exit → Act → World → Prop} (hgd : o.guard = none) (s x : Operand)
    (ho : o.op = .call { callee := .builtin .append, args := #[s, x], argTypes := #[43, 43] })
    (B : Nat) (v : Value) (l : List UInt8) (hs : a.eval s = v) (h : Tl B w v l) (ad : Option Addr) (m : List UInt8) (n c : Nat) (hx : a.eval x = .slice ad n c) (hn : n = m.length) (hrd : Rd w ad m)
    (hlen : l.length + m.length ≤ 140737488355328) (hB : B ≤ w.heap.size)
    (hk : ∀ a' n' c' w', Hid (n' = (l ++ m).length) → Tl B w' (.slice a' n' c') (l ++ m) → w.grownBy w' v.ownBlock → (Value.ownBlock (.slice a' n' c') = v.ownBlock ∨ ∃ k, Value.ownBlock (.slice a' n' c') = some k ∧ w.heap.size ≤ k) →
      wpList Try.prog ops Q rest (a.put o.dst (.slice a' n' c')) w') : wpList Try.prog ops Q (o :: rest) a w := by
  refine wpList_plain hgd fun K hK' => ?_
  obtain ⟨v', w', h1, h2, h3, h4⟩ := run_append_tl o.type h hn hrd hlen hB
  obtain ⟨a', c', rfl, _⟩ := h2.shape
  unfold Oper.wp execOp
  simp only [ho, resolve, invoke, builtin, Sem.run_bind, Sem.run_pure, Result.andThen_ok, List.map_toArray, List.map_cons, List.map_nil, hs, hx]
  erw [h1]
  exact hK' _ _ (hk a' _ c' w' (Lib.hid rfl) h2 h3 h4)

/-- What was there is as it was, but for the blocks f. -/
structure Keeps (f : Nat → Prop) (w w' : World) : Prop where
  os : w'.os = w.os
  tape : w'.tape = w.tape
  output : w'.output = w.output
  size : w.heap.size ≤ w'.heap.size
  block : ∀ k, k < w.heap.size → ¬ f k → w'.heap[k]? = w.heap[k]?
theorem Keeps.refl (f : Nat → Prop) (w : World) : Keeps f w w := ⟨rfl, rfl, rfl, Nat.le_refl _, fun _ _ _ => rfl⟩
theorem Keeps.trans {f f' : Nat → Prop} {a b c : World} (h : Keeps f a b) (k : Keeps f' b c) (hf : ∀ k, k < a.heap.size → f' k → f k) : Keeps f a c :=
  ⟨k.os.trans h.os, k.tape.trans h.tape, k.output.trans h.output, Nat.le_trans h.size k.size, fun i hi hn => (k.block i (Nat.lt_of_lt_of_le hi h.size) (fun e => hn (hf i hi e))).trans (h.block i hi hn)⟩
theorem Keeps.mono {f f' : Nat → Prop} {a b : World} (h : Keeps f a b) (hf : ∀ k, k < a.heap.size → f k → f' k) : Keeps f' a b := ⟨h.os, h.tape, h.output, h.size, fun i hi hn => h.block i hi (fun e => hn (hf i hi e))⟩
theorem Keeps.of_below {B : Nat} {a b : World} (h : Below B a b) (hB : a.heap.size ≤ B) (f : Nat → Prop) : Keeps f a b := ⟨h.os, h.tape, h.output, h.size, fun k hk _ => h.block k (by omega)⟩
theorem Keeps.below {f : Nat → Prop} {a b : World} (h : Keeps f a b) (B : Nat) (hB : B ≤ a.heap.size) (hf : ∀ k, k < B → ¬ f k) : Below B a b := ⟨h.os, h.tape, h.output, h.size, fun k hk => h.block k (by omega) (hf k hk)⟩
theorem Keeps.drew {f : Nat → Prop} {a b : World} (h : Keeps f a b) : Keeps f a b.drew := ⟨h.os, h.tape, h.output, h.size, h.block⟩
theorem Keeps.of_grown {f : Nat → Prop} {a b : World} {row : Option Nat} (h : a.grownBy b row) (hf : ∀ k, row = some k → f k) : Keeps f a b := ⟨h.os, h.tape, h.output, h.size, fun k hk hn => h.block k hk (fun e => hn (hf k e.symm))⟩
theorem Keeps.setCell {f : Nat → Prop} (w : World) (p : Addr) (v : Value) (hf : f p.block) : Keeps f w (w.setCell p v) := ⟨rfl, rfl, rfl, by simp [World.setCell], fun k _ hn => Below.heap_setCell _ _ _ _ (fun e => hn (by rw [e]; exact hf))⟩
theorem Keeps.setCells {f : Nat → Prop} (w : World) (g o : Nat) (vs : List Value) (hf : f g) : Keeps f w (w.setCells g o vs) :=
  ⟨setCells_os _ _ _ _, setCells_tape _ _ _ _, setCells_output _ _ _ _, Nat.le_of_eq (setCells_size _ _ _ _).symm, fun k hk hn => World.heap_setCells_other w g _ _ hk (fun e => hn (by subst e; exact hf))⟩
theorem Rd.keeps {f : Nat → Prop} {w w' : World} {a : Option Addr} {l : List UInt8} (h : Rd w a l) (hk : Keeps f w w') (hf : ∀ b off s, a = some ⟨b, off, s⟩ → ¬ f b) : Rd w' a l := by
  rcases h with rfl | ⟨b, off, rfl, hc⟩
  · exact .inl rfl
  · refine .inr ⟨b, off, rfl, fun i hi => ?_⟩
    have hlt := World.block_lt_of_cell? w _ (hc i hi)
    rw [World.cell?_of_block (a := ⟨b, off + i, none⟩) (hk.block b hlt (hf b off none rfl))]
    exact hc i hi
end Go.Proofs.Ytfcokdkbjajohaa
/- Operations that only add: bytes and strings (no hash in sight). -/
set_option linter.unusedVariables false
namespace Go.Proofs.Ytfcokdkbjajohaa
open Go.RowKit

def VBytes (m : List UInt8) : Value → World → Prop := fun v w => ∃ a c, v = .slice a m.length c ∧ Rd w a m
def VStr (m : List UInt8) : Value → World → Prop := fun v _ => v = .string ⟨m.toArray⟩
theorem VBytes.stab (m : List UInt8) : Stab (VBytes m) := fun v w1 w2 ⟨a, c, e, h⟩ hb => ⟨a, c, e, h.below hb⟩
theorem VStr.stab (m : List UInt8) : Stab (VStr m) := fun v w1 w2 h hb => h
section
variable {Q : Exit → Act → World → Prop} {o : Oper} {a : Act} {w : World} {V : Value → World → Prop}
theorem grow_str {x : Operand} {m : List UInt8} (ho : o.op = .convert 43 9 x) (hx : VBytes m (a.eval x) w) : o.wp Try.prog a w (Grew o.dst (VStr m) a w) Q := by
  obtain ⟨ad, c, e, h⟩ := hx
  refine grow_convert (v := .string ⟨m.toArray⟩) ho ?_ rfl
  rw [e]
  exact str_of_rd h _ c rfl
theorem grow_byte1 {x : Operand} {b : UInt8} (ho : o.op = .buildSlice 43 1 #[(0, x)]) (hx : a.eval x = .int .u8 (b.toNat : Nat)) : o.wp Try.prog a w (Grew o.dst (VBytes [b]) a w) Q := by
  refine grow_value (v := .slice (some ⟨w.heap.size, 0, none⟩) 1 1) (w' := w.alloc (.cells #[.int .u8 (b.toNat : Nat)] 5)) ?_ ⟨_, _, rfl, Rd.of_lit (T := 5) (fr := (0, 0)) _ (by rw [heap_alloc_new]; rfl)⟩ ((Below.refl _ _).alloc (Nat.le_refl _) _)
  simp only [execOp, ho, List.map_toArray, List.map_cons, List.map_nil, hx]
  go_simp
end
end Go.Proofs.Ytfcokdkbjajohaa
/- text.Wrong. -/
set_option linter.unusedVariables false
namespace Go.Proofs.Ytfcokdkbjajohaa
open Go.RowKit

def spcell (p : Nat × Nat) : List Value := [.int .u8 (p.1 : Int), .int .u8 (p.2 : Int)]
theorem spcell_len (p : Nat × Nat) : (spcell p).length = 2 := rfl

set_option maxRecDepth 100000 in
set_option maxHeartbeats 4000000 in
theorem has_any (lo hi c : Nat) (w : World) :
    Calls Try.prog 54 #[.agg #[.int .u8 (lo : Int), .int .u8 (hi : Int)], .int .u8 (c : Int)] w fun e w' => e = .returned (.bool (hasB (lo, hi) c)) ∧ Below w.heap.size w w' := by
  have hv : hasB (lo, hi) c = (decide ((lo : Int) ≤ (c : Int)) && decide ((c : Int) ≤ (hi : Int))) := by
    unfold hasB
    congr 1 <;> (rw [Bool.eq_iff_iff]; simp)
  have hb : Below w.heap.size w (w.alloc (.cells #[.int .u8 (lo : Int), .int .u8 (hi : Int)] 93)) := (Below.refl _ _).alloc (Nat.le_refl _) _
  have HV := Lib.hid hv
  have HB := Lib.hid hb
  clear hv hb
  by_cases h1 : (lo : Int) ≤ (c : Int) <;> by_cases h2 : (c : Int) ≤ (hi : Int)
  all_goals
    go_enter Try.func54, Try.ntmps54
    go_wp2_with fail
    refine bodyPost_ret (results_tmp rfl _ _ _) rfl ?_
    exact ⟨by rw [HV.out]; first | rfl | (simp [h1, h2, Array.getD]; done) | (simp [h1, h2, Array.getD]; omega), HB.out⟩

set_option maxHeartbeats 1000000 in
theorem further_any (w : World) :
    Calls Try.prog 77 #[] w fun e w' => e = .returned (.agg #[.int .u8 128, .int .u8 191]) ∧ Below w.heap.size w w' := by
  go_enter Try.func77, Try.ntmps77
  go_wp2
  refine bodyPost_ret (v := .agg #[.int .u8 128, .int .u8 191]) (by simp [results, Try.results77, go_sem]) rfl ⟨rfl, ?_⟩
  exact (Below.refl _ _).alloc (Nat.le_refl _) _
def BehindIs (c : Nat) (e : Ending) (w' : World) : Prop :=
  (∃ l a cp, behindL c = some l ∧ e = .returned (.tuple #[.slice a l.length cp, .bool true]) ∧ RdC w' a (l.flatMap spcell)) ∨ (behindL c = none ∧ e = .returned (.tuple #[.slice none 0 0, .bool false]))
theorem heap_new2 (w : World) (o o' : Obj) : ((w.alloc o).alloc o').heap[w.heap.size + 1]? = some o' := by
  have h := heap_alloc_new (w.alloc o) o'
  have e : (w.alloc o).heap.size = w.heap.size + 1 := by simp
  rwa [e] at h

set_option maxRecDepth 100000 in
set_option maxHeartbeats 8000000 in
theorem behind_any (c : Nat) (hc : c < 256) (w : World) :
    Calls Try.prog 53 #[.int .u8 (c : Int)] w fun e w' => BehindIs c e w' ∧ Below w.heap.size w w' := by
  by_cases h0 : c < 128
  · have hv : behindL c = some [] := by unfold behindL; rw [if_pos h0]
    have HV := Lib.hid hv
    clear hv
    have e224 : ¬ (c : Int) = 224 := by omega
    have e237 : ¬ (c : Int) = 237 := by omega
    have e240 : ¬ (c : Int) = 240 := by omega
    have e244 : ¬ (c : Int) = 244 := by omega
    go_enter Try.func53, Try.ntmps53
    go_wp2_with fail
    refine (further_any _).mono ?_
    rintro e w1 ⟨rfl, hb1⟩
    have HB1 := Lib.hid (hb1.alloc hb1.size (.cells #[.int .u8 128, .int .u8 191] 93))
    have hsz := hb1.size
    clear hb1
    go_wp2_with fail
    go_ret2
    exact ⟨.inl ⟨[], none, 0, HV.out, rfl, .inl rfl⟩, HB1.out⟩
  by_cases h1 : c < 194
  · have hv : behindL c = none := by unfold behindL; rw [if_neg h0, if_pos h1]
    have HV := Lib.hid hv
    clear hv
    have e224 : ¬ (c : Int) = 224 := by omega
    have e237 : ¬ (c : Int) = 237 := by omega
    have e240 : ¬ (c : Int) = 240 := by omega
    have e244 : ¬ (c : Int) = 244 := by omega
    go_enter Try.func53, Try.ntmps53
    go_wp2_with fail
    refine (further_any _).mono ?_
    rintro e w1 ⟨rfl, hb1⟩
    have HB1 := Lib.hid (hb1.alloc hb1.size (.cells #[.int .u8 128, .int .u8 191] 93))
    have hsz := hb1.size
    clear hb1
    go_wp2_with fail
    go_ret2
    exact ⟨.inr ⟨HV.out, rfl⟩, HB1.out⟩
  by_cases h2 : c < 224
  · have hv : behindL c = some [(128, 191)] := by unfold behindL; rw [if_neg h0, if_neg h1, if_pos h2]
    have HV := Lib.hid hv
    clear hv
    have e224 : ¬ (c : Int) = 224 := by omega
    have e237 : ¬ (c : Int) = 237 := by omega
    have e240 : ¬ (c : Int) = 240 := by omega
    have e244 : ¬ (c : Int) = 244 := by omega
    go_enter Try.func53, Try.ntmps53
    go_wp2_with fail
    refine (further_any _).mono ?_
    rintro e w1 ⟨rfl, hb1⟩
    have HB1 := Lib.hid (hb1.alloc hb1.size (.cells #[.int .u8 128, .int .u8 191] 93))
    have hsz := hb1.size
    clear hb1
    go_wp2_with fail
    go_ret2
    exact ⟨.inl ⟨_, _, _, HV.out, rfl, RdC.of_lit (heap_new2 _ _ _) rfl⟩, HB1.out.alloc (by simp; omega) _⟩
  by_cases h3 : c = 224
  · have hv : behindL c = some [(160, 191), (128, 191)] := by unfold behindL; rw [if_neg h0, if_neg h1, if_neg h2, if_pos h3]
    have HV := Lib.hid hv
    clear hv
    subst h3
    go_enter Try.func53, Try.ntmps53
    go_wp2_with fail
    refine (further_any _).mono ?_
    rintro e w1 ⟨rfl, hb1⟩
    have HB1 := Lib.hid (hb1.alloc hb1.size (.cells #[.int .u8 128, .int .u8 191] 93))
    have hsz := hb1.size
    clear hb1
    go_wp2_with fail
    go_ret2
    exact ⟨.inl ⟨_, _, _, HV.out, rfl, RdC.of_lit (heap_new2 _ _ _) rfl⟩, HB1.out.alloc (by simp; omega) _⟩
  by_cases h4 : c = 237
  · have hv : behindL c = some [(128, 159), (128, 191)] := by unfold behindL; rw [if_neg h0, if_neg h1, if_neg h2, if_neg h3, if_pos h4]
    have HV := Lib.hid hv
    clear hv
    subst h4
    go_enter Try.func53, Try.ntmps53
    go_wp2_with fail
    refine (further_any _).mono ?_
    rintro e w1 ⟨rfl, hb1⟩
    have HB1 := Lib.hid (hb1.alloc hb1.size (.cells #[.int .u8 128, .int .u8 191] 93))
    have hsz := hb1.size
    clear hb1
    go_wp2_with fail
    go_ret2
    exact ⟨.inl ⟨_, _, _, HV.out, rfl, RdC.of_lit (heap_new2 _ _ _) rfl⟩, HB1.out.alloc (by simp; omega) _⟩
  by_cases h5 : c < 240
  · have hv : behindL c = some [(128, 191), (128, 191)] := by unfold behindL; rw [if_neg h0, if_neg h1, if_neg h2, if_neg h3, if_neg h4, if_pos h5]
    have HV := Lib.hid hv
    clear hv
    have e224 : ¬ (c : Int) = 224 := by omega
    have e237 : ¬ (c : Int) = 237 := by omega
    have e240 : ¬ (c : Int) = 240 := by omega
    have e244 : ¬ (c : Int) = 244 := by omega
    go_enter Try.func53, Try.ntmps53
    go_wp2_with fail
    refine (further_any _).mono ?_
    rintro e w1 ⟨rfl, hb1⟩
    have HB1 := Lib.hid (hb1.alloc hb1.size (.cells #[.int .u8 128, .int .u8 191] 93))
    have hsz := hb1.size
    clear hb1
    go_wp2_with fail
    go_ret2
    exact ⟨.inl ⟨_, _, _, HV.out, rfl, RdC.of_lit (heap_new2 _ _ _) rfl⟩, HB1.out.alloc (by simp; omega) _⟩
  by_cases h6 : c = 240
  · have hv : behindL c = some [(144, 191), (128, 191), (128, 191)] := by unfold behindL; rw [if_neg h0, if_neg h1, if_neg h2, if_neg h3, if_neg h4, if_neg h5, if_pos h6]
    have HV := Lib.hid hv
    clear hv
    subst h6
    go_enter Try.func53, Try.ntmps53
    go_wp2_with fail
    refine (further_any _).mono ?_
    rintro e w1 ⟨rfl, hb1⟩
    have HB1 := Lib.hid (hb1.alloc hb1.size (.cells #[.int .u8 128, .int .u8 191] 93))
    have hsz := hb1.size
    clear hb1
    go_wp2_with fail
    go_ret2
    exact ⟨.inl ⟨_, _, _, HV.out, rfl, RdC.of_lit (heap_new2 _ _ _) rfl⟩, HB1.out.alloc (by simp; omega) _⟩
  by_cases h7 : c < 244
  · have hv : behindL c = some [(128, 191), (128, 191), (128, 191)] := by unfold behindL; rw [if_neg h0, if_neg h1, if_neg h2, if_neg h3, if_neg h4, if_neg h5, if_neg h6, if_pos h7]
    have HV := Lib.hid hv
    clear hv
    have e224 : ¬ (c : Int) = 224 := by omega
    have e237 : ¬ (c : Int) = 237 := by omega
    have e240 : ¬ (c : Int) = 240 := by omega
    have e244 : ¬ (c : Int) = 244 := by omega
    go_enter Try.func53, Try.ntmps53
    go_wp2_with fail
    refine (further_any _).mono ?_
    rintro e w1 ⟨rfl, hb1⟩
    have HB1 := Lib.hid (hb1.alloc hb1.size (.cells #[.int .u8 128, .int .u8 191] 93))
    have hsz := hb1.size
    clear hb1
    go_wp2_with fail
    go_ret2
    exact ⟨.inl ⟨_, _, _, HV.out, rfl, RdC.of_lit (heap_new2 _ _ _) rfl⟩, HB1.out.alloc (by simp; omega) _⟩
  by_cases h8 : c = 244
  · have hv : behindL c = some [(128, 143), (128, 191), (128, 191)] := by unfold behindL; rw [if_neg h0, if_neg h1, if_neg h2, if_neg h3, if_neg h4, if_neg h5, if_neg h6, if_neg h7, if_pos h8]
    have HV := Lib.hid hv
    clear hv
    subst h8
    go_enter Try.func53, Try.ntmps53
    go_wp2_with fail
    refine (further_any _).mono ?_
    rintro e w1 ⟨rfl, hb1⟩
    have HB1 := Lib.hid (hb1.alloc hb1.size (.cells #[.int .u8 128, .int .u8 191] 93))
    have hsz := hb1.size
    clear hb1
    go_wp2_with fail
    go_ret2
    exact ⟨.inl ⟨_, _, _, HV.out, rfl, RdC.of_lit (heap_new2 _ _ _) rfl⟩, HB1.out.alloc (by simp; omega) _⟩
  have hv : behindL c = none := by unfold behindL; rw [if_neg h0, if_neg h1, if_neg h2, if_neg h3, if_neg h4, if_neg h5, if_neg h6, if_neg h7, if_neg h8]
  have HV := Lib.hid hv
  clear hv
  have e224 : ¬ (c : Int) = 224 := by omega
  have e237 : ¬ (c : Int) = 237 := by omega
  have e240 : ¬ (c : Int) = 240 := by omega
  have e244 : ¬ (c : Int) = 244 := by omega
  go_enter Try.func53, Try.ntmps53
  go_wp2_with fail
  refine (further_any _).mono ?_
  rintro e w1 ⟨rfl, hb1⟩
  have HB1 := Lib.hid (hb1.alloc hb1.size (.cells #[.int .u8 128, .int .u8 191] 93))
  have hsz := hb1.size
  clear hb1
  go_wp2_with fail
  go_ret2
  exact ⟨.inr ⟨HV.out, rfl⟩, HB1.out⟩
end Go.Proofs.Ytfcokdkbjajohaa
/- text.character, text.Wrong, text.Told. -/
set_option linter.unusedVariables false
namespace Go.Proofs.Ytfcokdkbjajohaa
open Go.RowKit

theorem ent_has : ∀ args w, (callFunc 54 args).run Try.prog w = .ok (.enter 54 args) w := run_enters Try.func54 (by kernel_rfl) rfl
theorem spansOK_drop (l : List (Nat × Nat)) (r : List UInt8) (j : Nat) (h1 : j < l.length) (h2 : j < r.length) : spansOK (l.drop j) (r.drop j) = (hasB l[j] r[j].toNat && spansOK (l.drop (j + 1)) (r.drop (j + 1))) := by
  rw [List.drop_eq_getElem_cons h1, List.drop_eq_getElem_cons h2]
  rfl

set_option maxRecDepth 100000 in
set_option maxHeartbeats 8000000 in
theorem char_any (s : List UInt8) (hne : s ≠ []) (w : World) (hs : s.length ≤ 140737488351232) :
    Calls Try.prog 41 #[.string ⟨s.toArray⟩] w fun e w' => e = .returned (.int .i64 (chr s : Nat)) ∧ Below w.heap.size w w' := by
  have hl : 0 < s.length := List.length_pos_iff.2 hne
  have hix0 : ∀ w, (Instr.index 9 (.string ⟨s.toArray⟩) (.int .i64 0)).run Try.prog w = .ok (.int .u8 (s[0].toNat : Nat)) w := fun w => str_at s 0 hl w
  have hsp := chr_spans s
  have hg : s.getD 0 0 = s[0] := by simp [List.getD_eq_getElem?_getD, hl]
  rw [hg] at hsp
  have hlt := UInt8.toNat_lt s[0]
  generalize s[0].toNat = c at *
  have HSP := Lib.hid hsp
  clear hsp hg
  go_enter Try.func41, Try.ntmps41
  go_wp2_with fail
  refine (behind_any c hlt w).mono ?_
  rintro e w1 ⟨hbi, hb1⟩
  have HB1 := Lib.hid hb1
  clear hb1
  rcases hbi with ⟨l, a, cp, hbl, rfl, hrc⟩ | ⟨hbl, rfl⟩
  · have hsp := HSP.out
    rw [hbl] at hsp
    simp only at hsp
    have HS1 := Lib.hid hsp
    have HRC := Lib.hid hrc
    have hl3 : l.length ≤ 3 := by
      unfold behindL at hbl
      repeat' split at hbl
      all_goals first | cases hbl | skip
      all_goals simp_all
      all_goals subst hbl; simp
    clear hsp HSP hrc hbl
    by_cases hsh : s.length ≤ l.length
    · have hshI : (s.length : Int) ≤ (l.length : Int) := by omega
      have hz : chr s = 0 := by
        rw [HS1.out, spansOK_short l (s.drop 1) (by rw [List.length_drop]; omega)]
        rfl
      have HZ := Lib.hid hz
      clear hz HS1
      go_wp2_with fail
      refine bodyPost_ret (results_tmp rfl _ _ _) rfl ?_
      exact ⟨by rw [HZ.out]; rfl, HB1.out⟩
    have hshI : ¬ (s.length : Int) ≤ (l.length : Int) := by omega
    go_wp2_with fail
    go_loopg [24] l.length (fun k y wr => ∃ j : Nat, y = .int .i64 (j : Int) ∧ j + k = l.length ∧ Hid (spansOK l (s.drop 1) = spansOK (l.drop j) ((s.drop 1).drop j)) ∧ Hid (RdC wr a (l.flatMap spcell)) ∧ Hid (Below w.heap.size w wr))
    case atStart => exact ⟨0, rfl, by omega, Lib.hid (by rw [List.drop_zero, List.drop_zero]), HRC, HB1⟩
    case round =>
    obtain ⟨j, rfl, hj, HSO, HR, HB⟩ := hrel
    by_cases hlt2 : j < l.length
    · have hltI : (j : Int) < (l.length : Int) := by omega
      obtain ⟨bk, off, rfl, hcl⟩ := HR.out.at (by intro h; have h2 := flat_len spcell 2 spcell_len l; rw [h] at h2; simp at h2; omega)
      have g0 := flat_get spcell 2 spcell_len l j 0 hlt2 (by omega)
      have g1 := flat_get spcell 2 spcell_len l j 1 hlt2 (by omega)
      have c1 := hcl _ _ (g0.trans rfl)
      have c2 := hcl _ _ (g1.trans rfl)
      rw [Nat.add_zero] at c1
      rw [← Nat.add_assoc] at c2
      have hso := HSO.out
      rw [spansOK_drop l (s.drop 1) j hlt2 (by rw [List.length_drop]; omega)] at hso
      have hix := fun w => str_at s (j + 1) (by omega) w
      rw [show ((j + 1 : Nat) : Int) = (j : Int) + 1 by omega] at hix
      have hget : (s.drop 1)[j]'(by rw [List.length_drop]; omega) = s[j + 1]'(by omega) := by
        rw [List.getElem_drop]; congr 1; omega
      rw [hget] at hso
      generalize s[j + 1].toNat = b at *
      generalize hpq : l[j] = pq at *
      obtain ⟨p, q⟩ := pq
      simp only at c1 c2
      have HSO1 := Lib.hid hso
      have HIX := Lib.hid hix
      clear g0 g1 hcl hso hget hix hpq HSO
      go_upto_region 7 with (fail)
      have hal : Below wr.heap.size wr (wr.alloc (.cells #[.int .u8 (p : Int), .int .u8 (q : Int)] 93)) := (Below.refl _ _).alloc (Nat.le_refl _) _
      have hk := heap_alloc_new wr (.cells #[.int .u8 (p : Int), .int .u8 (q : Int)] 93)
      have C1 := Lib.hid (show World.cell? _ ⟨wr.heap.size, 0, none⟩ = some (.int .u8 (p : Int)) by rw [Lib.cell_of_heap hk]; rfl)
      have C2 := Lib.hid (show World.cell? _ ⟨wr.heap.size, 1, none⟩ = some (.int .u8 (q : Int)) by rw [Lib.cell_of_heap hk]; rfl)
      have HBa := Lib.hid (HB.out.trans (hal.mono HB.out.size))
      have HRa := Lib.hid (HR.out.below hal)
      clear hal hk c1 c2 HR HB
      refine wp_region_grow (by kernel_rfl) (by kernel_rfl) [29, 30, 31, 32, 33, 34, 35] rfl (by decide) (by kernel_rfl) (fun iX => [VIs (.agg #[Value.int .u8 (p : Int), Value.int .u8 (q : Int)]), VIs (.string ⟨s.toArray⟩), VIs (.int .i64 (j : Int)), VIs (.int .i64 ((j : Int) + 1)), VIs (.int .u8 (b : Int)), VIs (.bool (hasB (p, q) b)), VIs (.bool (!hasB (p, q) b))].getD iX fun _ _ => True) (stab_list _ ?_) ?_ ?_
      · skip
        intro V hV
        simp only [List.mem_cons, List.mem_nil_iff, or_false] at hV
        rcases hV with rfl | rfl | rfl | rfl | rfl | rfl | rfl <;> first | exact VIs.stab _ | exact VBytes.stab _ | exact VStr.stab _ | exact VParts.stab _ | exact VRow.stab _ | exact VRow8.stab _ _ | exact VRowIs.stab _ _ _
      · intro iX o ho a' w' hf hb hd
        rcases iX with _ | _ | _ | _ | _ | _ | _ | iX
        · cases ho
          refine grow_op rfl rfl rfl ?_
          have c1 := cell_now hb C1.out
          have c2 := cell_now hb C2.out
          have e6 : a'.tmps.getD 6 undef = .pointer (some ⟨wr.heap.size, 0, none⟩) := (hf.same 6 (by decide)).trans rfl
          refine grow_value (v := .agg #[Value.int .u8 (p : Int), Value.int .u8 (q : Int)]) (w' := w') ?_ rfl (Below.refl _ _)
          simp only [execOp, Act.eval]
          go_simp
        · cases ho
          refine grow_op rfl rfl rfl (grow_move rfl ?_)
          exact (hf.same 0 (by decide)).trans rfl
        · cases ho
          refine grow_op rfl rfl rfl (grow_move rfl ?_)
          exact (hf.same 5 (by decide)).trans rfl
        · cases ho
          refine grow_op rfl rfl rfl ?_
          have e2 : a'.tmps.getD 31 undef = .int .i64 (j : Int) := hd 2 (by kernel_rfl)
          refine grow_value (v := .int .i64 ((j : Int) + 1)) (w' := w') ?_ rfl (Below.refl _ _)
          simp only [execOp, Act.eval, e2]
          go_simp
          exact IntWalk.i64_in _ (by omega)
        · cases ho
          refine grow_op rfl rfl rfl ?_
          have e1 : a'.tmps.getD 30 undef = .string ⟨s.toArray⟩ := hd 1 (by kernel_rfl)
          have e3 : a'.tmps.getD 32 undef = .int .i64 ((j : Int) + 1) := hd 3 (by kernel_rfl)
          have hx := HIX.out w'
          refine grow_value (v := .int .u8 (b : Int)) (w' := w') ?_ rfl (Below.refl _ _)
          simp only [execOp, Act.eval, e1, e3]
          go_simp
        · cases ho
          refine grow_op rfl rfl rfl ?_
          have e0 : a'.tmps.getD 29 undef = .agg #[Value.int .u8 (p : Int), Value.int .u8 (q : Int)] := hd 0 (by kernel_rfl)
          have e4 : a'.tmps.getD 33 undef = .int .u8 (b : Int) := hd 4 (by kernel_rfl)
          refine grow_call ent_has rfl ?_
          simp only [List.map_toArray, List.map_cons, List.map_nil, Act.eval, e0, e4]
          exact (has_any p q b w').mono (fun e w'' ⟨h1, h2⟩ => ⟨_, h1, rfl, h2⟩)
        · cases ho
          refine grow_op rfl rfl rfl ?_
          have e5 : a'.tmps.getD 34 undef = .bool (hasB (p, q) b) := hd 5 (by kernel_rfl)
          refine grow_value (v := .bool (!hasB (p, q) b)) (w' := w') ?_ rfl (Below.refl _ _)
          simp only [execOp, Act.eval, e5]
          go_simp
        · simp at ho
      · intro a' w' hf hb hd
        obtain rfl := hf.eq [Value.agg #[Value.int IntKind.u8 (p : Int), Value.int IntKind.u8 (q : Int)], Value.string ⟨s.toArray⟩, Value.int IntKind.i64 (j : Int), Value.int IntKind.i64 ((j : Int) + 1), Value.int IntKind.u8 (b : Int), Value.bool (hasB (p, q) b), Value.bool (!hasB (p, q) b)] (fun j hj => match j, hj with
          | 0, _ => hd 0 (by decide)
          | 1, _ => hd 1 (by decide)
          | 2, _ => hd 2 (by decide)
          | 3, _ => hd 3 (by decide)
          | 4, _ => hd 4 (by decide)
          | 5, _ => hd 5 (by decide)
          | 6, _ => hd 6 (by decide)
          | k + 7, h => absurd h (by simp)) (by decide) (by kernel_rfl) rfl
        simp only [List.zip_cons_cons, List.zip_nil_right, List.foldl_cons, List.foldl_nil, Act.put, List.setIfInBounds_toArray, List.set_cons_succ, List.set_cons_zero]
        have HRx := Lib.hid (HRa.out.below hb)
        have HBx := Lib.hid (HBa.out.trans (hb.mono HBa.out.size))
        clear hf hd hb
        cases hh : hasB (p, q) b with
        | true =>
          have hso := HSO1.out
          rw [hh, Bool.true_and] at hso
          have HSO2 := Lib.hid hso
          clear hso HSO1 hh
          go_wp2_with fail
          go_roundg (gk - 1)
          case measure => omega
          case rel => exact ⟨j + 1, by first | rfl | (congr 1), by omega, HSO2, HRx, HBx⟩
        | false =>
          have hz : chr s = 0 := by rw [HS1.out, HSO1.out, hh]; rfl
          have HZ := Lib.hid hz
          clear hz HS1 HSO1 hh
          go_wp2_with fail
          refine bodyPost_ret (results_tmp rfl _ _ _) rfl ?_
          exact ⟨by rw [HZ.out]; rfl, HBx.out⟩
    · have hltI : ¬ (j : Int) < (l.length : Int) := by omega
      have hso := HSO.out
      rw [List.drop_of_length_le (show l.length ≤ j by omega)] at hso
      have hz : chr s = 1 + l.length := by rw [HS1.out, hso]; rfl
      have HZ := Lib.hid hz
      clear hz HS1 hso HSO
      go_wp2_with fail
      refine bodyPost_ret (results_tmp rfl _ _ _) rfl ?_
      exact ⟨by rw [HZ.out]; simp [Array.getD], HB.out⟩
  · have hz : chr s = 0 := by rw [HSP.out, hbl]
    have HZ := Lib.hid hz
    clear hz HSP hbl
    go_wp2_with fail
    refine bodyPost_ret (results_tmp rfl _ _ _) rfl ?_
    exact ⟨by rw [HZ.out]; rfl, HB1.out⟩
end Go.Proofs.Ytfcokdkbjajohaa
/- text.Wrong, text.Told. -/
set_option linter.unusedVariables false
namespace Go.Proofs.Ytfcokdkbjajohaa
open Go.RowKit

set_option maxRecDepth 100000 in
set_option maxHeartbeats 4000000 in
theorem wrong_any (s : List UInt8) (w : World) (hs : s.length ≤ 140737488351232) :
    Calls Try.prog 24 #[.string ⟨s.toArray⟩] w fun e w' => e = .returned (.int .i64 (wrongI s)) ∧ Below w.heap.size w w' := by
  go_enter Try.func24, Try.ntmps24
  go_wp2_with fail
  go_loopg [3] s.length (fun k y wr => ∃ i : Nat, y = .int .i64 (i : Int) ∧ i + k = s.length ∧ Hid (Below w.heap.size w wr) ∧ Hid (wrongL s = (wrongL (s.drop i)).map (· + i)))
  case atStart => exact ⟨0, rfl, by omega, Lib.hid (Below.refl _ _), Lib.hid (by rw [List.drop_zero]; cases wrongL s <;> simp)⟩
  case round =>
    obtain ⟨i, rfl, hi, HB, HW⟩ := hrel
    by_cases hlt : i < s.length
    · have hltI : (i : Int) < (s.length : Int) := by omega
      have hsl := fun w => str_tail s i (by omega) (i : Int) rfl w
      have hne : s.drop i ≠ [] := by intro h; have := congrArg List.length h; rw [List.length_drop, List.length_nil] at this; omega
      have hw := HW.out
      have hcl := chr_len _ hne
      have hc4 := chr_le (s.drop i)
      have hdl : (s.drop i).length = s.length - i := List.length_drop
      rw [wrongL_ne _ hne] at hw
      rw [hdl] at hcl
      rw [List.drop_drop] at hw
      generalize s.drop i = t at *
      have HNE := Lib.hid hne
      have HW0 := Lib.hid hw
      clear hw hne HW
      go_wp2_with fail
      refine (char_any t HNE.out wr (by omega)).mono ?_
      rintro e w1 ⟨rfl, hb1⟩
      have HB1 := Lib.hid (HB.out.trans (hb1.mono HB.out.size))
      have hw := HW0.out
      clear hb1 HB HW0 hsl
      generalize chr t = n at *
      by_cases hz : n = 0
      · subst hz
        rw [if_pos rfl] at hw
        have HW1 := Lib.hid hw
        clear hw
        go_wp2_with fail
        refine bodyPost_ret (results_tmp rfl _ _ _) rfl ?_
        exact ⟨by unfold wrongI; rw [HW1.out]; simp [Array.getD], HB1.out⟩
      · rw [if_neg hz] at hw
        have HW1 := Lib.hid hw
        clear hw
        have hzI : ¬ (n : Int) = 0 := by omega
        go_wp2_with fail
        go_roundg (gk - n)
        case measure => omega
        case rel => exact ⟨i + n, by first | rfl | (congr 1), by omega, HB1, Lib.hid (by rw [HW1.out]; cases wrongL (s.drop (i + n)) <;> simp; omega)⟩
    · have hltI : ¬ (i : Int) < (s.length : Int) := by omega
      have hw := HW.out
      rw [List.drop_of_length_le (by omega), wrongL_nil] at hw
      have HW1 := Lib.hid hw
      clear hw HW
      go_wp2_with fail
      refine bodyPost_ret (results_tmp rfl _ _ _) rfl ?_
      exact ⟨by unfold wrongI; rw [HW1.out]; rfl, HB.out⟩
theorem wrongI_range (s : List UInt8) : -1 ≤ wrongI s := by
  unfold wrongI
  cases wrongL s with
  | none => simp
  | some n => simp only; omega
set_option maxHeartbeats 1000000 in
theorem told_any (s : List UInt8) (w : World) (hs : s.length ≤ 140737488351232) :
    Calls Try.prog 15 #[.string ⟨s.toArray⟩] w fun e w' => e = .returned (.bool (toldB s)) ∧ Below w.heap.size w w' := by
  have hn := wrongI_neg s
  have HN := Lib.hid hn
  clear hn
  go_enter Try.func15, Try.ntmps15
  go_wp2_with fail
  refine (wrong_any s w hs).mono ?_
  rintro e w1 ⟨rfl, hb1⟩
  have HB1 := Lib.hid hb1
  clear hb1
  go_wp2_with fail
  refine bodyPost_ret (results_tmp rfl _ _ _) rfl ?_
  exact ⟨by rw [← HN.out]; rfl, HB1.out⟩
end Go.Proofs.Ytfcokdkbjajohaa
/- json.Parse. -/
set_option linter.unusedVariables false
namespace Go.Proofs.Ytfcokdkbjajohaa
open Go.RowKit

structure PJ (gr vb fb : Nat) (cs : List Value) (E A : Int) (w0 : World) (a0 : Act) (b : Nat → Bool) (a : Act) (w' : World) : Prop where
  fr : Fr [43, 44, 45, 46, 47, 5, 6] a0 a
  b0 : b 0 = true → a.tmps.getD 43 undef = .agg cs.toArray
  b1 : b 1 = true → a.tmps.getD 44 undef = .pointer (some ⟨fb, 0, none⟩)
  b2 : b 2 = true → a.tmps.getD 45 undef = .int .i64 E
  b3 : b 3 = true → a.tmps.getD 46 undef = .pointer (some ⟨fb, 1, none⟩)
  b4 : b 4 = true → a.tmps.getD 47 undef = .int .i64 A
  b6 : b 6 = true → a.tmps.getD 5 undef = .int .i64 E
  b7 : b 7 = true → a.tmps.getD 6 undef = .int .i64 A
  res : w'.heap[gr]? = some (.cells (if b 5 then cs.toArray else #[.int .i64 0, .bool false, .string ⟨#[]⟩, .slice none 0 0, .slice none 0 0]) 28 (0, 0))
  ot : ∀ k, k ≠ gr → w'.heap[k]? = w0.heap[k]?
  os : w'.os = w0.os
  tape : w'.tape = w0.tape
  output : w'.output = w0.output
  size : w0.heap.size ≤ w'.heap.size
theorem parse_long {l : List UInt8} {D : Int} (h : 16384 < l.length) : parseL l D = (.zero, 11) := by unfold parseL; rw [if_pos h]
theorem parse_deep {l : List UInt8} {D : Int} (h : ¬ 16384 < l.length) (h2 : D < 1 ∨ 32 < D) : parseL l D = (.zero, 12) := by unfold parseL; rw [if_neg h, if_pos h2]
theorem parse_told {l : List UInt8} {D : Int} (h : ¬ 16384 < l.length) (h2 : ¬ (D < 1 ∨ 32 < D)) (h3 : toldB l = false) : parseL l D = (.zero, 30) := by unfold parseL; rw [if_neg h, if_neg h2, if_pos h3]
theorem parse_go {l : List UInt8} {D : Int} (h : ¬ 16384 < l.length) (h2 : ¬ (D < 1 ∨ 32 < D)) (h3 : toldB l = true) : parseL l D = match wholeR D.toNat l with
    | .ok v _ => (v, 0)
    | .bad e => (.zero, e) := by unfold parseL; rw [if_neg h, if_neg h2, if_neg (by simp [h3])]; cases wholeR D.toNat l <;> rfl
set_option maxRecDepth 100000 in
set_option maxHeartbeats 16000000 in
theorem parse_any (l : List UInt8) (a : Option Addr) (c : Nat) (D : Int) (w : World) (hrd : Rd w a l) (hl : l.length ≤ 1000000) :
    Calls Try.prog 11 #[.slice a l.length c, .int .i64 D] w fun e w' => Below w.heap.size w w' ∧ ∃ cs A, e = .returned (.tuple #[.agg cs.toArray, .int .i64 (parseL l D).2, .int .i64 A]) ∧ Rep (w.heap.size ≤ ·) w' cs (parseL l D).1 := by
  have HRD := Lib.hid hrd
  have hmf : ∀ (fn : Fn) (first cap : Array Value) (w : World), (Instr.makeFunc fn first cap).run Try.prog w = .ok (.func fn first cap) w := fun _ _ _ _ => rfl
  clear hrd
  go_enter Try.func11, Try.ntmps11
  go_upto_region 1 with (fail)
  have hb1 : Below w.heap.size w (w.alloc (.cells #[.int .i64 0, .bool false, .string ⟨#[]⟩, .slice none 0 0, .slice none 0 0] 28)) := (Below.refl _ _).alloc (Nat.le_refl _) _
  have hg1 := heap_alloc_new w (.cells #[.int .i64 0, .bool false, .string ⟨#[]⟩, .slice none 0 0, .slice none 0 0] 28)
  generalize w.alloc _ = w1 at *
  have HB1 := Lib.hid hb1
  have HG1 := Lib.hid hg1
  have HRD1 := Lib.hid (HRD.out.below hb1)
  have hgrl : w.heap.size < w1.heap.size := (Array.getElem?_eq_some_iff.1 hg1).1
  have hst := str_of_rd HRD1.out l.length c rfl
  clear hb1 hg1 HRD
  go_wp2_with fail
  refine (wrong_any l w1 (by omega)).mono ?_
  rintro e w2 ⟨rfl, hb2⟩
  have HB2 := Lib.hid (HB1.out.trans (hb2.mono HB1.out.size))
  have HG2 := Lib.hid ((hb2.block _ hgrl).trans HG1.out)
  have HRD2 := Lib.hid (HRD1.out.below hb2)
  have hs2 : w.heap.size < w2.heap.size := Nat.lt_of_lt_of_le hgrl hb2.size
  clear hb2 HRD1 HB1 HG1 hst
  by_cases h1 : 16384 < l.length
  · have HE := Lib.hid (parse_long (D := D) h1)
    have q1 : decide ((16384 : Int) < ((l.length : Nat) : Int)) = true := decide_eq_true (by omega)
    clear h1
    have d0 : w2.cell? ⟨w.heap.size, 0, none⟩ = some (.int .i64 0) := by rw [Lib.cell_of_heap HG2.out]; rfl
    have f0 := Lib.frozen_of_heap HG2.out 0
    have d1 : w2.cell? ⟨w.heap.size, 1, none⟩ = some (.bool false) := by rw [Lib.cell_of_heap HG2.out]; rfl
    have f1 := Lib.frozen_of_heap HG2.out 1
    have d2 : w2.cell? ⟨w.heap.size, 2, none⟩ = some (.string ⟨#[]⟩) := by rw [Lib.cell_of_heap HG2.out]; rfl
    have f2 := Lib.frozen_of_heap HG2.out 2
    have d3 : w2.cell? ⟨w.heap.size, 3, none⟩ = some (.slice none 0 0) := by rw [Lib.cell_of_heap HG2.out]; rfl
    have f3 := Lib.frozen_of_heap HG2.out 3
    have d4 : w2.cell? ⟨w.heap.size, 4, none⟩ = some (.slice none 0 0) := by rw [Lib.cell_of_heap HG2.out]; rfl
    have f4 := Lib.frozen_of_heap HG2.out 4
    go_wp2_with fail
    have hst := value_stored HG2.out (.int .i64 0) (.bool false) (.string ⟨#[]⟩) (.slice none 0 0) (.slice none 0 0)
    have HBE := Lib.hid (zero_stored HB2.out (Nat.le_refl _) (.int .i64 0) (.bool false) (.string ⟨#[]⟩) (.slice none 0 0) (.slice none 0 0))
    have e0 := Lib.cell_of_heap hst 0
    have e1 := Lib.cell_of_heap hst 1
    have e2 := Lib.cell_of_heap hst 2
    have e3 := Lib.cell_of_heap hst 3
    have e4 := Lib.cell_of_heap hst 4
    simp only [List.getElem?_toArray] at e0 e1 e2 e3 e4
    refine bodyPost_ret (v := .tuple #[.agg zero5.toArray, .int .i64 11, .int .i64 0]) (by simp [zero5, results, Try.results11, go_sem, e0, e1, e2, e3, e4]) rfl ?_
    exact ⟨HBE.out, zero5, 0, by rw [HE.out], by rw [HE.out]; exact Rep.leaf _ _ 0 false []⟩
  have q1 : decide ((16384 : Int) < ((l.length : Nat) : Int)) = false := decide_eq_false (by omega)
  by_cases h2 : D < 1 ∨ 32 < D
  · have HE := Lib.hid (parse_deep h1 h2)
    have hq : (D < 1) ∨ (¬ D < 1 ∧ 32 < D) := by omega
    clear h1 h2
    rcases hq with h2 | ⟨h2, h3⟩
    · have q2 : decide (D < 1) = true := decide_eq_true h2
      clear h2
      have d0 : w2.cell? ⟨w.heap.size, 0, none⟩ = some (.int .i64 0) := by rw [Lib.cell_of_heap HG2.out]; rfl
      have f0 := Lib.frozen_of_heap HG2.out 0
      have d1 : w2.cell? ⟨w.heap.size, 1, none⟩ = some (.bool false) := by rw [Lib.cell_of_heap HG2.out]; rfl
      have f1 := Lib.frozen_of_heap HG2.out 1
      have d2 : w2.cell? ⟨w.heap.size, 2, none⟩ = some (.string ⟨#[]⟩) := by rw [Lib.cell_of_heap HG2.out]; rfl
      have f2 := Lib.frozen_of_heap HG2.out 2
      have d3 : w2.cell? ⟨w.heap.size, 3, none⟩ = some (.slice none 0 0) := by rw [Lib.cell_of_heap HG2.out]; rfl
      have f3 := Lib.frozen_of_heap HG2.out 3
      have d4 : w2.cell? ⟨w.heap.size, 4, none⟩ = some (.slice none 0 0) := by rw [Lib.cell_of_heap HG2.out]; rfl
      have f4 := Lib.frozen_of_heap HG2.out 4
      go_wp2_with fail
      have hst := value_stored HG2.out (.int .i64 0) (.bool false) (.string ⟨#[]⟩) (.slice none 0 0) (.slice none 0 0)
      have HBE := Lib.hid (zero_stored HB2.out (Nat.le_refl _) (.int .i64 0) (.bool false) (.string ⟨#[]⟩) (.slice none 0 0) (.slice none 0 0))
      have e0 := Lib.cell_of_heap hst 0
      have e1 := Lib.cell_of_heap hst 1
      have e2 := Lib.cell_of_heap hst 2
      have e3 := Lib.cell_of_heap hst 3
      have e4 := Lib.cell_of_heap hst 4
      simp only [List.getElem?_toArray] at e0 e1 e2 e3 e4
      refine bodyPost_ret (v := .tuple #[.agg zero5.toArray, .int .i64 12, .int .i64 0]) (by simp [zero5, results, Try.results11, go_sem, e0, e1, e2, e3, e4]) rfl ?_
      exact ⟨HBE.out, zero5, 0, by rw [HE.out], by rw [HE.out]; exact Rep.leaf _ _ 0 false []⟩
    · have q2 : decide (D < 1) = false := decide_eq_false h2
      have q3 : decide ((32 : Int) < D) = true := decide_eq_true h3
      clear h2 h3
      have d0 : w2.cell? ⟨w.heap.size, 0, none⟩ = some (.int .i64 0) := by rw [Lib.cell_of_heap HG2.out]; rfl
      have f0 := Lib.frozen_of_heap HG2.out 0
      have d1 : w2.cell? ⟨w.heap.size, 1, none⟩ = some (.bool false) := by rw [Lib.cell_of_heap HG2.out]; rfl
      have f1 := Lib.frozen_of_heap HG2.out 1
      have d2 : w2.cell? ⟨w.heap.size, 2, none⟩ = some (.string ⟨#[]⟩) := by rw [Lib.cell_of_heap HG2.out]; rfl
      have f2 := Lib.frozen_of_heap HG2.out 2
      have d3 : w2.cell? ⟨w.heap.size, 3, none⟩ = some (.slice none 0 0) := by rw [Lib.cell_of_heap HG2.out]; rfl
      have f3 := Lib.frozen_of_heap HG2.out 3
      have d4 : w2.cell? ⟨w.heap.size, 4, none⟩ = some (.slice none 0 0) := by rw [Lib.cell_of_heap HG2.out]; rfl
      have f4 := Lib.frozen_of_heap HG2.out 4
      go_wp2_with fail
      have hst := value_stored HG2.out (.int .i64 0) (.bool false) (.string ⟨#[]⟩) (.slice none 0 0) (.slice none 0 0)
      have HBE := Lib.hid (zero_stored HB2.out (Nat.le_refl _) (.int .i64 0) (.bool false) (.string ⟨#[]⟩) (.slice none 0 0) (.slice none 0 0))
      have e0 := Lib.cell_of_heap hst 0
      have e1 := Lib.cell_of_heap hst 1
      have e2 := Lib.cell_of_heap hst 2
      have e3 := Lib.cell_of_heap hst 3
      have e4 := Lib.cell_of_heap hst 4
      simp only [List.getElem?_toArray] at e0 e1 e2 e3 e4
      refine bodyPost_ret (v := .tuple #[.agg zero5.toArray, .int .i64 12, .int .i64 0]) (by simp [zero5, results, Try.results11, go_sem, e0, e1, e2, e3, e4]) rfl ?_
      exact ⟨HBE.out, zero5, 0, by rw [HE.out], by rw [HE.out]; exact Rep.leaf _ _ 0 false []⟩
  have q2 : decide (D < 1) = false := decide_eq_false (by omega)
  have q3 : decide ((32 : Int) < D) = false := decide_eq_false (by omega)
  cases h3 : toldB l with
  | false =>
    have HE := Lib.hid (parse_told h1 h2 h3)
    have q4 : decide ((0 : Int) ≤ wrongI l) = true := by
      have := wrongI_neg l
      rw [h3] at this
      have := of_decide_eq_false this
      exact decide_eq_true (by omega)
    clear h1 h2 h3
    have d0 : w2.cell? ⟨w.heap.size, 0, none⟩ = some (.int .i64 0) := by rw [Lib.cell_of_heap HG2.out]; rfl
    have f0 := Lib.frozen_of_heap HG2.out 0
    have d1 : w2.cell? ⟨w.heap.size, 1, none⟩ = some (.bool false) := by rw [Lib.cell_of_heap HG2.out]; rfl
    have f1 := Lib.frozen_of_heap HG2.out 1
    have d2 : w2.cell? ⟨w.heap.size, 2, none⟩ = some (.string ⟨#[]⟩) := by rw [Lib.cell_of_heap HG2.out]; rfl
    have f2 := Lib.frozen_of_heap HG2.out 2
    have d3 : w2.cell? ⟨w.heap.size, 3, none⟩ = some (.slice none 0 0) := by rw [Lib.cell_of_heap HG2.out]; rfl
    have f3 := Lib.frozen_of_heap HG2.out 3
    have d4 : w2.cell? ⟨w.heap.size, 4, none⟩ = some (.slice none 0 0) := by rw [Lib.cell_of_heap HG2.out]; rfl
    have f4 := Lib.frozen_of_heap HG2.out 4
    go_wp2_with fail
    have hst := value_stored HG2.out (.int .i64 0) (.bool false) (.string ⟨#[]⟩) (.slice none 0 0) (.slice none 0 0)
    have HBE := Lib.hid (zero_stored HB2.out (Nat.le_refl _) (.int .i64 0) (.bool false) (.string ⟨#[]⟩) (.slice none 0 0) (.slice none 0 0))
    have e0 := Lib.cell_of_heap hst 0
    have e1 := Lib.cell_of_heap hst 1
    have e2 := Lib.cell_of_heap hst 2
    have e3 := Lib.cell_of_heap hst 3
    have e4 := Lib.cell_of_heap hst 4
    simp only [List.getElem?_toArray] at e0 e1 e2 e3 e4
    refine bodyPost_ret (v := .tuple #[.agg zero5.toArray, .int .i64 30, .int .i64 (wrongI l)]) (by simp [zero5, results, Try.results11, go_sem, e0, e1, e2, e3, e4]) rfl ?_
    exact ⟨HBE.out, zero5, wrongI l, by rw [HE.out], by rw [HE.out]; exact Rep.leaf _ _ 0 false []⟩
  | true =>
    have HE := Lib.hid (parse_go h1 h2 h3)
    have q4 : decide ((0 : Int) ≤ wrongI l) = false := by
      have := wrongI_neg l
      rw [h3] at this
      have := of_decide_eq_true this
      exact decide_eq_false (by omega)
    have hD : D.toNat ≤ 1000 := by omega
    have hDD : D = ((D.toNat : Nat) : Int) := by omega
    have hst := str_of_rd HRD2.out l.length c rfl
    generalize D.toNat = dn at *
    subst hDD
    clear h1 h2 h3
    go_upto_region 9 with (fail)
    have hb8 : Below w2.heap.size w2 (w2.alloc (.cells #[.string ⟨l.toArray⟩, .int .i64 0, .int .i64 ((dn : Nat) : Int), .int .i64 0] 61)) := (Below.refl _ _).alloc (Nat.le_refl _) _
    have hg8 := heap_alloc_new w2 (.cells #[.string ⟨l.toArray⟩, .int .i64 0, .int .i64 ((dn : Nat) : Int), .int .i64 0] 61)
    generalize w2.alloc _ = w8 at *
    have HRR : Hid (Rdr w8 w2.heap.size l 0 dn 0) := Lib.hid ⟨hg8, Nat.zero_le _⟩
    have HB8 := Lib.hid (HB2.out.trans (hb8.mono HB2.out.size))
    have HG8 := Lib.hid ((hb8.block _ hs2).trans HG2.out)
    have hs8 : w2.heap.size ≤ w8.heap.size := hb8.size
    have HCA := Lib.hid (jcaught_any w2.heap.size l dn w8 HRR.out hl hD)
    clear hb8 hg8 hst HRD2 HB2 HG2
    go_wp2_with fail
    refine HCA.out.mono ?_
    rintro e w9 ⟨hb9, cs, v, E, A, rfl, hrep, hres⟩
    obtain ⟨ya, yc, ya', yc', _, _, rfl, -⟩ := hrep.out.parts
    unfold strV at *
    have HRES := hres
    have HREP := hrep
    have HB9 := Lib.hid (show Below w.heap.size w w9 from ⟨hb9.out.os.trans HB8.out.os, hb9.out.tape.trans HB8.out.tape, hb9.out.output.trans HB8.out.output, Nat.le_trans HB8.out.size hb9.out.size, fun k hk => (hb9.out.block k (by have := HB8.out.size; omega) (by omega)).trans (HB8.out.block k hk)⟩)
    have HG9 := Lib.hid ((hb9.out.block _ (by omega) (by omega)).trans HG8.out)
    clear hb9 hrep hres HCA HB8 HG8 HRR
    go_upto_region 10 with (fail)
    have hka : Below w9.heap.size w9 ((w9.alloc (.cells #[.int .i64 v.kind, .bool v.yes, .string ⟨v.text.toArray⟩, .slice ya v.list.length yc, .slice ya' v.mem.length yc'] 28)).alloc (.cells #[.int .i64 E, .int .i64 A] 63)) := ((Below.refl _ _).alloc (Nat.le_refl _) _).alloc (by simp) _
    have hkv : ((w9.alloc (.cells #[.int .i64 v.kind, .bool v.yes, .string ⟨v.text.toArray⟩, .slice ya v.list.length yc, .slice ya' v.mem.length yc'] 28)).alloc (.cells #[.int .i64 E, .int .i64 A] 63)).heap[w9.heap.size]? = some (.cells #[.int .i64 v.kind, .bool v.yes, .string ⟨v.text.toArray⟩, .slice ya v.list.length yc, .slice ya' v.mem.length yc'] 28 (0, 0)) := ((World.grownBy_alloc (w9.alloc _) _ none).block _ (by simp) (by simp)).trans (heap_alloc_new w9 _)
    have hkf : ((w9.alloc (.cells #[.int .i64 v.kind, .bool v.yes, .string ⟨v.text.toArray⟩, .slice ya v.list.length yc, .slice ya' v.mem.length yc'] 28)).alloc (.cells #[.int .i64 E, .int .i64 A] 63)).heap[w9.heap.size + 1]? = some (.cells #[.int .i64 E, .int .i64 A] 63 (0, 0)) := by
      rw [show w9.heap.size + 1 = (w9.alloc (.cells #[.int .i64 v.kind, .bool v.yes, .string ⟨v.text.toArray⟩, .slice ya v.list.length yc, .slice ya' v.mem.length yc'] 28)).heap.size by simp]
      exact heap_alloc_new _ _
    have hgr9 : w.heap.size < w9.heap.size := (Array.getElem?_eq_some_iff.1 HG9.out).1
    generalize (w9.alloc _).alloc _ = wA at *
    have HVB := Lib.hid hkv
    have HFB := Lib.hid hkf
    have HGA := Lib.hid ((hka.block _ hgr9).trans HG9.out)
    have HBA := Lib.hid (HB9.out.trans (hka.mono HB9.out.size))
    have HPA := Lib.hid (HREP.out.under hka)
    clear hka hkv hkf
    refine wp_frame_gen fun a0 hs0 hd0 hz => ?_
    have hs0 : a0.tmps.size = 48 := hs0
    have hd0 : a0.defers = [] := hd0
    have z4 : a0.tmps.getD 4 undef = .pointer (some ⟨w.heap.size, 0, none⟩) := hz 4
    have z9 : a0.tmps.getD 9 undef = .pointer (some ⟨w9.heap.size, 0, none⟩) := hz 9
    have z10 : a0.tmps.getD 10 undef = .pointer (some ⟨w9.heap.size + 1, 0, none⟩) := hz 10
    clear hz
    refine wp_region_inv (by kernel_rfl) (by kernel_rfl) (PJ w.heap.size w9.heap.size (w9.heap.size + 1) [.int .i64 v.kind, .bool v.yes, .string ⟨v.text.toArray⟩, .slice ya v.list.length yc, .slice ya' v.mem.length yc'] E A wA a0) ?_ ?_ ?_
    · exact ⟨Fr.refl _ _, (fun e => by cases e), (fun e => by cases e), (fun e => by cases e), (fun e => by cases e), (fun e => by cases e), (fun e => by cases e), (fun e => by cases e), HGA.out, fun _ _ => rfl, rfl, rfl, rfl, Nat.le_refl _⟩
    · rintro b a' w' hJ i op ho hbi hdep
      have t4 : a'.tmps.getD 4 undef = .pointer (some ⟨w.heap.size, 0, none⟩) := (hJ.fr.same 4 (by decide)).trans z4
      have t9 : a'.tmps.getD 9 undef = .pointer (some ⟨w9.heap.size, 0, none⟩) := (hJ.fr.same 9 (by decide)).trans z9
      have t10 : a'.tmps.getD 10 undef = .pointer (some ⟨w9.heap.size + 1, 0, none⟩) := (hJ.fr.same 10 (by decide)).trans z10
      rcases i with _ | _ | _ | _ | _ | _ | _ | _ | i
      · cases ho
        have v0 : w'.cell? ⟨w9.heap.size, 0, none⟩ = some (.int .i64 v.kind) := by rw [Lib.cell_of_heap ((hJ.ot _ (by omega)).trans HVB.out)]; rfl
        have v1 : w'.cell? ⟨w9.heap.size, 1, none⟩ = some (.bool v.yes) := by rw [Lib.cell_of_heap ((hJ.ot _ (by omega)).trans HVB.out)]; rfl
        have v2 : w'.cell? ⟨w9.heap.size, 2, none⟩ = some (.string ⟨v.text.toArray⟩) := by rw [Lib.cell_of_heap ((hJ.ot _ (by omega)).trans HVB.out)]; rfl
        have v3 : w'.cell? ⟨w9.heap.size, 3, none⟩ = some (.slice ya v.list.length yc) := by rw [Lib.cell_of_heap ((hJ.ot _ (by omega)).trans HVB.out)]; rfl
        have v4 : w'.cell? ⟨w9.heap.size, 4, none⟩ = some (.slice ya' v.mem.length yc') := by rw [Lib.cell_of_heap ((hJ.ot _ (by omega)).trans HVB.out)]; rfl
        refine op_step rfl rfl (op_value (v := .agg [.int .i64 v.kind, .bool v.yes, .string ⟨v.text.toArray⟩, .slice ya v.list.length yc, .slice ya' v.mem.length yc'].toArray) (w' := w') ?_ ⟨hJ.fr.put (by decide) _, (fun _ => put_at _ _ _ (by rw [hJ.fr.size, hs0]; decide)), (fun e => (put_other _ _ _ _ (by decide)).trans (hJ.b1 (by simpa using e))), (fun e => (put_other _ _ _ _ (by decide)).trans (hJ.b2 (by simpa using e))), (fun e => (put_other _ _ _ _ (by decide)).trans (hJ.b3 (by simpa using e))), (fun e => (put_other _ _ _ _ (by decide)).trans (hJ.b4 (by simpa using e))), (fun e => (put_other _ _ _ _ (by decide)).trans (hJ.b6 (by simpa using e))), (fun e => (put_other _ _ _ _ (by decide)).trans (hJ.b7 (by simpa using e))), by simpa using hJ.res, hJ.ot, hJ.os, hJ.tape, hJ.output, hJ.size⟩)
        simp only [execOp, Act.eval, t9]
        go_simp
      · cases ho
        refine op_step rfl rfl (op_value (v := .pointer (some ⟨(w9.heap.size + 1), 0, none⟩)) (w' := w') ?_ ⟨hJ.fr.put (by decide) _, (fun e => (put_other _ _ _ _ (by decide)).trans (hJ.b0 (by simpa using e))), (fun _ => put_at _ _ _ (by rw [hJ.fr.size, hs0]; decide)), (fun e => (put_other _ _ _ _ (by decide)).trans (hJ.b2 (by simpa using e))), (fun e => (put_other _ _ _ _ (by decide)).trans (hJ.b3 (by simpa using e))), (fun e => (put_other _ _ _ _ (by decide)).trans (hJ.b4 (by simpa using e))), (fun e => (put_other _ _ _ _ (by decide)).trans (hJ.b6 (by simpa using e))), (fun e => (put_other _ _ _ _ (by decide)).trans (hJ.b7 (by simpa using e))), by simpa using hJ.res, hJ.ot, hJ.os, hJ.tape, hJ.output, hJ.size⟩)
        simp only [execOp, Act.eval, t10]
        go_simp
      · cases ho
        have e1 := hJ.b1 (dep_of hdep 1 (by kernel_rfl))
        have c0 : w'.cell? ⟨w9.heap.size + 1, 0, none⟩ = some (.int .i64 E) := by rw [Lib.cell_of_heap ((hJ.ot _ (by omega)).trans HFB.out)]; rfl
        refine op_step rfl rfl (op_value (v := .int .i64 E) (w' := w') ?_ ⟨hJ.fr.put (by decide) _, (fun e => (put_other _ _ _ _ (by decide)).trans (hJ.b0 (by simpa using e))), (fun e => (put_other _ _ _ _ (by decide)).trans (hJ.b1 (by simpa using e))), (fun _ => put_at _ _ _ (by rw [hJ.fr.size, hs0]; decide)), (fun e => (put_other _ _ _ _ (by decide)).trans (hJ.b3 (by simpa using e))), (fun e => (put_other _ _ _ _ (by decide)).trans (hJ.b4 (by simpa using e))), (fun e => (put_other _ _ _ _ (by decide)).trans (hJ.b6 (by simpa using e))), (fun e => (put_other _ _ _ _ (by decide)).trans (hJ.b7 (by simpa using e))), by simpa using hJ.res, hJ.ot, hJ.os, hJ.tape, hJ.output, hJ.size⟩)
        simp only [execOp, Act.eval, e1]
        go_simp
      · cases ho
        refine op_step rfl rfl (op_value (v := .pointer (some ⟨(w9.heap.size + 1), 1, none⟩)) (w' := w') ?_ ⟨hJ.fr.put (by decide) _, (fun e => (put_other _ _ _ _ (by decide)).trans (hJ.b0 (by simpa using e))), (fun e => (put_other _ _ _ _ (by decide)).trans (hJ.b1 (by simpa using e))), (fun e => (put_other _ _ _ _ (by decide)).trans (hJ.b2 (by simpa using e))), (fun _ => put_at _ _ _ (by rw [hJ.fr.size, hs0]; decide)), (fun e => (put_other _ _ _ _ (by decide)).trans (hJ.b4 (by simpa using e))), (fun e => (put_other _ _ _ _ (by decide)).trans (hJ.b6 (by simpa using e))), (fun e => (put_other _ _ _ _ (by decide)).trans (hJ.b7 (by simpa using e))), by simpa using hJ.res, hJ.ot, hJ.os, hJ.tape, hJ.output, hJ.size⟩)
        simp only [execOp, Act.eval, t10]
        go_simp
      · cases ho
        have e1 := hJ.b3 (dep_of hdep 3 (by kernel_rfl))
        have c0 : w'.cell? ⟨w9.heap.size + 1, 1, none⟩ = some (.int .i64 A) := by rw [Lib.cell_of_heap ((hJ.ot _ (by omega)).trans HFB.out)]; rfl
        refine op_step rfl rfl (op_value (v := .int .i64 A) (w' := w') ?_ ⟨hJ.fr.put (by decide) _, (fun e => (put_other _ _ _ _ (by decide)).trans (hJ.b0 (by simpa using e))), (fun e => (put_other _ _ _ _ (by decide)).trans (hJ.b1 (by simpa using e))), (fun e => (put_other _ _ _ _ (by decide)).trans (hJ.b2 (by simpa using e))), (fun e => (put_other _ _ _ _ (by decide)).trans (hJ.b3 (by simpa using e))), (fun _ => put_at _ _ _ (by rw [hJ.fr.size, hs0]; decide)), (fun e => (put_other _ _ _ _ (by decide)).trans (hJ.b6 (by simpa using e))), (fun e => (put_other _ _ _ _ (by decide)).trans (hJ.b7 (by simpa using e))), by simpa using hJ.res, hJ.ot, hJ.os, hJ.tape, hJ.output, hJ.size⟩)
        simp only [execOp, Act.eval, e1]
        go_simp
      · cases ho
        have e0 := hJ.b0 (dep_of hdep 0 (by kernel_rfl))
        have hbf : b 5 = false := hbi
        have hres := hJ.res
        rw [if_neg (by simp [hbf])] at hres
        refine op_step rfl rfl (op_store _ (.tmp 4) (.tmp 43) rfl rfl w.heap.size 0 [.int .i64 v.kind, .bool v.yes, .string ⟨v.text.toArray⟩, .slice ya v.list.length yc, .slice ya' v.mem.length yc'] t4 e0 _ _ hres (by kernel_rfl) (by simp) (by simp [Value.oneCell']) ⟨hJ.fr, (fun e => hJ.b0 (by simpa using e)), (fun e => hJ.b1 (by simpa using e)), (fun e => hJ.b2 (by simpa using e)), (fun e => hJ.b3 (by simpa using e)), (fun e => hJ.b4 (by simpa using e)), (fun e => hJ.b6 (by simpa using e)), (fun e => hJ.b7 (by simpa using e)), ?_, ?_, hJ.os, hJ.tape, hJ.output, by simpa [World.setRow] using hJ.size⟩)
        · simpa using setRow_heap w' w.heap.size _ _ _ _ hres
        · intro k hk
          exact (setRow_other w' w.heap.size k _ hk).trans (hJ.ot k hk)
      · cases ho
        have e1 := hJ.b2 (dep_of hdep 2 (by kernel_rfl))
        refine op_step rfl rfl (op_value (v := .int .i64 E) (w' := w') ?_ ⟨hJ.fr.put (by decide) _, (fun e => (put_other _ _ _ _ (by decide)).trans (hJ.b0 (by simpa using e))), (fun e => (put_other _ _ _ _ (by decide)).trans (hJ.b1 (by simpa using e))), (fun e => (put_other _ _ _ _ (by decide)).trans (hJ.b2 (by simpa using e))), (fun e => (put_other _ _ _ _ (by decide)).trans (hJ.b3 (by simpa using e))), (fun e => (put_other _ _ _ _ (by decide)).trans (hJ.b4 (by simpa using e))), (fun _ => put_at _ _ _ (by rw [hJ.fr.size, hs0]; decide)), (fun e => (put_other _ _ _ _ (by decide)).trans (hJ.b7 (by simpa using e))), by simpa using hJ.res, hJ.ot, hJ.os, hJ.tape, hJ.output, hJ.size⟩)
        simp only [execOp, Act.eval, e1]
        go_simp
      · cases ho
        have e1 := hJ.b4 (dep_of hdep 4 (by kernel_rfl))
        refine op_step rfl rfl (op_value (v := .int .i64 A) (w' := w') ?_ ⟨hJ.fr.put (by decide) _, (fun e => (put_other _ _ _ _ (by decide)).trans (hJ.b0 (by simpa using e))), (fun e => (put_other _ _ _ _ (by decide)).trans (hJ.b1 (by simpa using e))), (fun e => (put_other _ _ _ _ (by decide)).trans (hJ.b2 (by simpa using e))), (fun e => (put_other _ _ _ _ (by decide)).trans (hJ.b3 (by simpa using e))), (fun e => (put_other _ _ _ _ (by decide)).trans (hJ.b4 (by simpa using e))), (fun e => (put_other _ _ _ _ (by decide)).trans (hJ.b6 (by simpa using e))), (fun _ => put_at _ _ _ (by rw [hJ.fr.size, hs0]; decide)), by simpa using hJ.res, hJ.ot, hJ.os, hJ.tape, hJ.output, hJ.size⟩)
        simp only [execOp, Act.eval, e1]
        go_simp
      · cases ho
    · rintro b a' w' hJ hdone
      have hres := hJ.res
      rw [if_pos (hdone 5 (by decide))] at hres
      have t4 : a'.tmps.getD 4 undef = .pointer (some ⟨w.heap.size, 0, none⟩) := (hJ.fr.same 4 (by decide)).trans z4
      have t5 := hJ.b6 (hdone 6 (by decide))
      have t6 := hJ.b7 (hdone 7 (by decide))
      have hdf := hJ.fr.defers.trans hd0
      have HPZ : Hid (Rep (w.heap.size ≤ ·) w' [.int .i64 v.kind, .bool v.yes, .string ⟨v.text.toArray⟩, .slice ya v.list.length yc, .slice ya' v.mem.length yc'] v) := Lib.hid ((HPA.out.keep fun k hk _ => hJ.ot k (by omega)).mono fun k hk => by omega)
      have HBZ : Hid (Below w.heap.size w w') := Lib.hid ⟨hJ.os.trans HBA.out.os, hJ.tape.trans HBA.out.tape, hJ.output.trans HBA.out.output, Nat.le_trans HBA.out.size hJ.size, fun k hk => (hJ.ot k (by omega)).trans (HBA.out.block k hk)⟩
      have e0 := Lib.cell_of_heap hres 0
      have e1 := Lib.cell_of_heap hres 1
      have e2 := Lib.cell_of_heap hres 2
      have e3 := Lib.cell_of_heap hres 3
      have e4 := Lib.cell_of_heap hres 4
      simp only [List.getElem?_toArray] at e0 e1 e2 e3 e4
      clear hres hJ HVB HFB HGA HBA HPA hdone
      go_wp2_with fail
      have hp : parseL l ((dn : Nat) : Int) = (v, E) := by
        rcases HRES.out with ⟨h1, h2⟩ | ⟨h1, h2⟩
        · rw [HE.out, h1, h2]
        · rw [HE.out, h1, h2]
      have t4' : a'.tmps[4]?.getD undef = .pointer (some ⟨w.heap.size, 0, none⟩) := by simpa [Array.getD_eq_getD_getElem?] using t4
      have t5' : a'.tmps[5]?.getD undef = .int .i64 E := by simpa [Array.getD_eq_getD_getElem?] using t5
      have t6' : a'.tmps[6]?.getD undef = .int .i64 A := by simpa [Array.getD_eq_getD_getElem?] using t6
      refine bodyPost_ret (v := .tuple #[.agg #[.int .i64 v.kind, .bool v.yes, .string ⟨v.text.toArray⟩, .slice ya v.list.length yc, .slice ya' v.mem.length yc'], .int .i64 E, .int .i64 A]) (by simp [results, Try.results11, go_sem, t4', t5', t6', e0, e1, e2, e3, e4]) hdf ?_
      exact ⟨HBZ.out, _, ⟨A, by rw [hp]⟩, by rw [hp]; exact HPZ.out⟩
end Go.Proofs.Ytfcokdkbjajohaa
/- json: bare. -/
set_option linter.unusedVariables false
namespace Go.Proofs.Ytfcokdkbjajohaa
open Go.RowKit

/-- What a value of a kind mustn't hold. -/
def bareB (k : Int) (y : Bool) (t : List UInt8) (n m : Nat) : Bool := (k == 2 || !y) && (k == 3 || k == 4 || t == []) && (k == 5 || n == 0) && (k == 6 || m == 0)
theorem zero_nat (m : Nat) : (((m : Nat) : Int) == 0) = (m == 0) := by
  rw [Bool.eq_iff_iff]
  simp
set_option maxRecDepth 100000 in
set_option maxHeartbeats 32000000 in
theorem jbare_any (k : Int) (y : Bool) (t : List UInt8) (a a' : Option Addr) (n m c c' : Nat) (w : World) :
    Calls Try.prog 13 #[.agg #[.int .i64 k, .bool y, .string ⟨t.toArray⟩, .slice a n c, .slice a' m c']] w fun e w' => e = .returned (.bool (bareB k y t n m)) ∧ Below w.heap.size w w' := by
  have hkk : (k = 2) ∨ (k = 3) ∨ (k = 4) ∨ (k = 5) ∨ (k = 6) ∨ ((k == 2) = false ∧ (k == 3) = false ∧ (k == 4) = false ∧ (k == 5) = false ∧ (k == 6) = false) := by
    simp only [beq_eq_false_iff_ne, ne_eq]
    omega
  have hB : Hid (∀ ob, Below w.heap.size w (w.alloc ob)) := Lib.hid fun ob => (Below.refl _ _).alloc (Nat.le_refl _) _
  go_enter Try.func13, Try.ntmps13
  go_wp2_with fail
  all_goals (refine bodyPost_ret (results_tmp rfl _ _ _) rfl ?_; refine ⟨?_, hB.out _⟩)
  all_goals clear hB hkk
  all_goals simp_all [bareB]
  all_goals rw [zero_nat]
end Go.Proofs.Ytfcokdkbjajohaa
/- json: numeric. -/
set_option linter.unusedVariables false
namespace Go.Proofs.Ytfcokdkbjajohaa
open Go.RowKit

theorem dig_bad {r : List UInt8} {e : Int} (h : digitsL r = .bad e) : e = 31 := by
  unfold digitsL at h
  split at h
  · cases h
  · injection h with h; exact h.symm
theorem bind_bad_iff {α β : Type} {p : PR α} {f : α → List UInt8 → PR β} {e : Int} (h : p.bind f = .bad e) : p = .bad e ∨ ∃ x r, p = .ok x r ∧ f x r = .bad e := by
  cases p with
  | ok x r => exact .inr ⟨x, r, rfl, h⟩
  | bad e' => exact .inl (by injection h with h; rw [h])
theorem tail_bad {r : List UInt8} {e : Int} (h : numTail r = .bad e) : e = 31 := by
  unfold numTail at h
  split at h
  · exact dig_bad h
  · cases h
theorem frac_bad {r : List UInt8} {e : Int} (h : numFrac r = .bad e) : e = 31 := by
  unfold numFrac at h
  split at h
  · rcases bind_bad_iff h with h | ⟨x, q, _, h⟩
    · exact dig_bad h
    · exact tail_bad h
  · exact tail_bad h
theorem num_bad {r : List UInt8} {e : Int} (h : numberL r = .bad e) : e = 31 := by
  unfold numberL at h
  rcases bind_bad_iff h with h | ⟨x, q, _, h⟩
  · unfold numR at h
    split at h
    · exact frac_bad h
    · rcases bind_bad_iff h with h | ⟨x, q, _, h⟩
      · exact dig_bad h
      · exact frac_bad h
  · cases h
set_option maxRecDepth 100000 in
set_option maxHeartbeats 16000000 in
theorem jnumeric_any (s : List UInt8) (w : World) (hl : s.length ≤ 1000000) :
    Calls Try.prog 14 #[.string ⟨s.toArray⟩] w fun e w' => e = .returned (.bool (numericB s)) ∧ Below w.heap.size w w' := by
  have hmf : ∀ (fn : Fn) (first cap : Array Value) (w : World), (Instr.makeFunc fn first cap).run Try.prog w = .ok (.func fn first cap) w := fun _ _ _ _ => rfl
  go_enter Try.func14, Try.ntmps14
  go_upto_region 2 with (fail)
  have hb1 : Below w.heap.size w (w.alloc (.cells #[.string ⟨s.toArray⟩, .int .i64 0, .int .i64 0, .int .i64 0] 61)) := (Below.refl _ _).alloc (Nat.le_refl _) _
  have hg1 := heap_alloc_new w (.cells #[.string ⟨s.toArray⟩, .int .i64 0, .int .i64 0, .int .i64 0] 61)
  generalize w.alloc _ = w1 at *
  have HR1 : Hid (Rdr w1 w.heap.size s 0 0 0) := Lib.hid ⟨hg1, Nat.zero_le _⟩
  have HB1 := Lib.hid hb1
  have HC := Lib.hid (jcaughtn_any w.heap.size s 0 w1 HR1.out hl (by decide))
  clear hb1 hg1
  go_wp2_with fail
  refine HC.out.mono ?_
  rintro e w4 ⟨hb4, k, t, E, A, rfl, hres⟩
  have HB4 : Hid (Below w.heap.size w w4) := Lib.hid ⟨hb4.out.os.trans HB1.out.os, hb4.out.tape.trans HB1.out.tape, hb4.out.output.trans HB1.out.output, Nat.le_trans HB1.out.size hb4.out.size, fun k hk => (hb4.out.block k (by have := HB1.out.size; omega) (by omega)).trans (HB1.out.block k hk)⟩
  clear hb4 HC
  rcases hres.out with ⟨r, h1, rfl⟩ | ⟨h1, rfl⟩
  · have HE : Hid (numericB s = (t == s)) := Lib.hid (by unfold numericB; rw [h1])
    clear h1 hres
    have HBA : Hid (∀ a b, Below w.heap.size w ((w4.alloc a).alloc b)) := Lib.hid fun a b => (HB4.out.alloc HB4.out.size _).alloc (by have := HB4.out.size; simp; omega) _
    go_wp2_with fail
    refine bodyPost_ret (results_tmp rfl _ _ _) rfl ?_
    exact ⟨by rw [HE.out]; rfl, HBA.out _ _⟩
  · have hE := num_bad h1
    have HE : Hid (numericB s = false) := Lib.hid (by unfold numericB; rw [h1])
    have q : (E == 0) = false := by rw [hE]; rfl
    clear h1 hres hE
    have HBA : Hid (∀ a b, Below w.heap.size w ((w4.alloc a).alloc b)) := Lib.hid fun a b => (HB4.out.alloc HB4.out.size _).alloc (by have := HB4.out.size; simp; omega) _
    go_wp2_with fail
    refine bodyPost_ret (results_tmp rfl _ _ _) rfl ?_
    exact ⟨by rw [HE.out]; rfl, HBA.out _ _⟩
end Go.Proofs.Ytfcokdkbjajohaa
/- strings.Builder, written by this program's calls: copyCheck, WriteByte, WriteString and String of a builder that the call itself has made. -/
namespace Go.Proofs.Ytfcokdkbjajohaa
open Go.RowKit

/-- A strings.Builder of the call's own, in block b, that holds the bytes l. -/
def Bld (b : Nat) (l : List UInt8) (w : World) : Prop := Lib.IsBuilderF 52 5 b b (Lib.byteCells l) w

theorem Bld.fresh (w : World) : Bld w.heap.size [] (w.alloc (.cells #[.pointer none, .slice none 0 0] 52 (0, 0))) :=
  .inl ⟨Nat.le_refl _, .slice none 0 0, heap_alloc_new w _, World.ownsRowF_nil _ _ _ _, by simp [Value.ownBlock]⟩

theorem Bld.alloc {b : Nat} {l : List UInt8} {w : World} (h : Bld b l w) (o : Obj) : Bld b l (w.alloc o) := Lib.IsBuilderF.alloc h o
theorem Bld.lt {b : Nat} {l : List UInt8} {w : World} (h : Bld b l w) : b < w.heap.size := h.elim (·.lt) (·.lt)

theorem sizeB : (Try.prog.info? 52).map (·.size) = some 2 := by kernel_rfl
theorem liesB : liesAt Try.prog Try.prog.depth 52 (2 / Try.prog.cellsOf 52) 0 52 1 = true := by kernel_rfl
theorem infoByte : (Try.prog.info? 5).map (fun i => (i.zero, i.size, i.bytes)) = some (some (.int .u8 0), 1, 1) := by kernel_rfl

set_option maxHeartbeats 1000000 in
set_option maxRecDepth 100000 in
theorem copyCheck_used (b : Nat) (w : World) (h0 : w.cell? ⟨b, 0, none⟩ = some (.pointer (some ⟨b, 0, none⟩))) :
    Calls Try.prog 50 #[.pointer (some ⟨b, 0, none⟩)] w fun e w' => e = .returned (.tuple #[]) ∧ w' = w := by
  obtain ⟨j, hj, _⟩ := Option.map_eq_some_iff.1 sizeB
  go_enter Try.func50, Try.ntmps50
  go_wp2
  rw [Lib.run_neq_ptr_same w _ Try.underlying50 hj]
  go_wp2
  go_end0
  exact ⟨rfl, rfl⟩

set_option maxHeartbeats 1000000 in
set_option maxRecDepth 100000 in
theorem copyCheck_fresh (b : Nat) (w : World) (h0 : w.cell? ⟨b, 0, none⟩ = some (.pointer none)) (hsh : w.shape? b = some (52, 2)) (hfz : w.frozen? ⟨b, 0, none⟩ = false) :
    Calls Try.prog 50 #[.pointer (some ⟨b, 0, none⟩)] w fun e w' => e = .returned (.tuple #[]) ∧ w' = w.setCell ⟨b, 0, none⟩ (.pointer (some ⟨b, 0, none⟩)) := by
  obtain ⟨j, hj, hjs⟩ := Option.map_eq_some_iff.1 sizeB
  go_enter Try.func50, Try.ntmps50
  go_wp2
  rw [Lib.run_to_unsafe w ⟨b, 0, none⟩ Try.underlying50 Try.underlying111 hj (by rw [hjs]; decide) hsh (Nat.zero_lt_succ 1)]
  simp only [Result.andThen]
  rw [Oper.upon_value]
  go_wp2
  rw [run_callFunc_extern Try.func75 (by kernel_rfl) (by kernel_rfl) (by kernel_rfl) (e := Extern.AbiNoEscape.same) (by kernel_rfl)]
  rw [Lib.run_noEscape]
  simp only [Result.andThen]
  rw [Oper.upon_value]
  go_wp2
  rw [Lib.run_from_unsafe w ⟨b, 0, none⟩ Try.underlying111 Try.underlying50 hj hsh liesB]
  simp only [Result.andThen]
  rw [Oper.upon_value]
  go_wp2
  go_end0
  exact ⟨rfl, rfl⟩

theorem copyCheck_any (b : Nat) (l : List Value) (w : World) (h : Lib.IsBuilderF 52 5 b b l w) :
    Calls Try.prog 50 #[.pointer (some ⟨b, 0, none⟩)] w fun e w' => e = .returned (.tuple #[]) ∧ (Lib.BuilderAtF 52 5 b b (.pointer (some ⟨b, 0, none⟩)) l w' ∧ Below b w w' ∧ Lib.OthersKept 5 (some b) w w') := by
  rcases h with h | h
  · refine (copyCheck_fresh b w h.cell0 h.shape h.frozen0).mono ?_
    rintro e w' ⟨rfl, rfl⟩
    exact ⟨rfl, h.used _, (Below.refl b w).setCell (p := ⟨b, 0, none⟩) h.1 _, (Lib.OthersKept.refl _ _ w).setCell ⟨b, 0, none⟩ rfl _⟩
  · refine (copyCheck_used b w h.cell0).mono ?_
    rintro e w' ⟨rfl, rfl⟩
    exact ⟨rfl, h, Below.refl b _, Lib.OthersKept.refl _ _ _⟩

theorem neB : (52 : Nat) ≠ 5 := by decide

set_option maxHeartbeats 2000000 in
set_option maxRecDepth 100000 in
/-- WriteByte puts one byte behind what the builder holds. -/
theorem WriteByte_any (b : Nat) (l : List UInt8) (c : Int) (x : UInt8) (hx : c = x.toNat) (w : World) (h : Bld b l w) (hlen : l.length + 1 ≤ 140737488355328) :
    Calls Try.prog 34 #[.pointer (some ⟨b, 0, none⟩), .int .u8 c] w fun e w' => e = .returned .nilIface ∧ (Bld b (l ++ [x]) w' ∧ Below b w w' ∧ Lib.OthersKept 5 (some b) w w') := by
  obtain ⟨i0, hi, hz0, hz1, hz2⟩ := info_parts infoByte
  have hbw := h.lt
  have hll : (Lib.byteCells l).length = l.length := by simp [Lib.byteCells]
  have e2 : Lib.byteCells (l ++ [x]) = Lib.byteCells l ++ [.int .u8 c] := by simp [Lib.byteCells, hx]
  have E2 := Lib.hid e2
  have HX := Lib.hid hx
  have HL := Lib.hid hll
  clear e2 hx hll
  go_enter Try.func34, Try.ntmps34
  go_wp2_with (go_at_call 50; refine (copyCheck_any b _ _ h).mono ?_)
  rintro e w1 ⟨rfl, h1, hb1, hk1⟩
  obtain ⟨hB, v, hbk, hown, hne⟩ := h1
  have c0 : w1.cell? ⟨b, 0, none⟩ = some (.pointer (some ⟨b, 0, none⟩)) := by rw [Lib.cell_of_heap hbk]; rfl
  have c1 : w1.cell? ⟨b, 1, none⟩ = some v := by rw [Lib.cell_of_heap hbk]; rfl
  go_wp2_with (at_builtin; refine wpList_append_ownF _ rfl _ _ 43 rfl b 5 i0 (.int .u8 0) 1 1 Try.underlying43 hi hz0 hz1 hz2 rfl (by decide) _ _ _ rfl (hown.alloc _) ⟨w1.heap.size, 0, none⟩ 1 1 [.int .u8 c] rfl rfl ?c1 ?c2 ?c3 ?c4 ?c5 ?_)
  case c1 =>
    intro j u hj
    match j, hj with
    | 0, hj => simp at hj; subst hj; simp [Addr.add]
  case c2 => intro u hu; simp at hu; subst hu; rfl
  case c3 => rw [HL.out]; unfold maxLen; omega
  case c4 => rw [HL.out]; omega
  case c5 => have := hb1.size; simp; omega
  intro v' w2 hown' hgrow _
  have hlt : b < w1.heap.size := Nat.lt_of_lt_of_le hbw hb1.size
  have hb2 : w2.heap[b]? = some (.cells #[.pointer (some ⟨b, 0, none⟩), v] 52 (0, 0)) := by
    rw [hgrow.block b (by simp; omega) (fun e => hne e.symm), Lib.alloc_old w1 _ b hlt]
    exact hbk
  have d0 : w2.cell? ⟨b, 0, none⟩ = some (.pointer (some ⟨b, 0, none⟩)) := by rw [Lib.cell_of_heap hb2]; rfl
  have d1 : w2.cell? ⟨b, 1, none⟩ = some v := by rw [Lib.cell_of_heap hb2]; rfl
  have f1 : w2.frozen? ⟨b, 1, none⟩ = false := Lib.frozen_of_heap hb2 1
  obtain ⟨g, cap, rfl⟩ : ∃ g cap, v' = .slice (some ⟨g, 0, none⟩) ((Lib.byteCells l).length + 1) cap := by
    rcases hown'.2 with ⟨_, h0⟩ | ⟨g, cap, cur, fz, hv, _⟩
    · omega
    · exact ⟨g, cap, hv⟩
  go_wp2
  go_ret
  refine ⟨rfl, ?_, ?_, ((hk1.alloc _).grown hgrow (Lib.ownsRowF_kind (hown.alloc _))).setCell ⟨b, 1, none⟩ rfl _⟩
  · unfold Bld
    rw [E2.out]
    exact .inr (Lib.BuilderAtF.put (T := 52) (e := 5) hB hb2 (bs' := Lib.byteCells l ++ [.int .u8 c]) (by simpa using hown') neB)
  · exact ((hb1.alloc (by have := hb1.size; omega) _).grown hgrow (by have := hb1.size; simp; omega) (fun k hk => (hown.lt k hk).1)).setCell (p := ⟨b, 1, none⟩) hB _


/-- String hands out what the builder holds. -/
theorem BString_any (b : Nat) (l : List UInt8) (w : World) (h : Bld b l w) :
    Calls Try.prog 20 #[.pointer (some ⟨b, 0, none⟩)] w fun e w' => e = .returned (.string ⟨l.toArray⟩) ∧ (Bld b l w' ∧ Below b w w' ∧ Lib.OthersKept 5 (some b) w w') :=
  Try.Builder_String_any_k b b l w h (Nat.le_of_lt h.lt)

end Go.Proofs.Ytfcokdkbjajohaa
/- strings.Builder's WriteString, with no word on what was refused. -/
set_option linter.unusedVariables false
namespace Go.Proofs.Ytfcokdkbjajohaa
open Go.RowKit

theorem Bld.below {b : Nat} {l : List UInt8} {w w' : World} (h : Bld b l w) (hb : Below w.heap.size w w') : Bld b l w' := by
  have go : ∀ p, Lib.BuilderAtF 52 5 b b p (Lib.byteCells l) w → Lib.BuilderAtF 52 5 b b p (Lib.byteCells l) w' := by
    intro p h
    have hlt := h.lt
    obtain ⟨hB, v, hbk, hown, hne⟩ := h
    exact ⟨hB, v, (hb.block b hlt).trans hbk, hown.kept (row := none) ⟨hb.os, hb.tape, hb.output, hb.size, fun k hk _ => hb.block k hk⟩ (by cases hv : v.ownBlock <;> simp), hne⟩
  exact h.elim (fun x => .inl (go _ x)) (fun x => .inr (go _ x))

set_option maxHeartbeats 2000000 in
set_option maxRecDepth 100000 in
/-- WriteString puts a string's bytes behind what the builder holds. -/
theorem WriteString_any (b : Nat) (l : List UInt8) (s : ByteArray) (w : World) (h : Bld b l w) (hlen : l.length + s.size ≤ 140737488355328) :
    Calls Try.prog 31 #[.pointer (some ⟨b, 0, none⟩), .string s] w fun e w' => e = .returned (.tuple #[.int .i64 s.size, .nilIface]) ∧ (Bld b (l ++ s.data.toList) w' ∧ Below b w w') := by
  obtain ⟨i0, hi, hz0, hz1, hz2⟩ := info_parts infoByte
  have hbw := h.lt
  have hll : (Lib.byteCells l).length = l.length := by simp [Lib.byteCells]
  have e2 : Lib.byteCells (l ++ s.data.toList) = Lib.byteCells l ++ Lib.strCells s := by simp [Lib.byteCells, Lib.strCells]
  have E2 := Lib.hid e2
  have HL := Lib.hid hll
  clear e2 hll
  go_enter Try.func31, Try.ntmps31
  go_wp2_with (go_at_call 50; refine (copyCheck_any b _ _ h).mono ?_)
  rintro e w1 ⟨rfl, h1, hb1, hk1⟩
  obtain ⟨hB, v, hbk, hown, hne⟩ := h1
  have c0 : w1.cell? ⟨b, 0, none⟩ = some (.pointer (some ⟨b, 0, none⟩)) := by rw [Lib.cell_of_heap hbk]; rfl
  have c1 : w1.cell? ⟨b, 1, none⟩ = some v := by rw [Lib.cell_of_heap hbk]; rfl
  go_wp2_with (at_builtin; refine Lib.wpList_append_own_stringF _ rfl _ _ 43 9 rfl b 5 i0 Try.underlying43 Try.underlying9 hi hz0 hz1 hz2 _ _ _ rfl hown s rfl ?c3 ?c4 ?c5 ?_)
  case c3 => rw [HL.out]; unfold maxLen; omega
  case c4 => rw [HL.out]; omega
  case c5 => have := hb1.size; omega
  intro v' w2 hown' hgrow _
  have hlt : b < w1.heap.size := Nat.lt_of_lt_of_le hbw hb1.size
  have hb2 : w2.heap[b]? = some (.cells #[.pointer (some ⟨b, 0, none⟩), v] 52 (0, 0)) := by
    rw [hgrow.block b hlt (fun e => hne e.symm)]
    exact hbk
  have d0 : w2.cell? ⟨b, 0, none⟩ = some (.pointer (some ⟨b, 0, none⟩)) := by rw [Lib.cell_of_heap hb2]; rfl
  have d1 : w2.cell? ⟨b, 1, none⟩ = some v := by rw [Lib.cell_of_heap hb2]; rfl
  have f1 : w2.frozen? ⟨b, 1, none⟩ = false := Lib.frozen_of_heap hb2 1
  obtain ⟨ao, n', cap, rfl⟩ : ∃ ao n' cap, v' = .slice ao n' cap := by
    rcases hown'.2 with ⟨hv, _⟩ | ⟨g, cap, cur, fz, hv, _⟩
    · exact ⟨_, _, _, hv⟩
    · exact ⟨_, _, _, hv⟩
  go_wp2
  go_ret2
  refine ⟨rfl, ?_, ?_⟩
  · unfold Bld
    rw [E2.out]
    exact .inr (Lib.BuilderAtF.put (T := 52) (e := 5) hB hb2 (bs' := Lib.byteCells l ++ Lib.strCells s) (by simpa [Lib.strCells_length] using hown') neB)
  · exact (hb1.grown hgrow (by have := hb1.size; omega) (fun k hk => (hown.lt k hk).1)).setCell (p := ⟨b, 1, none⟩) hB _
end Go.Proofs.Ytfcokdkbjajohaa
/- A strings.Builder whose bytes no string shares yet: whatever is no such row of bytes stands. -/
set_option linter.unusedVariables false
namespace Go.Proofs.Ytfcokdkbjajohaa
open Go.RowKit

/-- A builder in block b that holds the bytes l. -/
def BldZ (b : Nat) (l : List UInt8) (w : World) : Prop :=
  ∃ p v, (p = Value.pointer none ∨ p = Value.pointer (some ⟨b, 0, none⟩)) ∧ w.heap[b]? = some (.cells #[p, v] 52 (0, 0)) ∧ w.ownsRow (b + 1) 5 1 v l.length (Lib.byteCells l)
/-- What a write leaves. -/
structure FrZ (b : Nat) (w w' : World) : Prop where
  os : w'.os = w.os
  tape : w'.tape = w.tape
  output : w'.output = w.output
  size : w.heap.size ≤ w'.heap.size
  low : ∀ k, k < b → w'.heap[k]? = w.heap[k]?
  block : ∀ k o, w.heap[k]? = some o → k ≠ b → (∀ c, o ≠ .cells c 5 (0, 0)) → w'.heap[k]? = some o
theorem FrZ.refl (b : Nat) (w : World) : FrZ b w w := ⟨rfl, rfl, rfl, Nat.le_refl _, fun _ _ => rfl, fun _ _ h _ _ => h⟩
theorem FrZ.trans {b : Nat} {w w' w'' : World} (h : FrZ b w w') (k : FrZ b w' w'') : FrZ b w w'' :=
  ⟨k.os.trans h.os, k.tape.trans h.tape, k.output.trans h.output, Nat.le_trans h.size k.size, fun i hi => (k.low i hi).trans (h.low i hi), fun i o ho hb hn => k.block i o (h.block i o ho hb hn) hb hn⟩
theorem FrZ.below {b : Nat} {w w' : World} (h : FrZ b w w') : Below b w w' := ⟨h.os, h.tape, h.output, h.size, h.low⟩
theorem FrZ.of_below {b : Nat} {w w' : World} (h : Below w.heap.size w w') (hb : b ≤ w.heap.size) : FrZ b w w' := ⟨h.os, h.tape, h.output, h.size, fun k hk => h.block k (by omega), fun k o ho _ _ => (h.block k (Array.getElem?_eq_some_iff.1 ho).1).trans ho⟩
theorem BldZ.lt {b : Nat} {l : List UInt8} {w : World} (h : BldZ b l w) : b < w.heap.size := by
  obtain ⟨p, v, hp, hbk, hown⟩ := h
  exact (Array.getElem?_eq_some_iff.1 hbk).1
theorem BldZ.fresh (w : World) : BldZ w.heap.size [] (w.alloc (.cells #[.pointer none, .slice none 0 0] 52 (0, 0))) :=
  ⟨_, _, .inl rfl, heap_alloc_new w _, rfl, .inl ⟨rfl, rfl⟩⟩
theorem BldZ.below {b : Nat} {l : List UInt8} {w w' : World} (h : BldZ b l w) (hb : Below w.heap.size w w') : BldZ b l w' := by
  obtain ⟨p, v, hp, hbk, hown⟩ := h
  exact ⟨p, v, hp, (hb.block b (Array.getElem?_eq_some_iff.1 hbk).1).trans hbk, hown.kept (row := none) ⟨hb.os, hb.tape, hb.output, hb.size, fun k hk _ => hb.block k hk⟩ (by cases v.ownBlock <;> simp)⟩
theorem BldZ.bld {b : Nat} {l : List UInt8} {w : World} (h : BldZ b l w) : Bld b l w := by
  obtain ⟨p, v, hp, hbk, hown⟩ := h
  have hne : v.ownBlock ≠ some b := fun e => by have := (hown.lt b e).1; omega
  have hF := World.ownsRowF_of hown
  have hown' : w.ownsRowF b 5 1 v (Lib.byteCells l).length (Lib.byteCells l) := by
    have hl : (Lib.byteCells l).length = l.length := by simp [Lib.byteCells]
    rw [hl]
    exact ⟨hF.1, hF.2.imp id fun ⟨g, cap, cur, fz, e, hg, r⟩ => ⟨g, cap, cur, fz, e, by omega, r⟩⟩
  rcases hp with rfl | rfl
  · exact .inl ⟨Nat.le_refl _, v, hbk, hown', hne⟩
  · exact .inr ⟨Nat.le_refl _, v, hbk, hown', hne⟩
theorem FrZ.cell {b : Nat} {a w : World} (h : FrZ b a w) (j : Nat) (v : Value) : FrZ b a (w.setCell ⟨b, j, none⟩ v) :=
  ⟨h.os, h.tape, h.output, by have := h.size; simp [World.setCell]; omega, fun k hk => (Below.heap_setCell _ _ _ _ (show k ≠ b by omega)).trans (h.low k hk), fun k o ho hb hn => (Below.heap_setCell _ _ _ _ hb).trans (h.block k o ho hb hn)⟩
theorem FrZ.grown {b : Nat} {a w w' : World} {v : Value} {n : Nat} {xs : List Value} (h : FrZ b a w) (hg : w.grownBy w' v.ownBlock) (hown : w.ownsRow (b + 1) 5 1 v n xs) (hb : b ≤ w.heap.size) : FrZ b a w' := by
  refine ⟨hg.os.trans h.os, hg.tape.trans h.tape, hg.output.trans h.output, Nat.le_trans h.size hg.size, fun k hk => (hg.block k (by omega) (fun e => by have := (hown.lt k e.symm).1; omega)).trans (h.low k hk), fun k o ho hkb hn => ?_⟩
  have h1 := h.block k o ho hkb hn
  refine (hg.block k (Array.getElem?_eq_some_iff.1 h1).1 (fun e => ?_)).trans h1
  rcases hown.2 with ⟨rfl, _⟩ | ⟨g, cap, cur, rfl, _, hgg, _⟩
  · simp [Value.ownBlock] at e
  · simp only [Value.ownBlock, Option.some.injEq] at e
    subst e
    rw [h1] at hgg
    exact hn cur (Option.some.inj hgg)
theorem FrZ.alloc {b : Nat} {a w : World} (h : FrZ b a w) (hb : b ≤ w.heap.size) (o : Obj) : FrZ b a (w.alloc o) := h.trans (FrZ.of_below ((Below.refl _ _).alloc (Nat.le_refl _) _) hb)
theorem copyCheck_z (b : Nat) (l : List UInt8) (w : World) (h : BldZ b l w) :
    Calls Try.prog 50 #[.pointer (some ⟨b, 0, none⟩)] w fun e w' => e = .returned (.tuple #[]) ∧ (∃ v, w'.heap[b]? = some (.cells #[.pointer (some ⟨b, 0, none⟩), v] 52 (0, 0)) ∧ w'.ownsRow (b + 1) 5 1 v l.length (Lib.byteCells l)) ∧ FrZ b w w' := by
  obtain ⟨p, v, hp, hbk, hown⟩ := h
  have c0 : w.cell? ⟨b, 0, none⟩ = some p := by rw [Lib.cell_of_heap hbk]; rfl
  rcases hp with rfl | rfl
  · refine (copyCheck_fresh b w c0 (by simp [World.shape?, hbk]) (Lib.frozen_of_heap hbk 0)).mono ?_
    rintro e w' ⟨rfl, rfl⟩
    have hne : v.ownBlock ≠ some b := fun e => by have := (hown.lt b e).1; omega
    refine ⟨rfl, ⟨v, by simp [World.setCell, Array.getElem?_modify, hbk], ?_⟩, (FrZ.refl b w).cell 0 _⟩
    exact hown.kept (row := some b) ⟨rfl, rfl, rfl, by simp [World.setCell], fun k _ hk => Below.heap_setCell _ _ _ _ (fun e => hk (by simp [e]))⟩ (Or.inr hne)
  · refine (copyCheck_used b w c0).mono ?_
    rintro e w' ⟨rfl, rfl⟩
    exact ⟨rfl, ⟨v, hbk, hown⟩, FrZ.refl _ _⟩

set_option maxHeartbeats 2000000 in
set_option maxRecDepth 100000 in
theorem WriteByte_z (b : Nat) (l : List UInt8) (c : Int) (x : UInt8) (hx : c = x.toNat) (w : World) (h : BldZ b l w) (hlen : l.length + 1 ≤ 140737488355328) :
    Calls Try.prog 34 #[.pointer (some ⟨b, 0, none⟩), .int .u8 c] w fun e w' => e = .returned .nilIface ∧ BldZ b (l ++ [x]) w' ∧ FrZ b w w' := by
  obtain ⟨i0, hi, hz0, hz1, hz2⟩ := info_parts infoByte
  have hBw := h.lt
  have e2 : Lib.byteCells (l ++ [x]) = Lib.byteCells l ++ [.int .u8 c] := by simp [Lib.byteCells, hx]
  have E2 := Lib.hid e2
  have HX := Lib.hid hx
  clear e2 hx
  go_enter Try.func34, Try.ntmps34
  go_wp2_with (go_at_call 50; refine (copyCheck_z b l _ h).mono ?_)
  rintro e w1 ⟨rfl, ⟨v, hbk, hown⟩, hf1⟩
  have c0 : w1.cell? ⟨b, 0, none⟩ = some (.pointer (some ⟨b, 0, none⟩)) := by rw [Lib.cell_of_heap hbk]; rfl
  have c1 : w1.cell? ⟨b, 1, none⟩ = some v := by rw [Lib.cell_of_heap hbk]; rfl
  have hne : v.ownBlock ≠ some b := fun e => by have := (hown.lt b e).1; omega
  go_wp2_with (at_builtin; refine wpList_append_own _ rfl _ _ 43 rfl (b + 1) 5 i0 (.int .u8 0) 1 1 Try.underlying43 hi hz0 hz1 hz2 rfl (by decide) _ _ _ rfl (hown.alloc _) ⟨w1.heap.size, 0, none⟩ 1 1 [.int .u8 c] rfl rfl ?c1 ?c2 ?c3 ?c4 ?c5 ?_)
  case c1 =>
    intro j u hj
    match j, hj with
    | 0, hj => simp at hj; subst hj; simp [Addr.add]
  case c2 => intro u hu; simp at hu; subst hu; rfl
  case c3 => unfold maxLen; omega
  case c4 => omega
  case c5 => have := hf1.size; simp; omega
  intro v' w2 hown' hgrow _
  have hlt : b < w1.heap.size := (Array.getElem?_eq_some_iff.1 hbk).1
  have hb2 : w2.heap[b]? = some (.cells #[.pointer (some ⟨b, 0, none⟩), v] 52 (0, 0)) := by
    rw [hgrow.block b (by simp; omega) (fun e => hne e.symm), Lib.alloc_old w1 _ b hlt]
    exact hbk
  have d0 : w2.cell? ⟨b, 0, none⟩ = some (.pointer (some ⟨b, 0, none⟩)) := by rw [Lib.cell_of_heap hb2]; rfl
  have d1 : w2.cell? ⟨b, 1, none⟩ = some v := by rw [Lib.cell_of_heap hb2]; rfl
  have f1 : w2.frozen? ⟨b, 1, none⟩ = false := Lib.frozen_of_heap hb2 1
  obtain ⟨g, cap, rfl⟩ : ∃ g cap, v' = .slice (some ⟨g, 0, none⟩) (l.length + 1) cap := by
    rcases hown'.2 with ⟨_, h0⟩ | ⟨g, cap, cur, hv, _⟩
    · omega
    · exact ⟨g, cap, hv⟩
  have hne' : Value.ownBlock (.slice (some ⟨g, 0, none⟩) (l.length + 1) cap) ≠ some b := fun e => by have := (hown'.lt b e).1; omega
  have hf2 : FrZ b w w2 := (hf1.alloc (by have := hf1.size; omega) _).grown hgrow (hown.alloc _) (by have := hf1.size; simp; omega)
  go_wp2
  go_ret
  refine ⟨rfl, ⟨_, .slice (some ⟨g, 0, none⟩) (l.length + 1) cap, .inr rfl, ?_, ?_⟩, hf2.cell 1 _⟩
  · simp [World.setCell, Array.getElem?_modify, hb2]
  · rw [E2.out, List.length_append]
    exact (show w2.ownsRow (b + 1) 5 1 (.slice (some ⟨g, 0, none⟩) (l.length + 1) cap) (l.length + 1) (Lib.byteCells l ++ [.int .u8 c]) from hown').kept (row := some b) ⟨rfl, rfl, rfl, by simp [World.setCell], fun k _ hk => Below.heap_setCell _ _ _ _ (fun e => hk (by simp [e]))⟩ (Or.inr hne')

set_option maxHeartbeats 2000000 in
set_option maxRecDepth 100000 in
theorem WriteString_z (b : Nat) (l m : List UInt8) (w : World) (h : BldZ b l w) (hlen : l.length + m.length ≤ 140737488355328) :
    Calls Try.prog 31 #[.pointer (some ⟨b, 0, none⟩), .string ⟨m.toArray⟩] w fun e w' => e = .returned (.tuple #[.int .i64 (m.length : Nat), .nilIface]) ∧ BldZ b (l ++ m) w' ∧ FrZ b w w' := by
  obtain ⟨i0, hi, hz0, hz1, hz2⟩ := info_parts infoByte
  have hBw := h.lt
  have e2 : Lib.byteCells (l ++ m) = Lib.byteCells l ++ Lib.strCells ⟨m.toArray⟩ := by simp [Lib.byteCells, Lib.strCells]
  have E2 := Lib.hid e2
  clear e2
  go_enter Try.func31, Try.ntmps31
  go_wp2_with (go_at_call 50; refine (copyCheck_z b l _ h).mono ?_)
  rintro e w1 ⟨rfl, ⟨v, hbk, hown⟩, hf1⟩
  have c0 : w1.cell? ⟨b, 0, none⟩ = some (.pointer (some ⟨b, 0, none⟩)) := by rw [Lib.cell_of_heap hbk]; rfl
  have c1 : w1.cell? ⟨b, 1, none⟩ = some v := by rw [Lib.cell_of_heap hbk]; rfl
  have hne : v.ownBlock ≠ some b := fun e => by have := (hown.lt b e).1; omega
  go_wp2_with (at_builtin; refine Lib.wpList_append_own_string _ rfl _ _ 43 9 rfl (b + 1) 5 i0 Try.underlying43 Try.underlying9 hi hz0 hz1 hz2 _ _ _ rfl hown ⟨m.toArray⟩ rfl ?c3 ?c4 ?c5 ?_)
  case c3 => unfold maxLen; simp only [ByteArray.size, List.size_toArray]; omega
  case c4 => simp only [ByteArray.size, List.size_toArray]; omega
  case c5 => have := hf1.size; omega
  intro v' w2 hown' hgrow _
  have hlt : b < w1.heap.size := (Array.getElem?_eq_some_iff.1 hbk).1
  have hb2 : w2.heap[b]? = some (.cells #[.pointer (some ⟨b, 0, none⟩), v] 52 (0, 0)) := by
    rw [hgrow.block b hlt (fun e => hne e.symm)]
    exact hbk
  have d0 : w2.cell? ⟨b, 0, none⟩ = some (.pointer (some ⟨b, 0, none⟩)) := by rw [Lib.cell_of_heap hb2]; rfl
  have d1 : w2.cell? ⟨b, 1, none⟩ = some v := by rw [Lib.cell_of_heap hb2]; rfl
  have f1 : w2.frozen? ⟨b, 1, none⟩ = false := Lib.frozen_of_heap hb2 1
  have hf2 : FrZ b w w2 := hf1.grown hgrow hown (by have := hf1.size; omega)
  have hsz : (⟨m.toArray⟩ : ByteArray).size = m.length := by simp [ByteArray.size]
  obtain ⟨ao, n', cap, rfl⟩ : ∃ ao n' cap, v' = .slice ao n' cap := by
    rcases hown'.2 with ⟨hv, _⟩ | ⟨g, cap, cur, hv, _⟩
    · exact ⟨_, _, _, hv⟩
    · exact ⟨_, _, _, hv⟩
  have hne' : Value.ownBlock (.slice ao n' cap) ≠ some b := fun e => by have := (hown'.lt b e).1; omega
  try rw [hsz] at hown'
  have HOW := Lib.hid hown'
  have HNE := Lib.hid hne'
  clear hown' hne' hgrow
  go_wp2
  go_ret2
  refine ⟨rfl, ⟨_, .slice ao n' cap, .inr rfl, ?_, ?_⟩, hf2.cell 1 _⟩
  · simp [World.setCell, Array.getElem?_modify, hb2]
  · rw [E2.out, List.length_append]
    exact HOW.out.kept (row := some b) ⟨rfl, rfl, rfl, by simp [World.setCell], fun k _ hk => Below.heap_setCell _ _ _ _ (fun e => hk (by simp [e]))⟩ (Or.inr HNE.out)
end Go.Proofs.Ytfcokdkbjajohaa
/- A row of bytes made of a string: written in place, appended to. -/
set_option linter.unusedVariables false
namespace Go.Proofs.Ytfcokdkbjajohaa
open Go.RowKit

/-- The bytes l in a block g from block B on, none of them frozen. -/
def Tf (B : Nat) (w : World) (v : Value) (l : List UInt8) : Prop :=
  ∃ g cap cur fr, v = .slice (some ⟨g, 0, none⟩) l.length cap ∧ B ≤ g ∧ w.heap[g]? = some (.cells cur 5 fr) ∧ (fr.1 = fr.2 ∨ cap ≤ fr.1) ∧ l.length ≤ cap ∧ cap ≤ cur.size ∧ cap ≤ maxLen ∧ ∀ j (h : j < l.length), cur[j]? = some (.int .u8 (l[j]).toNat)
theorem frozen_no {w : World} {g cap : Nat} {cur : Array Value} {T : TypeId} {fr : Nat × Nat} (hg : w.heap[g]? = some (.cells cur T fr)) (hf : fr.1 = fr.2 ∨ cap ≤ fr.1) (o : Nat) (ho : o < cap) : w.frozen? ⟨g, o, none⟩ = false := by
  unfold World.frozen?
  simp only [hg]
  rcases hf with h | h
  · simp; omega
  · simp; omega
theorem Tf.shape {B : Nat} {w : World} {v : Value} {l : List UInt8} (h : Tf B w v l) : ∃ g c, v = .slice (some ⟨g, 0, none⟩) l.length c ∧ B ≤ g ∧ g < w.heap.size ∧ Rd w (some ⟨g, 0, none⟩) l ∧ (∀ j (hj : j < l.length), w.cell? ⟨g, j, none⟩ = some (.int .u8 (l[j]).toNat)) ∧ (∀ j, j < l.length → w.frozen? ⟨g, j, none⟩ = false) := by
  obtain ⟨g, cap, cur, fr, rfl, hB, hg, hf, hc, _, _, hl⟩ := h
  exact ⟨g, cap, rfl, hB, (Array.getElem?_eq_some_iff.1 hg).1, .inr ⟨g, 0, rfl, fun i hi => by rw [Lib.cell_of_heap hg, Nat.zero_add]; exact hl i hi⟩, fun j hj => by rw [Lib.cell_of_heap hg]; exact hl j hj, fun j hj => frozen_no hg hf j (by omega)⟩
theorem Tf.keep {B : Nat} {w w' : World} {v : Value} {l : List UInt8} (h : Tf B w v l) (hb : Below w.heap.size w w') : Tf B w' v l := by
  obtain ⟨g, cap, cur, fr, rfl, hB, hg, h⟩ := h
  exact ⟨g, cap, cur, fr, rfl, hB, (hb.block _ (Array.getElem?_eq_some_iff.1 hg).1).trans hg, h⟩
theorem Tf.of_own {B : Nat} {w : World} {v : Value} {l : List UInt8} (h : Own B w v l) (hl : l ≠ []) : Tf B w v l := by
  rcases h.2 with ⟨rfl, h0⟩ | ⟨g, cap, cur, rfl, hB, hg, hlc, hm, hsz, htake⟩
  · exact absurd (List.eq_nil_of_length_eq_zero h0) hl
  · refine ⟨g, cap, cur, (0, 0), rfl, hB, hg, .inl rfl, hlc, by omega, hm, fun j hj => ?_⟩
    have h1 : (cur.toList.take (l.length * 1))[j]? = (Lib.byteCells l)[j]? := by rw [htake]
    rw [List.getElem?_take, if_pos (by omega)] at h1
    rw [← Array.getElem?_toList, h1]
    simp [Lib.byteCells, hj]
theorem Tf.set {B : Nat} {w : World} {g n c : Nat} {l : List UInt8} (h : Tf B w (.slice (some ⟨g, 0, none⟩) n c) l) (j : Nat) (x : UInt8) (hj : j < l.length) : Tf B (w.setCell ⟨g, j, none⟩ (.int .u8 x.toNat)) (.slice (some ⟨g, 0, none⟩) n c) (l.set j x) := by
  obtain ⟨g', cap, cur, fr, he, hB, hg, hf, hc, hs, hm, hl⟩ := h
  simp at he
  obtain ⟨rfl, rfl, rfl⟩ := he
  refine ⟨g, c, cur.setIfInBounds j (.int .u8 x.toNat), fr, by simp, hB, by simp [World.setCell, Array.getElem?_modify, hg], hf, by simpa using hc, by simpa using hs, hm, fun i hi => ?_⟩
  simp only [List.length_set] at hi
  by_cases e : i = j
  · subst e
    have hi2 : i < cur.size := by omega
    simp [hi2]
  · rw [Array.getElem?_setIfInBounds_ne (fun h => e h.symm), hl i hi, List.getElem_set_ne (fun h => e h.symm)]
/-- []byte(s) -/
theorem tf_of_str (l : List UInt8) (w : World) (hl : l.length ≤ 1000000) : ∃ g c w', (convert 9 43 (.string ⟨l.toArray⟩)).run Try.prog w = .ok (.slice (some ⟨g, 0, none⟩) l.length c) w' ∧ Below w.heap.size w w' ∧ Tf w.heap.size w' (.slice (some ⟨g, 0, none⟩) l.length c) l := by
  have h := Lib.run_convert_string_bytes (P := Try.prog) w 9 43 5 ⟨l.toArray⟩ Try.underlying9 Try.underlying43 Try.underlying5
  have hs : (⟨l.toArray⟩ : ByteArray).size = l.length := by simp [ByteArray.size]
  rw [hs] at h
  have hge := grownCap_ge w l.length 0 5
  have hle := grownCap_le_maxLen w l.length 0 5 (by unfold maxLen; omega)
  have hcs : (Lib.bytesCells w 5 ⟨l.toArray⟩).size = grownCap w l.length 0 5 := by
    unfold Lib.bytesCells
    rw [hs]
    simp
    omega
  refine ⟨_, _, _, h, ⟨rfl, rfl, rfl, by rw [Lib.bytesWorld_size]; omega, fun k hk => Lib.bytesWorld_at_old _ _ _ _ hk⟩, ?_⟩
  refine ⟨w.heap.size, grownCap w l.length 0 5, _, _, rfl, Nat.le_refl _, Lib.bytesWorld_at_new w 5 ⟨l.toArray⟩, .inr ?_, hge, by omega, hle, fun j hj => ?_⟩
  · rw [hcs]; exact Nat.le_refl _
  · simp [Lib.bytesCells, Array.getElem?_append, hj]
/-- append(l, m...) -/
theorem run_append_tf (ty : TypeId) {B : Nat} {w : World} {v : Value} {l : List UInt8} (h : Tf B w v l) {x : Addr} {m : List UInt8} {n c : Nat} (hn : n = m.length) (hm : m ≠ []) (hrd : Rd w (some x) m) (hlen : l.length + m.length ≤ 140737488355328) (hB : B ≤ w.heap.size) :
    ∃ v' w', (Builtin.append_ #[43, 43] ty #[v, .slice (some x) n c]).run Try.prog w = .ok v' w' ∧ Tf B w' v' (l ++ m) ∧ w.grownBy w' v.ownBlock := by
  subst hn
  obtain ⟨i0, hi, hz0, hz1, hz2⟩ := info_u8'
  have hc : ∀ j u, (Lib.byteCells m)[j]? = some u → w.cell? (x.add j) = some u := by
    intro j u hu
    have hj : j < m.length := by have := (List.getElem?_eq_some_iff.1 hu).1; simpa [Lib.byteCells] using this
    rcases hrd with rfl | ⟨b, off, e, hc⟩
    · simp at hj
    · simp at e
      subst e
      have e1 : u = .int .u8 (m[j]).toNat := by
        simp [Lib.byteCells, hj] at hu
        exact hu.symm
      rw [e1, ← hc j hj, Addr.add_lit]
  obtain ⟨g, cap, cur, fr, rfl, hBg, hg, hf, hlc, hsz, hmx, hl⟩ := h
  by_cases hroom : l.length + m.length ≤ cap
  · have hcur : ∀ j, j < (Lib.byteCells m).length → w.cell? ⟨g, 0 + l.length * i0.size + j, none⟩ = cur[l.length + j]? := by
      intro j hj
      rw [hz1, Nat.mul_one, Nat.zero_add, Lib.cell_of_heap hg]
    have h1 := run_append_room_cells (P := Try.prog) w 43 ty 5 i0 Try.underlying43 hi g 0 l.length cap x m.length c (Lib.byteCells m) (by simp [byteCells_len, hz1]) hc (byteCells_one m) hroom
      (fun j hj => by
        rw [hcur j hj]
        rw [byteCells_len] at hj
        rw [Array.getElem?_eq_getElem (by omega)]
        rfl) (fun j hj => frozen_no hg hf _ (by rw [byteCells_len] at hj; rw [hz1]; omega))
    rw [hz1, Nat.mul_one, Nat.zero_add] at h1
    obtain ⟨cs', f1, f2, f3, f4, f5⟩ := setCells_block (Lib.byteCells m) l.length w cur hg
    refine ⟨_, _, h1, ⟨g, cap, cs', fr, by rw [List.length_append], hBg, f1, hf, by rw [List.length_append]; omega, by omega, hmx, ?_⟩, ⟨setCells_os _ _ _ _, setCells_tape _ _ _ _, setCells_output _ _ _ _, Nat.le_of_eq (setCells_size _ _ _ _).symm, ?_⟩⟩
    · intro j hj
      rw [List.length_append] at hj
      by_cases hjl : j < l.length
      · rw [f3 _ hjl, hl j hjl, List.getElem_append_left hjl]
      · have := f4 (j - l.length) (by rw [byteCells_len]; omega) (by omega)
        rw [show l.length + (j - l.length) = j by omega] at this
        rw [this, List.getElem_append_right (by omega)]
        simp [Lib.byteCells]
    · intro k hk hne
      exact World.heap_setCells_other w g _ _ hk (fun e => hne (by subst e; rfl))
  · obtain ⟨v', w', e1, e2, e3⟩ := run_append_arg_grows (P := Try.prog) w 43 ty 5 i0 (.int .u8 0) 1 1 Try.underlying43 hi hz0 hz1 hz2 rfl (by decide) ⟨g, 0, none⟩ l.length cap (Lib.byteCells l) (by simp [byteCells_len])
      (fun j u hu => by
        have hj : j < l.length := by have := (List.getElem?_eq_some_iff.1 hu).1; simpa [Lib.byteCells] using this
        have e1 : u = .int .u8 (l[j]).toNat := by
          simp [Lib.byteCells, hj] at hu
          exact hu.symm
        rw [Addr.add_lit, Nat.zero_add, Lib.cell_of_heap hg, hl j hj, e1])
      x m.length c (Lib.byteCells m) (by simp [byteCells_len]) hc (by omega) (by unfold maxLen; omega) (by omega)
    have hown : Own w.heap.size w' v' (l ++ m) := by
      unfold Own
      rw [byteCells_app, List.length_append]
      exact e2
    obtain ⟨g', cap', cur', fr', h1, h2, h3⟩ := Tf.of_own hown (by simp [hm])
    exact ⟨v', w', e1, ⟨g', cap', cur', fr', h1, Nat.le_trans hB h2, h3⟩, ⟨e3.os, e3.tape, e3.output, e3.size, fun k hk _ => e3.block k hk (by simp)⟩⟩
/-- .. for the walk: one byte. -/
theorem wpList_append_tf {ops : Array Oper} {rest : List Oper} {o : Oper} {a : Act} {w : World} {Q : Exit → Act → World → Prop} (hgd : o.guard = none) (s x : Operand)
    (ho : o.op = .call { callee := .builtin .append, args := #[s, x], argTypes := #[43, 43] })
    (B : Nat) (v : Value) (l : List UInt8) (hs : a.eval s = v) (h : Tf B w v l) (ad : Addr) (m : List UInt8) (n c : Nat) (hx : a.eval x = .slice (some ad) n c) (hn : n = m.length) (hm : m ≠ []) (hrd : Rd w (some ad) m)
    (hlen : l.length + m.length ≤ 140737488355328) (hB : B ≤ w.heap.size)
    (hk : ∀ v' w', Tf B w' v' (l ++ m) → w.grownBy w' v.ownBlock → wpList Try.prog ops Q rest (a.put o.dst v') w') : wpList Try.prog ops Q (o :: rest) a w := by
  refine wpList_plain hgd fun K hK' => ?_
  obtain ⟨v', w', h1, h2, h3⟩ := run_append_tf o.type h hn hm hrd hlen hB
  unfold Oper.wp execOp
  simp only [ho, resolve, invoke, builtin, Sem.run_bind, Sem.run_pure, Result.andThen_ok, List.map_toArray, List.map_cons, List.map_nil, hs, hx]
  erw [h1]
  exact hK' _ _ (hk v' w' h2 h3)
theorem below_tf {B : Nat} {a w w' : World} {v : Value} {l : List UInt8} (h : Below B a w) (ht : Tf B w v l) (hg : w.grownBy w' v.ownBlock) (hB : B ≤ w.heap.size) : Below B a w' := by
  refine h.grown hg hB fun k hk => ?_
  obtain ⟨g, c, rfl, hB, _⟩ := ht.shape
  simp [Value.ownBlock] at hk
  omega
end Go.Proofs.Ytfcokdkbjajohaa
