/- Merged: JsN, JsO, JsS, JsU, JsW, JsX, JsXn, JsY, JsBa, JsNu, Build, BuildS, BldZ, RowF. -/
import Derived.Defers
import Derived.Recover
import Derived.Laws.Pointers
import Derived.Test.YtfdijcdpmgkdkaaGreatDoorProg
import Derived.WalkKit
import Derived.WalkSpells
import Derived.WalkLawsBesides
import Derived.KernelRfl
import Derived.Lib.Builder
import Derived.Lib.OthersKept
import Derived.Lib.FrozenHead2
import Derived.Lib.Hide
import Derived.Lib.AppendStr
import Derived.Test.YtfdijcdpmgkdkaaGreatDoorJm1
import Derived.Test.YtfdijcdpmgkdkaaGreatDoorJm2
import Derived.Test.YtfdijcdpmgkdkaaGreatDoorJm3
import Derived.Test.YtfdijcdpmgkdkaaGreatDoorJm4
import Derived.Test.YtfdijcdpmgkdkaaGreatDoorJm5
set_option linter.unusedVariables false
namespace Go.Proofs.YtfdijcdpmgkdkaaGreatDoor
open Go.RowKit

set_option maxRecDepth 100000 in
set_option maxHeartbeats 8000000 in
theorem jenter_deep (g : Nat) (S : List UInt8) (p d : Nat) (C : Int) (w : World) (h : Rdr w g S p d d) :
    Calls Tryz.prog 172 #[.pointer (some ⟨g, 0, none⟩), .int .u8 C] w fun e w' => But g w w' ∧ ∃ a, e = .panicked (thrown 32 a) := by
  have h1 := h.c1
  have h2 := h.c2
  have h3 := h.c3
  have HB : Hid (∀ n, But g w (w.drewN n)) := Lib.hid fun n => (But.refl g w).drewN n
  clear h
  go_enter Tryz.func172, Tryz.ntmps172
  go_wp2_with fail
  go_quiet (fail)
  go_wp2_with fail
  refine (jfail_any g 32 p _).mono ?_
  rintro e w' ⟨rfl, rfl⟩
  go_wp2_with fail
  exact ⟨rfl, HB.out _, p, rfl⟩
set_option maxRecDepth 100000 in
set_option maxHeartbeats 8000000 in
theorem jenter_ok (g : Nat) (S : List UInt8) (p d o : Nat) (E : UInt8) (C : Int) (w : World) (h : Rdr w g S p d o) (hl : S.length ≤ 1000000) (ho : o < d) (hd : d ≤ 1000) (hp : peekL (S.drop p) = E) (h0 : E ≠ 0) (hC : C = (E.toNat : Int)) :
    Calls Tryz.prog 172 #[.pointer (some ⟨g, 0, none⟩), .int .u8 C] w fun e w' => e = .returned (.tuple #[]) ∧ ∃ q, S.drop q = blankL (S.drop (p + 1)) ∧ p + 1 ≤ q ∧ Rdr w' g S q d (o + 1) ∧ But g w w' := by
  have h1 := h.c1
  have h2 := h.c2
  have h3 := h.c3
  have hne : (((o : Nat) : Int) == ((d : Nat) : Int)) = false := by
    simp only [beq_eq_false_iff_ne, ne_eq]
    omega
  have HB : Hid (∀ n, But g w (w.drewN n)) := Lib.hid fun n => (But.refl g w).drewN n
  have HR : Hid (∀ n, Rdr (w.drewN n) g S p d o) := Lib.hid fun n => ⟨h.heap, h.le⟩
  have H0 := Lib.hid h0
  have HC := Lib.hid hC
  have HP := Lib.hid hp
  clear h h0 hC hp
  go_enter Tryz.func172, Tryz.ntmps172
  go_wp2_with fail
  go_quiet (fail)
  go_wp2_with fail
  refine (jmust_hit_any g S p d o E C _ (HR.out _) hl HP.out H0.out HC.out).mono ?_
  rintro e w1 ⟨rfl, hr1, hb1⟩
  have k3 := hr1.c3
  have f3 := hr1.fz 3
  have HR1 := Lib.hid (hr1.op (o + 1))
  have HB1 := Lib.hid (((HB.out _).trans hb1).trans (But.setCell w1 g 3 (.int .i64 ((o + 1 : Nat) : Int))))
  have hcast : (((o + 1 : Nat) : Int)) = (o : Int) + 1 := by omega
  rw [hcast] at HR1 HB1
  clear hr1 hb1 h1 h2 h3
  go_wp2_with fail
  refine (jblank_any g S (p + 1) d (o + 1) _ HR1.out hl).mono ?_
  rintro e w2 ⟨rfl, q, hq, hle, hr2, hb2⟩
  have HR2 := Lib.hid hr2
  have HB2 := Lib.hid (HB1.out.trans hb2)
  have HQ := Lib.hid hq
  clear hr2 hb2 hq
  go_wp2_with fail
  go_end0
  exact ⟨rfl, q, HQ.out, hle, HR2.out, HB2.out⟩
set_option maxRecDepth 100000 in
set_option maxHeartbeats 8000000 in
theorem jobj1_any (g gv gb : Nat) (w : World) (hb : w.cell? ⟨gb, 0, none⟩ = some (.pointer (some ⟨g, 0, none⟩))) (R : Ending → World → Prop) (h : Calls Tryz.prog 176 #[.pointer (some ⟨g, 0, none⟩), .pointer (some ⟨gv, 0, none⟩)] w fun e w' => (e = .returned (.tuple #[]) ∧ R (.returned (.tuple #[])) w') ∨ ∃ ps, e = .panicked ps ∧ R (.panicked ps) w') :
    Calls Tryz.prog 175 #[.pointer (some ⟨gb, 0, none⟩), .pointer (some ⟨gv, 0, none⟩)] w R := by
  have H := Lib.hid h
  clear h
  go_enter Tryz.func175, Tryz.ntmps175
  go_wp2_with fail
  refine H.out.mono ?_
  rintro e w' (⟨rfl, hr⟩ | ⟨ps, rfl, hr⟩)
  · have HR := Lib.hid hr
    clear hr
    go_wp2_with fail
    go_end0
    exact HR.out
  · have HR := Lib.hid hr
    clear hr
    go_wp2_with fail
    exact ⟨rfl, HR.out⟩
def ArrSt (g gv gb B : Nat) (S : List UInt8) (d o : Nat) (w : World) (l : List JV) (p : Nat) : Prop := ∃ V cl, ArrIs g gv gb B S d o w l p V cl
def MemSt (g gv gb B : Nat) (S : List UInt8) (d o : Nat) (w : World) (l : List (List UInt8 × JV)) (p : Nat) : Prop := ∃ V cl, MemIs g gv gb B S d o w l p V cl
theorem arr_one (val : List UInt8 → PR JV) (hsh : ∀ v r r', val r = .ok v r' → r'.length < r.length) (g gv gb B : Nat) (S : List UInt8) (d o : Nat) (hV : ValC val g S d o) (hl : S.length ≤ 1000000) (hgv : g < B) (hvv : gv < B) (hbv : gb < B) (h1 : g ≠ gv) (h2 : g ≠ gb) (hbg : gb ≠ gv) :
    OneC 174 #[.pointer (some ⟨gv, 0, none⟩), .pointer (some ⟨gb, 0, none⟩)] (arrR val) g S d o (ArrSt g gv gb B S d o) (ButV B g gv) := by
  refine ⟨?_, ?_, ?_, ?_, fun a b c h k => h.trans k, fun a => ButV.refl B g gv a⟩
  · rintro w x q ⟨V, cl, h⟩
    have hq := h.rdr.le
    refine (jelem_any val hsh g gv gb B S d o hV hl hgv hvv hbv h1 h2 hbg w x q V cl h).mono ?_
    rintro e w' ⟨hb, ⟨v, q', V', cl', h3, h4, h5⟩ | ⟨n, a, h3, h4⟩⟩
    · refine ⟨Lib.hid hb, .inl ⟨_, q', Lib.hid ?_, h4, Lib.hid ⟨V', cl', h5⟩, ?_⟩⟩
      · unfold arrR; rw [h3]; rfl
      · have e1 := hsh _ _ _ h3
        have e2 := h5.rdr.le
        simp only [List.length_drop] at e1
        omega
    · exact ⟨Lib.hid hb, .inr ⟨n, a, Lib.hid (by unfold arrR; rw [h3]; rfl), h4⟩⟩
  · rintro w x q ⟨V, cl, h⟩
    exact h.rdr
  · rintro w w' x q q' ⟨V, cl, h⟩ hb hr hq
    exact ⟨V, cl, h.mv hb hr hq hgv hvv h1 h2 hbv⟩
  · rintro w w' x q ⟨V, cl, h⟩ hb
    exact ButV.of_but hb h.size
theorem mem_one (val : List UInt8 → PR JV) (hsh : ∀ v r r', val r = .ok v r' → r'.length < r.length) (g gv gb B : Nat) (S : List UInt8) (d o : Nat) (hV : ValC val g S d o) (hl : S.length ≤ 1000000) (hgv : g < B) (hvv : gv < B) (hbv : gb < B) (h1 : g ≠ gv) (h2 : g ≠ gb) (hbg : gb ≠ gv) :
    OneC 175 #[.pointer (some ⟨gb, 0, none⟩), .pointer (some ⟨gv, 0, none⟩)] (memR val) g S d o (MemSt g gv gb B S d o) (ButV B g gv) := by
  refine ⟨?_, ?_, ?_, ?_, fun a b c h k => h.trans k, fun a => ButV.refl B g gv a⟩
  · rintro w x q ⟨V, cl, h⟩
    have hq := h.rdr.le
    refine jobj1_any g gv gb w h.box _ ((jmem_any val hsh g gv gb B S d o hV hl hgv hvv hbv h1 h2 hbg w x q V cl h).mono ?_)
    rintro e w' ⟨hb, ⟨v, q', V', cl', h3, h4, h5⟩ | ⟨n, a, h3, h4⟩⟩
    · refine .inl ⟨h4, Lib.hid hb, .inl ⟨_, q', Lib.hid h3, rfl, Lib.hid ⟨V', cl', h5⟩, ?_⟩⟩
      have e1 := mem_short hsh _ _ _ _ h3
      have e2 := h5.rdr.le
      simp only [List.length_drop] at e1
      omega
    · exact .inr ⟨_, h4, Lib.hid hb, .inr ⟨n, a, Lib.hid h3, rfl⟩⟩
  · rintro w x q ⟨V, cl, h⟩
    exact h.rdr
  · rintro w w' x q q' ⟨V, cl, h⟩ hb hr hq
    exact ⟨V, cl, h.mv hb hr hq hgv hvv h1 h2 hbv⟩
  · rintro w w' x q ⟨V, cl, h⟩ hb
    exact ButV.of_but hb h.size
theorem alloc3 (w : World) (a b c : Obj) : (((w.alloc a).alloc b).alloc c).heap[w.heap.size]? = some a ∧ (((w.alloc a).alloc b).alloc c).heap[w.heap.size + 1]? = some b ∧ (((w.alloc a).alloc b).alloc c).heap[w.heap.size + 1 + 1]? = some c ∧ (((w.alloc a).alloc b).alloc c).heap.size = w.heap.size + 3 ∧ Below w.heap.size w (((w.alloc a).alloc b).alloc c) := by
  have e1 : (w.alloc a).heap.size = w.heap.size + 1 := by simp
  have e2 : ((w.alloc a).alloc b).heap.size = w.heap.size + 1 + 1 := by simp
  have k1 := (World.grownBy_alloc (w.alloc a) b none).block
  have k2 := (World.grownBy_alloc ((w.alloc a).alloc b) c none).block
  refine ⟨?_, ?_, ?_, by simp, (((Below.refl _ _).alloc (Nat.le_refl _) _).alloc (by simp) _).alloc (by simp; omega) _⟩
  · rw [k2 _ (by omega) (by simp), k1 _ (by omega) (by simp)]
    exact heap_alloc_new w a
  · rw [k2 _ (by omega) (by simp), ← e1]
    exact heap_alloc_new (w.alloc a) b
  · rw [← e2]
    exact heap_alloc_new ((w.alloc a).alloc b) c
end Go.Proofs.YtfdijcdpmgkdkaaGreatDoor
set_option linter.unusedVariables false
namespace Go.Proofs.YtfdijcdpmgkdkaaGreatDoor
open Go.RowKit

theorem but_v {g gv B : Nat} {w w4 w5 : World} (h : But g w w4) (hv : ButV B g gv w4 w5) (hgv : w.heap.size ≤ gv) (hB : w.heap.size ≤ B) : But g w w5 :=
  ⟨hv.os.trans h.os, hv.tape.trans h.tape, hv.output.trans h.output, Nat.le_trans h.size hv.size, fun k hk hg => (hv.block k (by omega) hg (by omega)).trans (h.block k hk hg)⟩
theorem five_other (w : World) (gr : Nat) (a b c d e : Value) : ∀ k, k ≠ gr → (((((w.setCell ⟨gr, 0, none⟩ a).setCell ⟨gr, 1, none⟩ b).setCell ⟨gr, 2, none⟩ c).setCell ⟨gr, 3, none⟩ d).setCell ⟨gr, 4, none⟩ e).heap[k]? = w.heap[k]? := by
  intro k hk
  rw [Below.heap_setCell _ _ _ _ hk, Below.heap_setCell _ _ _ _ hk, Below.heap_setCell _ _ _ _ hk, Below.heap_setCell _ _ _ _ hk, Below.heap_setCell _ _ _ _ hk]
set_option maxRecDepth 100000 in
set_option maxHeartbeats 8000000 in
theorem jarray_any (val : List UInt8 → PR JV) (hsh : ∀ v r r', val r = .ok v r' → r'.length < r.length) (g : Nat) (S : List UInt8) (p d o : Nat) (hV : ValC val g S d (o + 1)) (hl : S.length ≤ 1000000) (ho : o < d) (hd : d ≤ 1000) (w : World) (h : Rdr w g S p d o) (hp : peekL (S.drop p) = 91) :
    Calls Tryz.prog 133 #[.pointer (some ⟨g, 0, none⟩)] w fun e w' => ValRes (fun r => (rowR (arrR val) 93 [] (blankL r.tail)).bind fun l r => .ok (jarr l) r) g S p d o w e w' := by
  have hgl := h.lt
  have HR := Lib.hid h
  have HP := Lib.hid hp
  have HV := Lib.hid hV
  have HS := Lib.hid hsh
  have hmf : ∀ (fn : Fn) (first cap : Array Value) (w : World), (Instr.makeFunc fn first cap).run Tryz.prog w = .ok (.func fn first cap) w := fun _ _ _ _ => rfl
  clear h hp hV hsh
  go_enter Tryz.func133, Tryz.ntmps133
  go_upto_region 2 with (fail)
  obtain ⟨k0, k1, k2, hs3, hb3⟩ := alloc3 w (.cells #[.pointer (some ⟨g, 0, none⟩)] 89) (.cells #[.int .i64 0, .bool false, .string ⟨#[]⟩, .slice none 0 0, .slice none 0 0] 26) (.cells #[.int .i64 5, .bool false, .string ⟨#[]⟩, .slice none 0 0, .slice none 0 0] 26)
  generalize ((w.alloc _).alloc _).alloc _ = w3 at *
  have HB3 : Hid (But g w w3) := Lib.hid ⟨hb3.os, hb3.tape, hb3.output, hb3.size, fun k hk _ => hb3.block k hk⟩
  have HR3 : Hid (Rdr w3 g S p d o) := Lib.hid ⟨(hb3.block g hgl).trans HR.out.heap, HR.out.le⟩
  have K0 := Lib.hid k0
  have K1 := Lib.hid k1
  have K2 := Lib.hid k2
  have b0 : w3.cell? ⟨w.heap.size, 0, none⟩ = some (.pointer (some ⟨g, 0, none⟩)) := by rw [Lib.cell_of_heap k0]; rfl
  clear k0 k1 k2 hb3 HR
  have hplt : p < S.length := peek_lt HR3.out.le (by rw [HP.out]; decide)
  have HT : Hid ((S.drop p).tail = S.drop (p + 1)) := Lib.hid List.tail_drop
  go_wp2_with fail
  refine (jenter_ok g S p d o 91 91 w3 HR3.out hl ho hd HP.out (by decide) rfl).mono ?_
  rintro e w4 ⟨rfl, q, hq, hle, hr4, hb4⟩
  have HQ := Lib.hid hq
  have HB4 := Lib.hid hb4
  have hs4 := hb4.size
  have hst : ArrSt g (w.heap.size + 1 + 1) w.heap.size (w.heap.size + 3) S d (o + 1) w4 [] q := by
    refine ⟨.slice none 0 0, [], hr4, ?_, (hb4.block _ (by omega) (by omega)).trans K2.out, ⟨rfl, .inl ⟨rfl, rfl⟩⟩, Reps.nil _ _, by omega, Nat.zero_le _⟩
    rw [Lib.cell_of_heap ((hb4.block _ (by omega) (by omega)).trans K0.out)]
    rfl
  have HST := Lib.hid hst
  have K1' : Hid (w4.heap[w.heap.size + 1]? = some (.cells #[.int .i64 0, .bool false, .string ⟨#[]⟩, .slice none 0 0, .slice none 0 0] 26 (0, 0))) := Lib.hid ((hb4.block _ (by omega) (by omega)).trans K1.out)
  have b4 : w4.cell? ⟨w.heap.size, 0, none⟩ = some (.pointer (some ⟨g, 0, none⟩)) := by rw [Lib.cell_of_heap ((hb4.block _ (by omega) (by omega)).trans K0.out)]; rfl
  have HarrR := Lib.hid (arr_one val HS.out g (w.heap.size + 1 + 1) w.heap.size (w.heap.size + 3) S d (o + 1) HV.out hl (by omega) (by omega) (by omega) (by omega) (by omega) (by omega))
  clear hst hq hb4 hr4 b0 HR3 K0 K2
  go_wp2_with fail
  refine (jrow_arr _ _ (arrR val) g S d o _ _ 93 93 (by decide) rfl hl (by omega) HarrR.out w4 [] q HST.out).mono ?_
  rintro e w6 (⟨l, q', w5, hok, rfl, hst5, hk5, rfl⟩ | ⟨n, a, hbad, rfl, hk5⟩)
  · obtain ⟨V, cl, h5⟩ := hst5.out
    obtain ⟨xa, xc, rfl, hrdo, hxc⟩ := own_shape h5.own
    have K15 := (hk5.out.block (w.heap.size + 1) (by omega) (by omega) (by omega)).trans K1'.out
    have hset : ∀ j, j ≠ g → (w5.setCell ⟨g, 3, none⟩ (.int .i64 ((o : Nat) : Int))).heap[j]? = w5.heap[j]? := fun j hj => Below.heap_setCell _ _ _ _ hj
    have HGV : Hid ((w5.setCell ⟨g, 3, none⟩ (.int .i64 ((o : Nat) : Int))).heap[w.heap.size + 1 + 1]? = some (.cells #[.int .i64 5, .bool false, .string ⟨#[]⟩, .slice xa l.length xc, .slice none 0 0] 26 (0, 0))) := Lib.hid ((hset _ (by omega)).trans h5.blk)
    have HGR : Hid ((w5.setCell ⟨g, 3, none⟩ (.int .i64 ((o : Nat) : Int))).heap[w.heap.size + 1]? = some (.cells #[.int .i64 0, .bool false, .string ⟨#[]⟩, .slice none 0 0, .slice none 0 0] 26 (0, 0))) := Lib.hid ((hset _ (by omega)).trans K15)
    have HR6 := Lib.hid (h5.rdr.op o)
    have HB6 : Hid (But g w (w5.setCell ⟨g, 3, none⟩ (.int .i64 ((o : Nat) : Int)))) := Lib.hid ((but_v (HB3.out.trans HB4.out) hk5.out (by omega) (by omega)).trans (But.setCell w5 g 3 _))
    have HREP : Hid (Rep (w.heap.size + 3 ≤ ·) (w5.setCell ⟨g, 3, none⟩ (.int .i64 ((o : Nat) : Int))) [.int .i64 5, .bool false, .string ⟨#[]⟩, .slice xa l.length xc, .slice none 0 0] (jarr l)) := Lib.hid ((show Rep (w.heap.size + 3 ≤ ·) w5 [.int .i64 5, .bool false, .string ⟨#[]⟩, .slice xa l.length xc, .slice none 0 0] (jarr l) from rep_of (k := 5) (y := false) (t := []) (m := []) (cm := []) hrdo (h5.reps.mono fun _ h => h.1) (.inl rfl) (RepsM.nil _ _) hxc (Nat.le_refl 0)).keep fun k hk _ => hset k (by omega))
    have HE : Hid ((rowR (arrR val) 93 [] (blankL (S.drop p).tail)).bind (fun l r => PR.ok (jarr l) r) = .ok (jarr l) (S.drop q')) := Lib.hid (by rw [HT.out, ← HQ.out, hok.out]; rfl)
    clear hset K15 h5 hrdo hok hst5 hk5 HST HarrR HB3 HB4 K1' b4
    generalize w5.setCell ⟨g, 3, none⟩ (.int .i64 ((o : Nat) : Int)) = w6 at *
    have v0 : w6.cell? ⟨w.heap.size + 1 + 1, 0, none⟩ = some (.int .i64 5) := by rw [Lib.cell_of_heap HGV.out]; rfl
    have v1 : w6.cell? ⟨w.heap.size + 1 + 1, 1, none⟩ = some (.bool false) := by rw [Lib.cell_of_heap HGV.out]; rfl
    have v2 : w6.cell? ⟨w.heap.size + 1 + 1, 2, none⟩ = some (.string ⟨#[]⟩) := by rw [Lib.cell_of_heap HGV.out]; rfl
    have v3 : w6.cell? ⟨w.heap.size + 1 + 1, 3, none⟩ = some (.slice xa l.length xc) := by rw [Lib.cell_of_heap HGV.out]; rfl
    have v4 : w6.cell? ⟨w.heap.size + 1 + 1, 4, none⟩ = some (.slice none 0 0) := by rw [Lib.cell_of_heap HGV.out]; rfl
    have d0 : w6.cell? ⟨w.heap.size + 1, 0, none⟩ = some (.int .i64 0) := by rw [Lib.cell_of_heap HGR.out]; rfl
    have f0 := Lib.frozen_of_heap HGR.out 0
    have d1 : w6.cell? ⟨w.heap.size + 1, 1, none⟩ = some (.bool false) := by rw [Lib.cell_of_heap HGR.out]; rfl
    have f1 := Lib.frozen_of_heap HGR.out 1
    have d2 : w6.cell? ⟨w.heap.size + 1, 2, none⟩ = some (.string ⟨#[]⟩) := by rw [Lib.cell_of_heap HGR.out]; rfl
    have f2 := Lib.frozen_of_heap HGR.out 2
    have d3 : w6.cell? ⟨w.heap.size + 1, 3, none⟩ = some (.slice none 0 0) := by rw [Lib.cell_of_heap HGR.out]; rfl
    have f3 := Lib.frozen_of_heap HGR.out 3
    have d4 : w6.cell? ⟨w.heap.size + 1, 4, none⟩ = some (.slice none 0 0) := by rw [Lib.cell_of_heap HGR.out]; rfl
    have f4 := Lib.frozen_of_heap HGR.out 4
    go_wp2_with fail
    have hst := value_stored HGR.out (.int .i64 5) (.bool false) (.string ⟨#[]⟩) (.slice xa l.length xc) (.slice none 0 0)
    have HRE := Lib.hid (HR6.out.stored (gv := w.heap.size + 1) (by omega) (.int .i64 5) (.bool false) (.string ⟨#[]⟩) (.slice xa l.length xc) (.slice none 0 0))
    have HBE := Lib.hid (but_stored (gv := w.heap.size + 1) HB6.out (by omega) (.int .i64 5) (.bool false) (.string ⟨#[]⟩) (.slice xa l.length xc) (.slice none 0 0))
    have HZ := Lib.hid (five_other w6 (w.heap.size + 1) (.int .i64 5) (.bool false) (.string ⟨#[]⟩) (.slice xa l.length xc) (.slice none 0 0))
    have e0 := Lib.cell_of_heap hst 0
    have e1 := Lib.cell_of_heap hst 1
    have e2 := Lib.cell_of_heap hst 2
    have e3 := Lib.cell_of_heap hst 3
    have e4 := Lib.cell_of_heap hst 4
    simp only [List.getElem?_toArray] at e0 e1 e2 e3 e4
    refine bodyPost_ret (v := .agg #[.int .i64 5, .bool false, .string ⟨#[]⟩, .slice xa l.length xc, .slice none 0 0]) (by simp [results, Tryz.results133, go_sem, e0, e1, e2, e3, e4]) rfl ?_
    exact ⟨HBE, .inl ⟨_, _, q', HE, rfl, Lib.hid ((HREP.out.keep fun k hk _ => HZ.out k (by omega)).mono fun k hk => by omega), HRE⟩⟩
  · have HE : Hid ((rowR (arrR val) 93 [] (blankL (S.drop p).tail)).bind (fun l r => PR.ok (jarr l) r) = .bad n) := Lib.hid (by rw [HT.out, ← HQ.out, hbad.out]; rfl)
    have HB6 : Hid (But g w w6) := Lib.hid (but_v (HB3.out.trans HB4.out) hk5.out (by omega) (by omega))
    clear hbad hk5 HarrR HST
    go_wp2_with fail
    exact ⟨rfl, HB6, .inr ⟨n, a, HE, rfl⟩⟩
set_option maxRecDepth 100000 in
set_option maxHeartbeats 8000000 in
theorem jobject_any (val : List UInt8 → PR JV) (hsh : ∀ v r r', val r = .ok v r' → r'.length < r.length) (g : Nat) (S : List UInt8) (p d o : Nat) (hV : ValC val g S d (o + 1)) (hl : S.length ≤ 1000000) (ho : o < d) (hd : d ≤ 1000) (w : World) (h : Rdr w g S p d o) (hp : peekL (S.drop p) = 123) :
    Calls Tryz.prog 134 #[.pointer (some ⟨g, 0, none⟩)] w fun e w' => ValRes (fun r => (rowR (memR val) 125 [] (blankL r.tail)).bind fun l r => .ok (jobj l) r) g S p d o w e w' := by
  have hgl := h.lt
  have HR := Lib.hid h
  have HP := Lib.hid hp
  have HV := Lib.hid hV
  have HS := Lib.hid hsh
  have hmf : ∀ (fn : Fn) (first cap : Array Value) (w : World), (Instr.makeFunc fn first cap).run Tryz.prog w = .ok (.func fn first cap) w := fun _ _ _ _ => rfl
  clear h hp hV hsh
  go_enter Tryz.func134, Tryz.ntmps134
  go_upto_region 2 with (fail)
  obtain ⟨k0, k1, k2, hs3, hb3⟩ := alloc3 w (.cells #[.pointer (some ⟨g, 0, none⟩)] 89) (.cells #[.int .i64 0, .bool false, .string ⟨#[]⟩, .slice none 0 0, .slice none 0 0] 26) (.cells #[.int .i64 6, .bool false, .string ⟨#[]⟩, .slice none 0 0, .slice none 0 0] 26)
  generalize ((w.alloc _).alloc _).alloc _ = w3 at *
  have HB3 : Hid (But g w w3) := Lib.hid ⟨hb3.os, hb3.tape, hb3.output, hb3.size, fun k hk _ => hb3.block k hk⟩
  have HR3 : Hid (Rdr w3 g S p d o) := Lib.hid ⟨(hb3.block g hgl).trans HR.out.heap, HR.out.le⟩
  have K0 := Lib.hid k0
  have K1 := Lib.hid k1
  have K2 := Lib.hid k2
  have b0 : w3.cell? ⟨w.heap.size, 0, none⟩ = some (.pointer (some ⟨g, 0, none⟩)) := by rw [Lib.cell_of_heap k0]; rfl
  clear k0 k1 k2 hb3 HR
  have hplt : p < S.length := peek_lt HR3.out.le (by rw [HP.out]; decide)
  have HT : Hid ((S.drop p).tail = S.drop (p + 1)) := Lib.hid List.tail_drop
  go_wp2_with fail
  refine (jenter_ok g S p d o 123 123 w3 HR3.out hl ho hd HP.out (by decide) rfl).mono ?_
  rintro e w4 ⟨rfl, q, hq, hle, hr4, hb4⟩
  have HQ := Lib.hid hq
  have HB4 := Lib.hid hb4
  have hs4 := hb4.size
  have hst : MemSt g (w.heap.size + 1 + 1) w.heap.size (w.heap.size + 3) S d (o + 1) w4 [] q := by
    refine ⟨.slice none 0 0, [], hr4, ?_, (hb4.block _ (by omega) (by omega)).trans K2.out, ⟨rfl, .inl ⟨rfl, rfl⟩⟩, RepsM.nil _ _, by omega, Nat.zero_le _⟩
    rw [Lib.cell_of_heap ((hb4.block _ (by omega) (by omega)).trans K0.out)]
    rfl
  have HST := Lib.hid hst
  have K1' : Hid (w4.heap[w.heap.size + 1]? = some (.cells #[.int .i64 0, .bool false, .string ⟨#[]⟩, .slice none 0 0, .slice none 0 0] 26 (0, 0))) := Lib.hid ((hb4.block _ (by omega) (by omega)).trans K1.out)
  have b4 : w4.cell? ⟨w.heap.size, 0, none⟩ = some (.pointer (some ⟨g, 0, none⟩)) := by rw [Lib.cell_of_heap ((hb4.block _ (by omega) (by omega)).trans K0.out)]; rfl
  have HmemR := Lib.hid (mem_one val HS.out g (w.heap.size + 1 + 1) w.heap.size (w.heap.size + 3) S d (o + 1) HV.out hl (by omega) (by omega) (by omega) (by omega) (by omega) (by omega))
  clear hst hq hb4 hr4 b0 HR3 K0 K2
  go_wp2_with fail
  refine (jrow_obj _ _ (memR val) g S d o _ _ 125 125 (by decide) rfl hl (by omega) HmemR.out w4 [] q HST.out).mono ?_
  rintro e w6 (⟨l, q', w5, hok, rfl, hst5, hk5, rfl⟩ | ⟨n, a, hbad, rfl, hk5⟩)
  · obtain ⟨V, cl, h5⟩ := hst5.out
    obtain ⟨xa, xc, rfl, hrdo, hxc⟩ := own_shape h5.own
    have K15 := (hk5.out.block (w.heap.size + 1) (by omega) (by omega) (by omega)).trans K1'.out
    have hset : ∀ j, j ≠ g → (w5.setCell ⟨g, 3, none⟩ (.int .i64 ((o : Nat) : Int))).heap[j]? = w5.heap[j]? := fun j hj => Below.heap_setCell _ _ _ _ hj
    have HGV : Hid ((w5.setCell ⟨g, 3, none⟩ (.int .i64 ((o : Nat) : Int))).heap[w.heap.size + 1 + 1]? = some (.cells #[.int .i64 6, .bool false, .string ⟨#[]⟩, .slice none 0 0, .slice xa l.length xc] 26 (0, 0))) := Lib.hid ((hset _ (by omega)).trans h5.blk)
    have HGR : Hid ((w5.setCell ⟨g, 3, none⟩ (.int .i64 ((o : Nat) : Int))).heap[w.heap.size + 1]? = some (.cells #[.int .i64 0, .bool false, .string ⟨#[]⟩, .slice none 0 0, .slice none 0 0] 26 (0, 0))) := Lib.hid ((hset _ (by omega)).trans K15)
    have HR6 := Lib.hid (h5.rdr.op o)
    have HB6 : Hid (But g w (w5.setCell ⟨g, 3, none⟩ (.int .i64 ((o : Nat) : Int)))) := Lib.hid ((but_v (HB3.out.trans HB4.out) hk5.out (by omega) (by omega)).trans (But.setCell w5 g 3 _))
    have HREP : Hid (Rep (w.heap.size + 3 ≤ ·) (w5.setCell ⟨g, 3, none⟩ (.int .i64 ((o : Nat) : Int))) [.int .i64 6, .bool false, .string ⟨#[]⟩, .slice none 0 0, .slice xa l.length xc] (jobj l)) := Lib.hid ((show Rep (w.heap.size + 3 ≤ ·) w5 [.int .i64 6, .bool false, .string ⟨#[]⟩, .slice none 0 0, .slice xa l.length xc] (jobj l) from rep_of (k := 6) (y := false) (t := []) (l := []) (cl := []) (.inl rfl) (Reps.nil _ _) hrdo (h5.reps.mono fun _ h => h.1) (Nat.le_refl 0) hxc).keep fun k hk _ => hset k (by omega))
    have HE : Hid ((rowR (memR val) 125 [] (blankL (S.drop p).tail)).bind (fun l r => PR.ok (jobj l) r) = .ok (jobj l) (S.drop q')) := Lib.hid (by rw [HT.out, ← HQ.out, hok.out]; rfl)
    clear hset K15 h5 hrdo hok hst5 hk5 HST HmemR HB3 HB4 K1' b4
    generalize w5.setCell ⟨g, 3, none⟩ (.int .i64 ((o : Nat) : Int)) = w6 at *
    have v0 : w6.cell? ⟨w.heap.size + 1 + 1, 0, none⟩ = some (.int .i64 6) := by rw [Lib.cell_of_heap HGV.out]; rfl
    have v1 : w6.cell? ⟨w.heap.size + 1 + 1, 1, none⟩ = some (.bool false) := by rw [Lib.cell_of_heap HGV.out]; rfl
    have v2 : w6.cell? ⟨w.heap.size + 1 + 1, 2, none⟩ = some (.string ⟨#[]⟩) := by rw [Lib.cell_of_heap HGV.out]; rfl
    have v3 : w6.cell? ⟨w.heap.size + 1 + 1, 3, none⟩ = some (.slice none 0 0) := by rw [Lib.cell_of_heap HGV.out]; rfl
    have v4 : w6.cell? ⟨w.heap.size + 1 + 1, 4, none⟩ = some (.slice xa l.length xc) := by rw [Lib.cell_of_heap HGV.out]; rfl
    have d0 : w6.cell? ⟨w.heap.size + 1, 0, none⟩ = some (.int .i64 0) := by rw [Lib.cell_of_heap HGR.out]; rfl
    have f0 := Lib.frozen_of_heap HGR.out 0
    have d1 : w6.cell? ⟨w.heap.size + 1, 1, none⟩ = some (.bool false) := by rw [Lib.cell_of_heap HGR.out]; rfl
    have f1 := Lib.frozen_of_heap HGR.out 1
    have d2 : w6.cell? ⟨w.heap.size + 1, 2, none⟩ = some (.string ⟨#[]⟩) := by rw [Lib.cell_of_heap HGR.out]; rfl
    have f2 := Lib.frozen_of_heap HGR.out 2
    have d3 : w6.cell? ⟨w.heap.size + 1, 3, none⟩ = some (.slice none 0 0) := by rw [Lib.cell_of_heap HGR.out]; rfl
    have f3 := Lib.frozen_of_heap HGR.out 3
    have d4 : w6.cell? ⟨w.heap.size + 1, 4, none⟩ = some (.slice none 0 0) := by rw [Lib.cell_of_heap HGR.out]; rfl
    have f4 := Lib.frozen_of_heap HGR.out 4
    go_wp2_with fail
    have hst := value_stored HGR.out (.int .i64 6) (.bool false) (.string ⟨#[]⟩) (.slice none 0 0) (.slice xa l.length xc)
    have HRE := Lib.hid (HR6.out.stored (gv := w.heap.size + 1) (by omega) (.int .i64 6) (.bool false) (.string ⟨#[]⟩) (.slice none 0 0) (.slice xa l.length xc))
    have HBE := Lib.hid (but_stored (gv := w.heap.size + 1) HB6.out (by omega) (.int .i64 6) (.bool false) (.string ⟨#[]⟩) (.slice none 0 0) (.slice xa l.length xc))
    have HZ := Lib.hid (five_other w6 (w.heap.size + 1) (.int .i64 6) (.bool false) (.string ⟨#[]⟩) (.slice none 0 0) (.slice xa l.length xc))
    have e0 := Lib.cell_of_heap hst 0
    have e1 := Lib.cell_of_heap hst 1
    have e2 := Lib.cell_of_heap hst 2
    have e3 := Lib.cell_of_heap hst 3
    have e4 := Lib.cell_of_heap hst 4
    simp only [List.getElem?_toArray] at e0 e1 e2 e3 e4
    refine bodyPost_ret (v := .agg #[.int .i64 6, .bool false, .string ⟨#[]⟩, .slice none 0 0, .slice xa l.length xc]) (by simp [results, Tryz.results134, go_sem, e0, e1, e2, e3, e4]) rfl ?_
    exact ⟨HBE, .inl ⟨_, _, q', HE, rfl, Lib.hid ((HREP.out.keep fun k hk _ => HZ.out k (by omega)).mono fun k hk => by omega), HRE⟩⟩
  · have HE : Hid ((rowR (memR val) 125 [] (blankL (S.drop p).tail)).bind (fun l r => PR.ok (jobj l) r) = .bad n) := Lib.hid (by rw [HT.out, ← HQ.out, hbad.out]; rfl)
    have HB6 : Hid (But g w w6) := Lib.hid (but_v (HB3.out.trans HB4.out) hk5.out (by omega) (by omega))
    clear hbad hk5 HmemR HST
    go_wp2_with fail
    exact ⟨rfl, HB6, .inr ⟨n, a, HE, rfl⟩⟩
end Go.Proofs.YtfdijcdpmgkdkaaGreatDoor
set_option linter.unusedVariables false
namespace Go.Proofs.YtfdijcdpmgkdkaaGreatDoor
open Go.RowKit

set_option maxRecDepth 100000 in
theorem jbool_fn (b : Bool) (w : World) : Calls Tryz.prog 17 #[.bool b] w fun e w' => e = .returned (.agg #[.int .i64 2, .bool b, .string ⟨#[]⟩, .slice none 0 0, .slice none 0 0]) ∧ Below w.heap.size w w' := by
  go_enter Tryz.func17, Tryz.ntmps17
  go_wp2_with fail
  refine bodyPost_ret (v := .agg #[.int .i64 2, .bool b, .string ⟨#[]⟩, .slice none 0 0, .slice none 0 0]) (by simp [results, Tryz.results17, go_sem]) rfl ?_
  exact ⟨rfl, (Below.refl _ _).alloc (Nat.le_refl _) _⟩
set_option maxRecDepth 100000 in
theorem jstr_fn (t : List UInt8) (w : World) : Calls Tryz.prog 13 #[.string ⟨t.toArray⟩] w fun e w' => e = .returned (.agg #[.int .i64 4, .bool false, .string ⟨t.toArray⟩, .slice none 0 0, .slice none 0 0]) ∧ Below w.heap.size w w' := by
  go_enter Tryz.func13, Tryz.ntmps13
  go_wp2_with fail
  refine bodyPost_ret (v := .agg #[.int .i64 4, .bool false, .string ⟨t.toArray⟩, .slice none 0 0, .slice none 0 0]) (by simp [results, Tryz.results13, go_sem]) rfl ?_
  exact ⟨rfl, (Below.refl _ _).alloc (Nat.le_refl _) _⟩
set_option maxRecDepth 100000 in
set_option maxHeartbeats 8000000 in
theorem jarray_deep (g : Nat) (S : List UInt8) (p d : Nat) (w : World) (h : Rdr w g S p d d) :
    Calls Tryz.prog 133 #[.pointer (some ⟨g, 0, none⟩)] w fun e w' => But g w w' ∧ ∃ a, e = .panicked (thrown 32 a) := by
  have hgl := h.lt
  have HR := Lib.hid h
  clear h
  go_enter Tryz.func133, Tryz.ntmps133
  go_upto_region 2 with (fail)
  obtain ⟨k0, k1, k2, hs3, hb3⟩ := alloc3 w (.cells #[.pointer (some ⟨g, 0, none⟩)] 89) (.cells #[.int .i64 0, .bool false, .string ⟨#[]⟩, .slice none 0 0, .slice none 0 0] 26) (.cells #[.int .i64 5, .bool false, .string ⟨#[]⟩, .slice none 0 0, .slice none 0 0] 26)
  generalize ((w.alloc _).alloc _).alloc _ = w3 at *
  have HB3 : Hid (But g w w3) := Lib.hid ⟨hb3.os, hb3.tape, hb3.output, hb3.size, fun k hk _ => hb3.block k hk⟩
  have HR3 : Hid (Rdr w3 g S p d d) := Lib.hid ⟨(hb3.block g hgl).trans HR.out.heap, HR.out.le⟩
  have b0 : w3.cell? ⟨w.heap.size, 0, none⟩ = some (.pointer (some ⟨g, 0, none⟩)) := by rw [Lib.cell_of_heap k0]; rfl
  clear k0 k1 k2 hb3 HR
  go_wp2_with fail
  refine (jenter_deep g S p d 91 w3 HR3.out).mono ?_
  rintro e w4 ⟨hb4, a, rfl⟩
  have HB4 := Lib.hid (HB3.out.trans hb4)
  clear hb4
  go_wp2_with fail
  exact ⟨rfl, HB4.out, a, rfl⟩
set_option maxRecDepth 100000 in
set_option maxHeartbeats 8000000 in
theorem jobject_deep (g : Nat) (S : List UInt8) (p d : Nat) (w : World) (h : Rdr w g S p d d) :
    Calls Tryz.prog 134 #[.pointer (some ⟨g, 0, none⟩)] w fun e w' => But g w w' ∧ ∃ a, e = .panicked (thrown 32 a) := by
  have hgl := h.lt
  have HR := Lib.hid h
  clear h
  go_enter Tryz.func134, Tryz.ntmps134
  go_upto_region 2 with (fail)
  obtain ⟨k0, k1, k2, hs3, hb3⟩ := alloc3 w (.cells #[.pointer (some ⟨g, 0, none⟩)] 89) (.cells #[.int .i64 0, .bool false, .string ⟨#[]⟩, .slice none 0 0, .slice none 0 0] 26) (.cells #[.int .i64 6, .bool false, .string ⟨#[]⟩, .slice none 0 0, .slice none 0 0] 26)
  generalize ((w.alloc _).alloc _).alloc _ = w3 at *
  have HB3 : Hid (But g w w3) := Lib.hid ⟨hb3.os, hb3.tape, hb3.output, hb3.size, fun k hk _ => hb3.block k hk⟩
  have HR3 : Hid (Rdr w3 g S p d d) := Lib.hid ⟨(hb3.block g hgl).trans HR.out.heap, HR.out.le⟩
  have b0 : w3.cell? ⟨w.heap.size, 0, none⟩ = some (.pointer (some ⟨g, 0, none⟩)) := by rw [Lib.cell_of_heap k0]; rfl
  clear k0 k1 k2 hb3 HR
  go_wp2_with fail
  refine (jenter_deep g S p d 123 w3 HR3.out).mono ?_
  rintro e w4 ⟨hb4, a, rfl⟩
  have HB4 := Lib.hid (HB3.out.trans hb4)
  clear hb4
  go_wp2_with fail
  exact ⟨rfl, HB4.out, a, rfl⟩
theorem valA0 {r : List UInt8} (h : peekL r = 91) : valR 0 r = .bad 32 := by
  unfold valR
  rw [h]
  rfl
theorem valA {dd : Nat} {r : List UInt8} (h : peekL r = 91) : valR (dd + 1) r = (rowR (arrR (valR dd)) 93 [] (blankL r.tail)).bind fun l r => .ok (jarr l) r := by
  rw [valR]
  rw [h]
  rfl
theorem valO0 {r : List UInt8} (h : peekL r = 123) : valR 0 r = .bad 32 := by
  unfold valR
  rw [h]
  rfl
theorem valO {dd : Nat} {r : List UInt8} (h : peekL r = 123) : valR (dd + 1) r = (rowR (memR (valR dd)) 125 [] (blankL r.tail)).bind fun l r => .ok (jobj l) r := by
  rw [valR]
  rw [h]
  rfl
set_option maxRecDepth 100000 in
set_option maxHeartbeats 32000000 in
theorem jvalue_any (g : Nat) (S : List UInt8) (d : Nat) (hl : S.length ≤ 1000000) (hd : d ≤ 1000) : ∀ dd o, o + dd = d → ValC (valR dd) g S d o := by
  intro dd
  induction dd using Nat.strongRecOn with
  | _ dd ih =>
    intro o ho p w h
    have hgl := h.lt
    obtain ⟨c, hc⟩ : ∃ c, peekL (S.drop p) = c := ⟨_, rfl⟩
    have HR := Lib.hid h
    have HC := Lib.hid hc
    have hval : valR dd (S.drop p) = valR dd (S.drop p) := rfl
    conv at hval => rhs; unfold valR
    rw [hc] at hval
    have HV0 := Lib.hid hval
    clear h hc hval
    go_enter Tryz.func96, Tryz.ntmps96
    go_upto_region 1 with (fail)
    have hb1 : Below w.heap.size w (w.alloc (.cells #[.int .i64 0, .bool false, .string ⟨#[]⟩, .slice none 0 0, .slice none 0 0] 26)) := (Below.refl _ _).alloc (Nat.le_refl _) _
    have hg1 := heap_alloc_new w (.cells #[.int .i64 0, .bool false, .string ⟨#[]⟩, .slice none 0 0, .slice none 0 0] 26)
    generalize w.alloc _ = w1 at *
    have HB1 : Hid (But g w w1) := Lib.hid ⟨hb1.os, hb1.tape, hb1.output, hb1.size, fun k hk _ => hb1.block k hk⟩
    have HR1 : Hid (Rdr w1 g S p d o) := Lib.hid ⟨(hb1.block g hgl).trans HR.out.heap, HR.out.le⟩
    have HG1 := Lib.hid hg1
    have hgrl : w.heap.size < w1.heap.size := (Array.getElem?_eq_some_iff.1 hg1).1
    have hgne : w.heap.size ≠ g := by omega
    have HPK := Lib.hid (jpeek_any g S p d o c w1 HR1.out hl HC.out)
    clear hb1 hg1 HR
    by_cases h110 : c = 110
    · have hci : c = 110 := h110
      have HE : Hid (valR dd (S.drop p) = (wordR [110, 117, 108, 108] (S.drop p)).bind fun _ r => PR.ok jnull r) := Lib.hid (HV0.out.trans (by rw [hci]; rfl))
      clear HV0 h110
      have t110 : (((c.toNat : Nat) : Int) == 110) = true := by rw [hci]; rfl
      clear hci
      go_wp2_with fail
      refine HPK.out.mono ?_
      rintro e w2 ⟨rfl, hr2, hb2⟩
      have HR2 := Lib.hid hr2
      have HB2 := Lib.hid (HB1.out.trans hb2)
      have HG2 := Lib.hid ((hb2.block _ hgrl hgne).trans HG1.out)
      have hs2 : w.heap.size < w2.heap.size := Nat.lt_of_lt_of_le hgrl hb2.size
      have hpl2 := hr2.le
      clear hr2 hb2 HPK
      have HW := Lib.hid (jword_any g S [110, 117, 108, 108] p d o w2 HR2.out hl (by decide) (by decide))
      go_wp2_with fail
      refine HW.out.mono ?_
      rintro e w3 ⟨hb3, ⟨q, h3, rfl, hr3⟩ | ⟨n, a, h3, rfl⟩⟩
      · have HEY : Hid (valR dd (S.drop p) = .ok jnull (S.drop q)) := Lib.hid (by rw [HE.out, h3]; rfl)
        have HRZ := Lib.hid hr3
        have HBZ := Lib.hid (HB2.out.trans hb3)
        have HGZ := Lib.hid ((hb3.block _ hs2 hgne).trans HG2.out)
        clear h3 hb3 hr3 HW
        have d0 : w3.cell? ⟨w.heap.size, 0, none⟩ = some (.int .i64 0) := by rw [Lib.cell_of_heap HGZ.out]; rfl
        have f0 := Lib.frozen_of_heap HGZ.out 0
        have d1 : w3.cell? ⟨w.heap.size, 1, none⟩ = some (.bool false) := by rw [Lib.cell_of_heap HGZ.out]; rfl
        have f1 := Lib.frozen_of_heap HGZ.out 1
        have d2 : w3.cell? ⟨w.heap.size, 2, none⟩ = some (.string ⟨#[]⟩) := by rw [Lib.cell_of_heap HGZ.out]; rfl
        have f2 := Lib.frozen_of_heap HGZ.out 2
        have d3 : w3.cell? ⟨w.heap.size, 3, none⟩ = some (.slice none 0 0) := by rw [Lib.cell_of_heap HGZ.out]; rfl
        have f3 := Lib.frozen_of_heap HGZ.out 3
        have d4 : w3.cell? ⟨w.heap.size, 4, none⟩ = some (.slice none 0 0) := by rw [Lib.cell_of_heap HGZ.out]; rfl
        have f4 := Lib.frozen_of_heap HGZ.out 4
        go_wp2_with fail
        have hst := value_stored HGZ.out (.int .i64 1) (.bool false) (.string ⟨#[]⟩) (.slice none 0 0) (.slice none 0 0)
        have HRE := Lib.hid (HRZ.out.stored (gv := w.heap.size) (by omega) (.int .i64 1) (.bool false) (.string ⟨#[]⟩) (.slice none 0 0) (.slice none 0 0))
        have HBE := Lib.hid (but_stored (gv := w.heap.size) HBZ.out (Nat.le_refl _) (.int .i64 1) (.bool false) (.string ⟨#[]⟩) (.slice none 0 0) (.slice none 0 0))
        have HOT := Lib.hid (five_other w3 w.heap.size (.int .i64 1) (.bool false) (.string ⟨#[]⟩) (.slice none 0 0) (.slice none 0 0))
        have e0 := Lib.cell_of_heap hst 0
        have e1 := Lib.cell_of_heap hst 1
        have e2 := Lib.cell_of_heap hst 2
        have e3 := Lib.cell_of_heap hst 3
        have e4 := Lib.cell_of_heap hst 4
        simp only [List.getElem?_toArray] at e0 e1 e2 e3 e4
        refine bodyPost_ret (v := .agg #[.int .i64 1, .bool false, .string ⟨#[]⟩, .slice none 0 0, .slice none 0 0]) (by simp [results, Tryz.results96, go_sem, e0, e1, e2, e3, e4]) rfl ?_
        exact ⟨HBE, .inl ⟨_, jnull, q, HEY, rfl, Lib.hid (Rep.leaf _ _ 1 false []), HRE⟩⟩
      · have HEY : Hid (valR dd (S.drop p) = .bad n) := Lib.hid (by rw [HE.out, h3]; rfl)
        have HBY := Lib.hid (HB2.out.trans hb3)
        clear h3 hb3 HW
        go_wp2_with fail
        exact ⟨rfl, HBY, .inr ⟨n, a, HEY, rfl⟩⟩
    by_cases h116 : c = 116
    · have hci : c = 116 := h116
      have HE : Hid (valR dd (S.drop p) = (wordR [116, 114, 117, 101] (S.drop p)).bind fun _ r => PR.ok (jbool true) r) := Lib.hid (HV0.out.trans (by rw [hci]; rfl))
      clear HV0 h110 h116
      have t110 : (((c.toNat : Nat) : Int) == 110) = false := by rw [hci]; rfl
      have t116 : (((c.toNat : Nat) : Int) == 116) = true := by rw [hci]; rfl
      clear hci
      go_wp2_with fail
      refine HPK.out.mono ?_
      rintro e w2 ⟨rfl, hr2, hb2⟩
      have HR2 := Lib.hid hr2
      have HB2 := Lib.hid (HB1.out.trans hb2)
      have HG2 := Lib.hid ((hb2.block _ hgrl hgne).trans HG1.out)
      have hs2 : w.heap.size < w2.heap.size := Nat.lt_of_lt_of_le hgrl hb2.size
      have hpl2 := hr2.le
      clear hr2 hb2 HPK
      have HW := Lib.hid (jword_any g S [116, 114, 117, 101] p d o w2 HR2.out hl (by decide) (by decide))
      go_wp2_with fail
      refine HW.out.mono ?_
      rintro e w3 ⟨hb3, ⟨q, h3, rfl, hr3⟩ | ⟨n, a, h3, rfl⟩⟩
      · have HEY : Hid (valR dd (S.drop p) = .ok (jbool true) (S.drop q)) := Lib.hid (by rw [HE.out, h3]; rfl)
        have HRZ := Lib.hid hr3
        have HBZ := Lib.hid (HB2.out.trans hb3)
        have HGZ := Lib.hid ((hb3.block _ hs2 hgne).trans HG2.out)
        clear h3 hb3 hr3 HW
        go_wp2_with fail
        refine (jbool_fn true w3).mono ?_
        rintro e w4 ⟨rfl, hb4⟩
        have HRY := Lib.hid (show Rdr w4 g S q d o from ⟨(hb4.block g (by have := HBZ.out.size; omega)).trans HRZ.out.heap, HRZ.out.le⟩)
        have HBY := Lib.hid (HBZ.out.trans ⟨hb4.os, hb4.tape, hb4.output, hb4.size, fun k hk _ => hb4.block k hk⟩)
        have HGY := Lib.hid ((hb4.block _ (by have := HBZ.out.size; have := (Array.getElem?_eq_some_iff.1 HGZ.out).1; omega)).trans HGZ.out)
        clear hb4
        have d0 : w4.cell? ⟨w.heap.size, 0, none⟩ = some (.int .i64 0) := by rw [Lib.cell_of_heap HGY.out]; rfl
        have f0 := Lib.frozen_of_heap HGY.out 0
        have d1 : w4.cell? ⟨w.heap.size, 1, none⟩ = some (.bool false) := by rw [Lib.cell_of_heap HGY.out]; rfl
        have f1 := Lib.frozen_of_heap HGY.out 1
        have d2 : w4.cell? ⟨w.heap.size, 2, none⟩ = some (.string ⟨#[]⟩) := by rw [Lib.cell_of_heap HGY.out]; rfl
        have f2 := Lib.frozen_of_heap HGY.out 2
        have d3 : w4.cell? ⟨w.heap.size, 3, none⟩ = some (.slice none 0 0) := by rw [Lib.cell_of_heap HGY.out]; rfl
        have f3 := Lib.frozen_of_heap HGY.out 3
        have d4 : w4.cell? ⟨w.heap.size, 4, none⟩ = some (.slice none 0 0) := by rw [Lib.cell_of_heap HGY.out]; rfl
        have f4 := Lib.frozen_of_heap HGY.out 4
        go_wp2_with fail
        have hst := value_stored HGY.out (.int .i64 2) (.bool true) (.string ⟨#[]⟩) (.slice none 0 0) (.slice none 0 0)
        have HRE := Lib.hid (HRY.out.stored (gv := w.heap.size) (by omega) (.int .i64 2) (.bool true) (.string ⟨#[]⟩) (.slice none 0 0) (.slice none 0 0))
        have HBE := Lib.hid (but_stored (gv := w.heap.size) HBY.out (Nat.le_refl _) (.int .i64 2) (.bool true) (.string ⟨#[]⟩) (.slice none 0 0) (.slice none 0 0))
        have HOT := Lib.hid (five_other w4 w.heap.size (.int .i64 2) (.bool true) (.string ⟨#[]⟩) (.slice none 0 0) (.slice none 0 0))
        have e0 := Lib.cell_of_heap hst 0
        have e1 := Lib.cell_of_heap hst 1
        have e2 := Lib.cell_of_heap hst 2
        have e3 := Lib.cell_of_heap hst 3
        have e4 := Lib.cell_of_heap hst 4
        simp only [List.getElem?_toArray] at e0 e1 e2 e3 e4
        refine bodyPost_ret (v := .agg #[.int .i64 2, .bool true, .string ⟨#[]⟩, .slice none 0 0, .slice none 0 0]) (by simp [results, Tryz.results96, go_sem, e0, e1, e2, e3, e4]) rfl ?_
        exact ⟨HBE, .inl ⟨_, (jbool true), q, HEY, rfl, Lib.hid (Rep.leaf _ _ 2 true []), HRE⟩⟩
      · have HEY : Hid (valR dd (S.drop p) = .bad n) := Lib.hid (by rw [HE.out, h3]; rfl)
        have HBY := Lib.hid (HB2.out.trans hb3)
        clear h3 hb3 HW
        go_wp2_with fail
        exact ⟨rfl, HBY, .inr ⟨n, a, HEY, rfl⟩⟩
    by_cases h102 : c = 102
    · have hci : c = 102 := h102
      have HE : Hid (valR dd (S.drop p) = (wordR [102, 97, 108, 115, 101] (S.drop p)).bind fun _ r => PR.ok (jbool false) r) := Lib.hid (HV0.out.trans (by rw [hci]; rfl))
      clear HV0 h110 h116 h102
      have t110 : (((c.toNat : Nat) : Int) == 110) = false := by rw [hci]; rfl
      have t116 : (((c.toNat : Nat) : Int) == 116) = false := by rw [hci]; rfl
      have t102 : (((c.toNat : Nat) : Int) == 102) = true := by rw [hci]; rfl
      clear hci
      go_wp2_with fail
      refine HPK.out.mono ?_
      rintro e w2 ⟨rfl, hr2, hb2⟩
      have HR2 := Lib.hid hr2
      have HB2 := Lib.hid (HB1.out.trans hb2)
      have HG2 := Lib.hid ((hb2.block _ hgrl hgne).trans HG1.out)
      have hs2 : w.heap.size < w2.heap.size := Nat.lt_of_lt_of_le hgrl hb2.size
      have hpl2 := hr2.le
      clear hr2 hb2 HPK
      have HW := Lib.hid (jword_any g S [102, 97, 108, 115, 101] p d o w2 HR2.out hl (by decide) (by decide))
      go_wp2_with fail
      refine HW.out.mono ?_
      rintro e w3 ⟨hb3, ⟨q, h3, rfl, hr3⟩ | ⟨n, a, h3, rfl⟩⟩
      · have HEY : Hid (valR dd (S.drop p) = .ok (jbool false) (S.drop q)) := Lib.hid (by rw [HE.out, h3]; rfl)
        have HRZ := Lib.hid hr3
        have HBZ := Lib.hid (HB2.out.trans hb3)
        have HGZ := Lib.hid ((hb3.block _ hs2 hgne).trans HG2.out)
        clear h3 hb3 hr3 HW
        go_wp2_with fail
        refine (jbool_fn false w3).mono ?_
        rintro e w4 ⟨rfl, hb4⟩
        have HRY := Lib.hid (show Rdr w4 g S q d o from ⟨(hb4.block g (by have := HBZ.out.size; omega)).trans HRZ.out.heap, HRZ.out.le⟩)
        have HBY := Lib.hid (HBZ.out.trans ⟨hb4.os, hb4.tape, hb4.output, hb4.size, fun k hk _ => hb4.block k hk⟩)
        have HGY := Lib.hid ((hb4.block _ (by have := HBZ.out.size; have := (Array.getElem?_eq_some_iff.1 HGZ.out).1; omega)).trans HGZ.out)
        clear hb4
        have d0 : w4.cell? ⟨w.heap.size, 0, none⟩ = some (.int .i64 0) := by rw [Lib.cell_of_heap HGY.out]; rfl
        have f0 := Lib.frozen_of_heap HGY.out 0
        have d1 : w4.cell? ⟨w.heap.size, 1, none⟩ = some (.bool false) := by rw [Lib.cell_of_heap HGY.out]; rfl
        have f1 := Lib.frozen_of_heap HGY.out 1
        have d2 : w4.cell? ⟨w.heap.size, 2, none⟩ = some (.string ⟨#[]⟩) := by rw [Lib.cell_of_heap HGY.out]; rfl
        have f2 := Lib.frozen_of_heap HGY.out 2
        have d3 : w4.cell? ⟨w.heap.size, 3, none⟩ = some (.slice none 0 0) := by rw [Lib.cell_of_heap HGY.out]; rfl
        have f3 := Lib.frozen_of_heap HGY.out 3
        have d4 : w4.cell? ⟨w.heap.size, 4, none⟩ = some (.slice none 0 0) := by rw [Lib.cell_of_heap HGY.out]; rfl
        have f4 := Lib.frozen_of_heap HGY.out 4
        go_wp2_with fail
        have hst := value_stored HGY.out (.int .i64 2) (.bool false) (.string ⟨#[]⟩) (.slice none 0 0) (.slice none 0 0)
        have HRE := Lib.hid (HRY.out.stored (gv := w.heap.size) (by omega) (.int .i64 2) (.bool false) (.string ⟨#[]⟩) (.slice none 0 0) (.slice none 0 0))
        have HBE := Lib.hid (but_stored (gv := w.heap.size) HBY.out (Nat.le_refl _) (.int .i64 2) (.bool false) (.string ⟨#[]⟩) (.slice none 0 0) (.slice none 0 0))
        have HOT := Lib.hid (five_other w4 w.heap.size (.int .i64 2) (.bool false) (.string ⟨#[]⟩) (.slice none 0 0) (.slice none 0 0))
        have e0 := Lib.cell_of_heap hst 0
        have e1 := Lib.cell_of_heap hst 1
        have e2 := Lib.cell_of_heap hst 2
        have e3 := Lib.cell_of_heap hst 3
        have e4 := Lib.cell_of_heap hst 4
        simp only [List.getElem?_toArray] at e0 e1 e2 e3 e4
        refine bodyPost_ret (v := .agg #[.int .i64 2, .bool false, .string ⟨#[]⟩, .slice none 0 0, .slice none 0 0]) (by simp [results, Tryz.results96, go_sem, e0, e1, e2, e3, e4]) rfl ?_
        exact ⟨HBE, .inl ⟨_, (jbool false), q, HEY, rfl, Lib.hid (Rep.leaf _ _ 2 false []), HRE⟩⟩
      · have HEY : Hid (valR dd (S.drop p) = .bad n) := Lib.hid (by rw [HE.out, h3]; rfl)
        have HBY := Lib.hid (HB2.out.trans hb3)
        clear h3 hb3 HW
        go_wp2_with fail
        exact ⟨rfl, HBY, .inr ⟨n, a, HEY, rfl⟩⟩
    by_cases h34 : c = 34
    · have hci : c = 34 := h34
      have HE : Hid (valR dd (S.drop p) = (textR (S.drop p)).bind fun t r => PR.ok (jstr t) r) := Lib.hid (HV0.out.trans (by rw [hci]; rfl))
      clear HV0 h110 h116 h102 h34
      have t110 : (((c.toNat : Nat) : Int) == 110) = false := by rw [hci]; rfl
      have t116 : (((c.toNat : Nat) : Int) == 116) = false := by rw [hci]; rfl
      have t102 : (((c.toNat : Nat) : Int) == 102) = false := by rw [hci]; rfl
      have t34 : (((c.toNat : Nat) : Int) == 34) = true := by rw [hci]; rfl
      clear hci
      go_wp2_with fail
      refine HPK.out.mono ?_
      rintro e w2 ⟨rfl, hr2, hb2⟩
      have HR2 := Lib.hid hr2
      have HB2 := Lib.hid (HB1.out.trans hb2)
      have HG2 := Lib.hid ((hb2.block _ hgrl hgne).trans HG1.out)
      have hs2 : w.heap.size < w2.heap.size := Nat.lt_of_lt_of_le hgrl hb2.size
      have hpl2 := hr2.le
      clear hr2 hb2 HPK
      have HW := Lib.hid (jtext_any g S p d o w2 HR2.out hl)
      go_wp2_with fail
      refine HW.out.mono ?_
      rintro e w3 ⟨hb3, ⟨t, q, h3, rfl, hr3⟩ | ⟨n, a, h3, rfl⟩⟩
      · have HEY : Hid (valR dd (S.drop p) = .ok (jstr t) (S.drop q)) := Lib.hid (by rw [HE.out, h3.out]; rfl)
        have HRZ := hr3
        have HBZ := Lib.hid (HB2.out.trans hb3.out)
        have HGZ := Lib.hid ((hb3.out.block _ hs2 hgne).trans HG2.out)
        clear h3 hb3 hr3 HW
        go_wp2_with fail
        refine (jstr_fn t w3).mono ?_
        rintro e w4 ⟨rfl, hb4⟩
        have HRY := Lib.hid (show Rdr w4 g S q d o from ⟨(hb4.block g (by have := HBZ.out.size; omega)).trans HRZ.out.heap, HRZ.out.le⟩)
        have HBY := Lib.hid (HBZ.out.trans ⟨hb4.os, hb4.tape, hb4.output, hb4.size, fun k hk _ => hb4.block k hk⟩)
        have HGY := Lib.hid ((hb4.block _ (by have := HBZ.out.size; have := (Array.getElem?_eq_some_iff.1 HGZ.out).1; omega)).trans HGZ.out)
        clear hb4
        have d0 : w4.cell? ⟨w.heap.size, 0, none⟩ = some (.int .i64 0) := by rw [Lib.cell_of_heap HGY.out]; rfl
        have f0 := Lib.frozen_of_heap HGY.out 0
        have d1 : w4.cell? ⟨w.heap.size, 1, none⟩ = some (.bool false) := by rw [Lib.cell_of_heap HGY.out]; rfl
        have f1 := Lib.frozen_of_heap HGY.out 1
        have d2 : w4.cell? ⟨w.heap.size, 2, none⟩ = some (.string ⟨#[]⟩) := by rw [Lib.cell_of_heap HGY.out]; rfl
        have f2 := Lib.frozen_of_heap HGY.out 2
        have d3 : w4.cell? ⟨w.heap.size, 3, none⟩ = some (.slice none 0 0) := by rw [Lib.cell_of_heap HGY.out]; rfl
        have f3 := Lib.frozen_of_heap HGY.out 3
        have d4 : w4.cell? ⟨w.heap.size, 4, none⟩ = some (.slice none 0 0) := by rw [Lib.cell_of_heap HGY.out]; rfl
        have f4 := Lib.frozen_of_heap HGY.out 4
        go_wp2_with fail
        have hst := value_stored HGY.out (.int .i64 4) (.bool false) (.string ⟨t.toArray⟩) (.slice none 0 0) (.slice none 0 0)
        have HRE := Lib.hid (HRY.out.stored (gv := w.heap.size) (by omega) (.int .i64 4) (.bool false) (.string ⟨t.toArray⟩) (.slice none 0 0) (.slice none 0 0))
        have HBE := Lib.hid (but_stored (gv := w.heap.size) HBY.out (Nat.le_refl _) (.int .i64 4) (.bool false) (.string ⟨t.toArray⟩) (.slice none 0 0) (.slice none 0 0))
        have HOT := Lib.hid (five_other w4 w.heap.size (.int .i64 4) (.bool false) (.string ⟨t.toArray⟩) (.slice none 0 0) (.slice none 0 0))
        have e0 := Lib.cell_of_heap hst 0
        have e1 := Lib.cell_of_heap hst 1
        have e2 := Lib.cell_of_heap hst 2
        have e3 := Lib.cell_of_heap hst 3
        have e4 := Lib.cell_of_heap hst 4
        simp only [List.getElem?_toArray] at e0 e1 e2 e3 e4
        refine bodyPost_ret (v := .agg #[.int .i64 4, .bool false, .string ⟨t.toArray⟩, .slice none 0 0, .slice none 0 0]) (by simp [results, Tryz.results96, go_sem, e0, e1, e2, e3, e4]) rfl ?_
        exact ⟨HBE, .inl ⟨_, (jstr t), q, HEY, rfl, Lib.hid (Rep.leaf _ _ 4 false t), HRE⟩⟩
      · have HEY : Hid (valR dd (S.drop p) = .bad n) := Lib.hid (by rw [HE.out, h3.out]; rfl)
        have HBY := Lib.hid (HB2.out.trans hb3.out)
        clear h3 hb3 HW
        go_wp2_with fail
        exact ⟨rfl, HBY, .inr ⟨n, a, HEY, rfl⟩⟩
    by_cases h91 : c = 91
    · have hci : c = 91 := h91
      have HCI := Lib.hid hci
      clear HV0 h110 h116 h102 h34 h91
      have t110 : (((c.toNat : Nat) : Int) == 110) = false := by rw [hci]; rfl
      have t116 : (((c.toNat : Nat) : Int) == 116) = false := by rw [hci]; rfl
      have t102 : (((c.toNat : Nat) : Int) == 102) = false := by rw [hci]; rfl
      have t34 : (((c.toNat : Nat) : Int) == 34) = false := by rw [hci]; rfl
      have t91 : (((c.toNat : Nat) : Int) == 91) = true := by rw [hci]; rfl
      go_wp2_with fail
      refine HPK.out.mono ?_
      rintro e w2 ⟨rfl, hr2, hb2⟩
      have HR2 := Lib.hid hr2
      have HB2 := Lib.hid (HB1.out.trans hb2)
      have HG2 := Lib.hid ((hb2.block _ hgrl hgne).trans HG1.out)
      have hs2 : w.heap.size < w2.heap.size := Nat.lt_of_lt_of_le hgrl hb2.size
      have hpl2 := hr2.le
      clear hr2 hb2 HPK
      cases dd with
      | zero =>
        have hod : o = d := by omega
        subst hod
        have HW := Lib.hid (jarray_deep g S p o w2 HR2.out)
        clear hci
        go_wp2_with fail
        refine HW.out.mono ?_
        rintro e w3 ⟨hb3, a, rfl⟩
        have HEY : Hid (valR 0 (S.drop p) = .bad 32) := Lib.hid (valA0 (HC.out.trans HCI.out))
        have HBY := Lib.hid (HB2.out.trans hb3)
        clear hb3 HW
        go_wp2_with fail
        exact ⟨rfl, HBY, .inr ⟨32, a, HEY, rfl⟩⟩
      | succ dd =>
        have HW := Lib.hid (jarray_any (valR dd) (val_short dd) g S p d o (ih dd (by omega) (o + 1) (by omega)) hl (by omega) hd w2 HR2.out (HC.out.trans hci))
        clear hci
        go_wp2_with fail
        refine HW.out.mono ?_
        rintro e w3 ⟨hb3, ⟨cs, v, q, h3, rfl, hrep, hr3⟩ | ⟨n, a, h3, rfl⟩⟩
        · have HEY : Hid (valR (dd + 1) (S.drop p) = .ok v (S.drop q)) := Lib.hid (by rw [valA (HC.out.trans HCI.out)]; exact h3.out)
          obtain ⟨ya, yc, ya', yc', _, _, rfl, -⟩ := hrep.out.parts
          unfold strV at *
          have HRZ := hr3
          have HBZ := Lib.hid (HB2.out.trans hb3.out)
          have HGZ := Lib.hid ((hb3.out.block _ hs2 hgne).trans HG2.out)
          clear h3 hb3 hr3 HW
          have d0 : w3.cell? ⟨w.heap.size, 0, none⟩ = some (.int .i64 0) := by rw [Lib.cell_of_heap HGZ.out]; rfl
          have f0 := Lib.frozen_of_heap HGZ.out 0
          have d1 : w3.cell? ⟨w.heap.size, 1, none⟩ = some (.bool false) := by rw [Lib.cell_of_heap HGZ.out]; rfl
          have f1 := Lib.frozen_of_heap HGZ.out 1
          have d2 : w3.cell? ⟨w.heap.size, 2, none⟩ = some (.string ⟨#[]⟩) := by rw [Lib.cell_of_heap HGZ.out]; rfl
          have f2 := Lib.frozen_of_heap HGZ.out 2
          have d3 : w3.cell? ⟨w.heap.size, 3, none⟩ = some (.slice none 0 0) := by rw [Lib.cell_of_heap HGZ.out]; rfl
          have f3 := Lib.frozen_of_heap HGZ.out 3
          have d4 : w3.cell? ⟨w.heap.size, 4, none⟩ = some (.slice none 0 0) := by rw [Lib.cell_of_heap HGZ.out]; rfl
          have f4 := Lib.frozen_of_heap HGZ.out 4
          go_wp2_with fail
          have hst := value_stored HGZ.out (.int .i64 v.kind) (.bool v.yes) (.string ⟨v.text.toArray⟩) (.slice ya v.list.length yc) (.slice ya' v.mem.length yc')
          have HRE := Lib.hid (HRZ.out.stored (gv := w.heap.size) (by omega) (.int .i64 v.kind) (.bool v.yes) (.string ⟨v.text.toArray⟩) (.slice ya v.list.length yc) (.slice ya' v.mem.length yc'))
          have HBE := Lib.hid (but_stored (gv := w.heap.size) HBZ.out (Nat.le_refl _) (.int .i64 v.kind) (.bool v.yes) (.string ⟨v.text.toArray⟩) (.slice ya v.list.length yc) (.slice ya' v.mem.length yc'))
          have HOT := Lib.hid (five_other w3 w.heap.size (.int .i64 v.kind) (.bool v.yes) (.string ⟨v.text.toArray⟩) (.slice ya v.list.length yc) (.slice ya' v.mem.length yc'))
          have e0 := Lib.cell_of_heap hst 0
          have e1 := Lib.cell_of_heap hst 1
          have e2 := Lib.cell_of_heap hst 2
          have e3 := Lib.cell_of_heap hst 3
          have e4 := Lib.cell_of_heap hst 4
          simp only [List.getElem?_toArray] at e0 e1 e2 e3 e4
          refine bodyPost_ret (v := .agg #[.int .i64 v.kind, .bool v.yes, .string ⟨v.text.toArray⟩, .slice ya v.list.length yc, .slice ya' v.mem.length yc']) (by simp [results, Tryz.results96, go_sem, e0, e1, e2, e3, e4]) rfl ?_
          exact ⟨HBE, .inl ⟨_, v, q, HEY, rfl, Lib.hid ((hrep.out.keep fun k hk _ => HOT.out k (by omega)).mono fun k hk => by omega), HRE⟩⟩
        · have HEY : Hid (valR (dd + 1) (S.drop p) = .bad n) := Lib.hid (by rw [valA (HC.out.trans HCI.out)]; exact h3.out)
          have HBY := Lib.hid (HB2.out.trans hb3.out)
          clear h3 hb3 HW
          go_wp2_with fail
          exact ⟨rfl, HBY, .inr ⟨n, a, HEY, rfl⟩⟩
    by_cases h123 : c = 123
    · have hci : c = 123 := h123
      have HCI := Lib.hid hci
      clear HV0 h110 h116 h102 h34 h91 h123
      have t110 : (((c.toNat : Nat) : Int) == 110) = false := by rw [hci]; rfl
      have t116 : (((c.toNat : Nat) : Int) == 116) = false := by rw [hci]; rfl
      have t102 : (((c.toNat : Nat) : Int) == 102) = false := by rw [hci]; rfl
      have t34 : (((c.toNat : Nat) : Int) == 34) = false := by rw [hci]; rfl
      have t91 : (((c.toNat : Nat) : Int) == 91) = false := by rw [hci]; rfl
      have t123 : (((c.toNat : Nat) : Int) == 123) = true := by rw [hci]; rfl
      go_wp2_with fail
      refine HPK.out.mono ?_
      rintro e w2 ⟨rfl, hr2, hb2⟩
      have HR2 := Lib.hid hr2
      have HB2 := Lib.hid (HB1.out.trans hb2)
      have HG2 := Lib.hid ((hb2.block _ hgrl hgne).trans HG1.out)
      have hs2 : w.heap.size < w2.heap.size := Nat.lt_of_lt_of_le hgrl hb2.size
      have hpl2 := hr2.le
      clear hr2 hb2 HPK
      cases dd with
      | zero =>
        have hod : o = d := by omega
        subst hod
        have HW := Lib.hid (jobject_deep g S p o w2 HR2.out)
        clear hci
        go_wp2_with fail
        refine HW.out.mono ?_
        rintro e w3 ⟨hb3, a, rfl⟩
        have HEY : Hid (valR 0 (S.drop p) = .bad 32) := Lib.hid (valO0 (HC.out.trans HCI.out))
        have HBY := Lib.hid (HB2.out.trans hb3)
        clear hb3 HW
        go_wp2_with fail
        exact ⟨rfl, HBY, .inr ⟨32, a, HEY, rfl⟩⟩
      | succ dd =>
        have HW := Lib.hid (jobject_any (valR dd) (val_short dd) g S p d o (ih dd (by omega) (o + 1) (by omega)) hl (by omega) hd w2 HR2.out (HC.out.trans hci))
        clear hci
        go_wp2_with fail
        refine HW.out.mono ?_
        rintro e w3 ⟨hb3, ⟨cs, v, q, h3, rfl, hrep, hr3⟩ | ⟨n, a, h3, rfl⟩⟩
        · have HEY : Hid (valR (dd + 1) (S.drop p) = .ok v (S.drop q)) := Lib.hid (by rw [valO (HC.out.trans HCI.out)]; exact h3.out)
          obtain ⟨ya, yc, ya', yc', _, _, rfl, -⟩ := hrep.out.parts
          unfold strV at *
          have HRZ := hr3
          have HBZ := Lib.hid (HB2.out.trans hb3.out)
          have HGZ := Lib.hid ((hb3.out.block _ hs2 hgne).trans HG2.out)
          clear h3 hb3 hr3 HW
          have d0 : w3.cell? ⟨w.heap.size, 0, none⟩ = some (.int .i64 0) := by rw [Lib.cell_of_heap HGZ.out]; rfl
          have f0 := Lib.frozen_of_heap HGZ.out 0
          have d1 : w3.cell? ⟨w.heap.size, 1, none⟩ = some (.bool false) := by rw [Lib.cell_of_heap HGZ.out]; rfl
          have f1 := Lib.frozen_of_heap HGZ.out 1
          have d2 : w3.cell? ⟨w.heap.size, 2, none⟩ = some (.string ⟨#[]⟩) := by rw [Lib.cell_of_heap HGZ.out]; rfl
          have f2 := Lib.frozen_of_heap HGZ.out 2
          have d3 : w3.cell? ⟨w.heap.size, 3, none⟩ = some (.slice none 0 0) := by rw [Lib.cell_of_heap HGZ.out]; rfl
          have f3 := Lib.frozen_of_heap HGZ.out 3
          have d4 : w3.cell? ⟨w.heap.size, 4, none⟩ = some (.slice none 0 0) := by rw [Lib.cell_of_heap HGZ.out]; rfl
          have f4 := Lib.frozen_of_heap HGZ.out 4
          go_wp2_with fail
          have hst := value_stored HGZ.out (.int .i64 v.kind) (.bool v.yes) (.string ⟨v.text.toArray⟩) (.slice ya v.list.length yc) (.slice ya' v.mem.length yc')
          have HRE := Lib.hid (HRZ.out.stored (gv := w.heap.size) (by omega) (.int .i64 v.kind) (.bool v.yes) (.string ⟨v.text.toArray⟩) (.slice ya v.list.length yc) (.slice ya' v.mem.length yc'))
          have HBE := Lib.hid (but_stored (gv := w.heap.size) HBZ.out (Nat.le_refl _) (.int .i64 v.kind) (.bool v.yes) (.string ⟨v.text.toArray⟩) (.slice ya v.list.length yc) (.slice ya' v.mem.length yc'))
          have HOT := Lib.hid (five_other w3 w.heap.size (.int .i64 v.kind) (.bool v.yes) (.string ⟨v.text.toArray⟩) (.slice ya v.list.length yc) (.slice ya' v.mem.length yc'))
          have e0 := Lib.cell_of_heap hst 0
          have e1 := Lib.cell_of_heap hst 1
          have e2 := Lib.cell_of_heap hst 2
          have e3 := Lib.cell_of_heap hst 3
          have e4 := Lib.cell_of_heap hst 4
          simp only [List.getElem?_toArray] at e0 e1 e2 e3 e4
          refine bodyPost_ret (v := .agg #[.int .i64 v.kind, .bool v.yes, .string ⟨v.text.toArray⟩, .slice ya v.list.length yc, .slice ya' v.mem.length yc']) (by simp [results, Tryz.results96, go_sem, e0, e1, e2, e3, e4]) rfl ?_
          exact ⟨HBE, .inl ⟨_, v, q, HEY, rfl, Lib.hid ((hrep.out.keep fun k hk _ => HOT.out k (by omega)).mono fun k hk => by omega), HRE⟩⟩
        · have HEY : Hid (valR (dd + 1) (S.drop p) = .bad n) := Lib.hid (by rw [valO (HC.out.trans HCI.out)]; exact h3.out)
          have HBY := Lib.hid (HB2.out.trans hb3.out)
          clear h3 hb3 HW
          go_wp2_with fail
          exact ⟨rfl, HBY, .inr ⟨n, a, HEY, rfl⟩⟩
    by_cases h45 : c = 45
    · have hci : c = 45 := h45
      have HE : Hid (valR dd (S.drop p) = (numberL (S.drop p)).bind fun t r => PR.ok (jnum t) r) := Lib.hid (HV0.out.trans (by rw [hci]; rfl))
      clear HV0 h110 h116 h102 h34 h91 h123 h45
      have t110 : (((c.toNat : Nat) : Int) == 110) = false := by rw [hci]; rfl
      have t116 : (((c.toNat : Nat) : Int) == 116) = false := by rw [hci]; rfl
      have t102 : (((c.toNat : Nat) : Int) == 102) = false := by rw [hci]; rfl
      have t34 : (((c.toNat : Nat) : Int) == 34) = false := by rw [hci]; rfl
      have t91 : (((c.toNat : Nat) : Int) == 91) = false := by rw [hci]; rfl
      have t123 : (((c.toNat : Nat) : Int) == 123) = false := by rw [hci]; rfl
      have t45 : (((c.toNat : Nat) : Int) == 45) = true := by rw [hci]; rfl
      clear hci
      go_wp2_with fail
      refine HPK.out.mono ?_
      rintro e w2 ⟨rfl, hr2, hb2⟩
      have HR2 := Lib.hid hr2
      have HB2 := Lib.hid (HB1.out.trans hb2)
      have HG2 := Lib.hid ((hb2.block _ hgrl hgne).trans HG1.out)
      have hs2 : w.heap.size < w2.heap.size := Nat.lt_of_lt_of_le hgrl hb2.size
      have hpl2 := hr2.le
      clear hr2 hb2 HPK
      have HW := Lib.hid (jnumber_any g S p d o _ HR2.out hl)
      go_wp2_with fail
      refine HW.out.mono ?_
      rintro e w4 ⟨hb3, ⟨t, q, h3, rfl, hr3⟩ | ⟨n, a, h3, rfl⟩⟩
      · have HEY : Hid (valR dd (S.drop p) = .ok (jnum t) (S.drop q)) := Lib.hid (by rw [HE.out, h3]; rfl)
        unfold leafV
        have HRZ := Lib.hid hr3
        have HBZ := Lib.hid (HB2.out.trans hb3)
        have HGZ := Lib.hid ((hb3.block _ hs2 hgne).trans HG2.out)
        clear h3 hb3 hr3 HW
        have d0 : w4.cell? ⟨w.heap.size, 0, none⟩ = some (.int .i64 0) := by rw [Lib.cell_of_heap HGZ.out]; rfl
        have f0 := Lib.frozen_of_heap HGZ.out 0
        have d1 : w4.cell? ⟨w.heap.size, 1, none⟩ = some (.bool false) := by rw [Lib.cell_of_heap HGZ.out]; rfl
        have f1 := Lib.frozen_of_heap HGZ.out 1
        have d2 : w4.cell? ⟨w.heap.size, 2, none⟩ = some (.string ⟨#[]⟩) := by rw [Lib.cell_of_heap HGZ.out]; rfl
        have f2 := Lib.frozen_of_heap HGZ.out 2
        have d3 : w4.cell? ⟨w.heap.size, 3, none⟩ = some (.slice none 0 0) := by rw [Lib.cell_of_heap HGZ.out]; rfl
        have f3 := Lib.frozen_of_heap HGZ.out 3
        have d4 : w4.cell? ⟨w.heap.size, 4, none⟩ = some (.slice none 0 0) := by rw [Lib.cell_of_heap HGZ.out]; rfl
        have f4 := Lib.frozen_of_heap HGZ.out 4
        go_wp2_with fail
        have hst := value_stored HGZ.out (.int .i64 3) (.bool false) (.string ⟨t.toArray⟩) (.slice none 0 0) (.slice none 0 0)
        have HRE := Lib.hid (HRZ.out.stored (gv := w.heap.size) (by omega) (.int .i64 3) (.bool false) (.string ⟨t.toArray⟩) (.slice none 0 0) (.slice none 0 0))
        have HBE := Lib.hid (but_stored (gv := w.heap.size) HBZ.out (Nat.le_refl _) (.int .i64 3) (.bool false) (.string ⟨t.toArray⟩) (.slice none 0 0) (.slice none 0 0))
        have HOT := Lib.hid (five_other w4 w.heap.size (.int .i64 3) (.bool false) (.string ⟨t.toArray⟩) (.slice none 0 0) (.slice none 0 0))
        have e0 := Lib.cell_of_heap hst 0
        have e1 := Lib.cell_of_heap hst 1
        have e2 := Lib.cell_of_heap hst 2
        have e3 := Lib.cell_of_heap hst 3
        have e4 := Lib.cell_of_heap hst 4
        simp only [List.getElem?_toArray] at e0 e1 e2 e3 e4
        refine bodyPost_ret (v := .agg #[.int .i64 3, .bool false, .string ⟨t.toArray⟩, .slice none 0 0, .slice none 0 0]) (by simp [results, Tryz.results96, go_sem, e0, e1, e2, e3, e4]) rfl ?_
        exact ⟨HBE, .inl ⟨_, (jnum t), q, HEY, rfl, Lib.hid (Rep.leaf _ _ 3 false t), HRE⟩⟩
      · have HEY : Hid (valR dd (S.drop p) = .bad n) := Lib.hid (by rw [HE.out, h3]; rfl)
        have HBY := Lib.hid (HB2.out.trans hb3)
        clear h3 hb3 HW
        go_wp2_with fail
        exact ⟨rfl, HBY, .inr ⟨n, a, HEY, rfl⟩⟩
    cases hdg : digB c with
    | true =>
      have HE : Hid (valR dd (S.drop p) = (numberL (S.drop p)).bind fun t r => PR.ok (jnum t) r) := Lib.hid (HV0.out.trans (by rw [if_neg h110]; rw [if_neg h116]; rw [if_neg h102]; rw [if_neg h34]; rw [if_neg h91]; rw [if_neg h123]; rw [if_pos (.inr hdg)]))
      clear HV0
      have t110 : (((c.toNat : Nat) : Int) == 110) = false := by simp only [beq_eq_false_iff_ne, ne_eq]; intro e0; exact h110 (UInt8.toNat_inj.1 (by rw [show (110 : UInt8).toNat = 110 from rfl]; omega))
      have t116 : (((c.toNat : Nat) : Int) == 116) = false := by simp only [beq_eq_false_iff_ne, ne_eq]; intro e0; exact h116 (UInt8.toNat_inj.1 (by rw [show (116 : UInt8).toNat = 116 from rfl]; omega))
      have t102 : (((c.toNat : Nat) : Int) == 102) = false := by simp only [beq_eq_false_iff_ne, ne_eq]; intro e0; exact h102 (UInt8.toNat_inj.1 (by rw [show (102 : UInt8).toNat = 102 from rfl]; omega))
      have t34 : (((c.toNat : Nat) : Int) == 34) = false := by simp only [beq_eq_false_iff_ne, ne_eq]; intro e0; exact h34 (UInt8.toNat_inj.1 (by rw [show (34 : UInt8).toNat = 34 from rfl]; omega))
      have t91 : (((c.toNat : Nat) : Int) == 91) = false := by simp only [beq_eq_false_iff_ne, ne_eq]; intro e0; exact h91 (UInt8.toNat_inj.1 (by rw [show (91 : UInt8).toNat = 91 from rfl]; omega))
      have t123 : (((c.toNat : Nat) : Int) == 123) = false := by simp only [beq_eq_false_iff_ne, ne_eq]; intro e0; exact h123 (UInt8.toNat_inj.1 (by rw [show (123 : UInt8).toNat = 123 from rfl]; omega))
      have t45 : (((c.toNat : Nat) : Int) == 45) = false := by simp only [beq_eq_false_iff_ne, ne_eq]; intro e0; exact h45 (UInt8.toNat_inj.1 (by rw [show (45 : UInt8).toNat = 45 from rfl]; omega))
      clear h110 h116 h102 h34 h91 h123 h45
      go_wp2_with fail
      refine HPK.out.mono ?_
      rintro e w2 ⟨rfl, hr2, hb2⟩
      have HR2 := Lib.hid hr2
      have HB2 := Lib.hid (HB1.out.trans hb2)
      have HG2 := Lib.hid ((hb2.block _ hgrl hgne).trans HG1.out)
      have hs2 : w.heap.size < w2.heap.size := Nat.lt_of_lt_of_le hgrl hb2.size
      have hpl2 := hr2.le
      clear hr2 hb2 HPK
      have HD := Lib.hid (jdigit_any c true w2 hdg)
      go_wp2_with fail
      refine HD.out.mono ?_
      rintro e w3 ⟨rfl, rfl⟩
      have HW := Lib.hid (jnumber_any g S p d o _ HR2.out hl)
      go_wp2_with fail
      refine HW.out.mono ?_
      rintro e w4 ⟨hb3, ⟨t, q, h3, rfl, hr3⟩ | ⟨n, a, h3, rfl⟩⟩
      · have HEY : Hid (valR dd (S.drop p) = .ok (jnum t) (S.drop q)) := Lib.hid (by rw [HE.out, h3]; rfl)
        unfold leafV
        have HRZ := Lib.hid hr3
        have HBZ := Lib.hid (HB2.out.trans hb3)
        have HGZ := Lib.hid ((hb3.block _ hs2 hgne).trans HG2.out)
        clear h3 hb3 hr3 HW
        have d0 : w4.cell? ⟨w.heap.size, 0, none⟩ = some (.int .i64 0) := by rw [Lib.cell_of_heap HGZ.out]; rfl
        have f0 := Lib.frozen_of_heap HGZ.out 0
        have d1 : w4.cell? ⟨w.heap.size, 1, none⟩ = some (.bool false) := by rw [Lib.cell_of_heap HGZ.out]; rfl
        have f1 := Lib.frozen_of_heap HGZ.out 1
        have d2 : w4.cell? ⟨w.heap.size, 2, none⟩ = some (.string ⟨#[]⟩) := by rw [Lib.cell_of_heap HGZ.out]; rfl
        have f2 := Lib.frozen_of_heap HGZ.out 2
        have d3 : w4.cell? ⟨w.heap.size, 3, none⟩ = some (.slice none 0 0) := by rw [Lib.cell_of_heap HGZ.out]; rfl
        have f3 := Lib.frozen_of_heap HGZ.out 3
        have d4 : w4.cell? ⟨w.heap.size, 4, none⟩ = some (.slice none 0 0) := by rw [Lib.cell_of_heap HGZ.out]; rfl
        have f4 := Lib.frozen_of_heap HGZ.out 4
        go_wp2_with fail
        have hst := value_stored HGZ.out (.int .i64 3) (.bool false) (.string ⟨t.toArray⟩) (.slice none 0 0) (.slice none 0 0)
        have HRE := Lib.hid (HRZ.out.stored (gv := w.heap.size) (by omega) (.int .i64 3) (.bool false) (.string ⟨t.toArray⟩) (.slice none 0 0) (.slice none 0 0))
        have HBE := Lib.hid (but_stored (gv := w.heap.size) HBZ.out (Nat.le_refl _) (.int .i64 3) (.bool false) (.string ⟨t.toArray⟩) (.slice none 0 0) (.slice none 0 0))
        have HOT := Lib.hid (five_other w4 w.heap.size (.int .i64 3) (.bool false) (.string ⟨t.toArray⟩) (.slice none 0 0) (.slice none 0 0))
        have e0 := Lib.cell_of_heap hst 0
        have e1 := Lib.cell_of_heap hst 1
        have e2 := Lib.cell_of_heap hst 2
        have e3 := Lib.cell_of_heap hst 3
        have e4 := Lib.cell_of_heap hst 4
        simp only [List.getElem?_toArray] at e0 e1 e2 e3 e4
        refine bodyPost_ret (v := .agg #[.int .i64 3, .bool false, .string ⟨t.toArray⟩, .slice none 0 0, .slice none 0 0]) (by simp [results, Tryz.results96, go_sem, e0, e1, e2, e3, e4]) rfl ?_
        exact ⟨HBE, .inl ⟨_, (jnum t), q, HEY, rfl, Lib.hid (Rep.leaf _ _ 3 false t), HRE⟩⟩
      · have HEY : Hid (valR dd (S.drop p) = .bad n) := Lib.hid (by rw [HE.out, h3]; rfl)
        have HBY := Lib.hid (HB2.out.trans hb3)
        clear h3 hb3 HW
        go_wp2_with fail
        exact ⟨rfl, HBY, .inr ⟨n, a, HEY, rfl⟩⟩
    | false =>
      have HE : Hid (valR dd (S.drop p) = PR.bad 31) := Lib.hid (HV0.out.trans (by rw [if_neg h110]; rw [if_neg h116]; rw [if_neg h102]; rw [if_neg h34]; rw [if_neg h91]; rw [if_neg h123]; rw [if_neg (by rintro (h | h); exact h45 h; rw [hdg] at h; cases h)]))
      clear HV0
      have t110 : (((c.toNat : Nat) : Int) == 110) = false := by simp only [beq_eq_false_iff_ne, ne_eq]; intro e0; exact h110 (UInt8.toNat_inj.1 (by rw [show (110 : UInt8).toNat = 110 from rfl]; omega))
      have t116 : (((c.toNat : Nat) : Int) == 116) = false := by simp only [beq_eq_false_iff_ne, ne_eq]; intro e0; exact h116 (UInt8.toNat_inj.1 (by rw [show (116 : UInt8).toNat = 116 from rfl]; omega))
      have t102 : (((c.toNat : Nat) : Int) == 102) = false := by simp only [beq_eq_false_iff_ne, ne_eq]; intro e0; exact h102 (UInt8.toNat_inj.1 (by rw [show (102 : UInt8).toNat = 102 from rfl]; omega))
      have t34 : (((c.toNat : Nat) : Int) == 34) = false := by simp only [beq_eq_false_iff_ne, ne_eq]; intro e0; exact h34 (UInt8.toNat_inj.1 (by rw [show (34 : UInt8).toNat = 34 from rfl]; omega))
      have t91 : (((c.toNat : Nat) : Int) == 91) = false := by simp only [beq_eq_false_iff_ne, ne_eq]; intro e0; exact h91 (UInt8.toNat_inj.1 (by rw [show (91 : UInt8).toNat = 91 from rfl]; omega))
      have t123 : (((c.toNat : Nat) : Int) == 123) = false := by simp only [beq_eq_false_iff_ne, ne_eq]; intro e0; exact h123 (UInt8.toNat_inj.1 (by rw [show (123 : UInt8).toNat = 123 from rfl]; omega))
      have t45 : (((c.toNat : Nat) : Int) == 45) = false := by simp only [beq_eq_false_iff_ne, ne_eq]; intro e0; exact h45 (UInt8.toNat_inj.1 (by rw [show (45 : UInt8).toNat = 45 from rfl]; omega))
      clear h110 h116 h102 h34 h91 h123 h45
      go_wp2_with fail
      refine HPK.out.mono ?_
      rintro e w2 ⟨rfl, hr2, hb2⟩
      have HR2 := Lib.hid hr2
      have HB2 := Lib.hid (HB1.out.trans hb2)
      have HG2 := Lib.hid ((hb2.block _ hgrl hgne).trans HG1.out)
      have hs2 : w.heap.size < w2.heap.size := Nat.lt_of_lt_of_le hgrl hb2.size
      have hpl2 := hr2.le
      clear hr2 hb2 HPK
      have HD := Lib.hid (jdigit_any c false w2 hdg)
      go_wp2_with fail
      refine HD.out.mono ?_
      rintro e w3 ⟨rfl, rfl⟩
      go_wp2_with fail
      refine (jstop_any g S p d o _ HR2.out).mono ?_
      rintro e w4 ⟨rfl, rfl⟩
      go_wp2_with fail
      exact ⟨rfl, HB2, .inr ⟨31, p, HE, rfl⟩⟩
end Go.Proofs.YtfdijcdpmgkdkaaGreatDoor
set_option linter.unusedVariables false
namespace Go.Proofs.YtfdijcdpmgkdkaaGreatDoor
open Go.RowKit

theorem blank_nil {S : List UInt8} {q : Nat} (hq : q ≤ S.length) : S.drop q = [] ↔ ¬ q < S.length := by
  rw [List.drop_eq_nil_iff]
  omega
set_option maxRecDepth 100000 in
set_option maxHeartbeats 16000000 in
theorem jwhole_any (g : Nat) (S : List UInt8) (d : Nat) (w : World) (h : Rdr w g S 0 d 0) (hl : S.length ≤ 1000000) (hd : d ≤ 1000) :
    Calls Tryz.prog 56 #[.pointer (some ⟨g, 0, none⟩)] w fun e w' => Hid (But g w w') ∧ ((∃ cs v, Hid (wholeR d S = .ok v []) ∧ e = .returned (.agg cs.toArray) ∧ Hid (Rep (w.heap.size ≤ ·) w' cs v)) ∨ ∃ n a, Hid (wholeR d S = .bad n) ∧ e = .panicked (thrown n a)) := by
  have hgl := h.lt
  have HR := Lib.hid h
  have HW : Hid (wholeR d S = (valR d (blankL (S.drop 0))).bind fun v r => if blankL r = [] then .ok v [] else .bad 31) := Lib.hid rfl
  clear h
  go_enter Tryz.func56, Tryz.ntmps56
  go_upto_region 1 with (fail)
  have hb1 : Below w.heap.size w (w.alloc (.cells #[.int .i64 0, .bool false, .string ⟨#[]⟩, .slice none 0 0, .slice none 0 0] 26)) := (Below.refl _ _).alloc (Nat.le_refl _) _
  have hg1 := heap_alloc_new w (.cells #[.int .i64 0, .bool false, .string ⟨#[]⟩, .slice none 0 0, .slice none 0 0] 26)
  generalize w.alloc _ = w1 at *
  have HB1 : Hid (But g w w1) := Lib.hid ⟨hb1.os, hb1.tape, hb1.output, hb1.size, fun k hk _ => hb1.block k hk⟩
  have HR1 : Hid (Rdr w1 g S 0 d 0) := Lib.hid ⟨(hb1.block g hgl).trans HR.out.heap, HR.out.le⟩
  have HG1 := Lib.hid hg1
  have hgrl : w.heap.size < w1.heap.size := (Array.getElem?_eq_some_iff.1 hg1).1
  have hgne : w.heap.size ≠ g := by omega
  have HBL := Lib.hid (jblank_any g S 0 d 0 w1 HR1.out hl)
  clear hb1 hg1 HR
  go_wp2_with fail
  refine HBL.out.mono ?_
  rintro e w2 ⟨rfl, q2, hq2, hle2, hr2, hb2⟩
  rw [← hq2] at HW
  have HR2 := Lib.hid hr2
  have HB2 := Lib.hid (HB1.out.trans hb2)
  have HG2 := Lib.hid ((hb2.block _ hgrl hgne).trans HG1.out)
  have hs2 : w.heap.size < w2.heap.size := Nat.lt_of_lt_of_le hgrl hb2.size
  have HVA := Lib.hid (jvalue_any g S d hl hd d 0 (by omega) q2 w2 HR2.out)
  clear hr2 hb2 hq2 HBL HB1 HG1 HR1
  go_wp2_with fail
  refine HVA.out.mono ?_
  rintro e w4 ⟨hb4, ⟨cs, v, q, h4, rfl, hrep, hr4⟩ | ⟨n, a, h4, rfl⟩⟩
  · obtain ⟨ya, yc, ya', yc', _, _, rfl, -⟩ := hrep.out.parts
    unfold strV at *
    have HB4 := Lib.hid (HB2.out.trans hb4.out)
    have hs4 : w.heap.size < w4.heap.size := Nat.lt_of_lt_of_le hs2 hb4.out.size
    have HG4 := Lib.hid ((hb4.out.block _ hs2 hgne).trans HG2.out)
    have HW4 : Hid (wholeR d S = if blankL (S.drop q) = [] then .ok v [] else .bad 31) := Lib.hid (by rw [HW.out, h4.out]; rfl)
    have hg4 := hr4.out.lt
    clear h4 hb4 HB2 HG2 HVA HW
    go_upto_region 3 with (fail)
    have hb5 : Below w4.heap.size w4 (w4.alloc (.cells #[.int .i64 v.kind, .bool v.yes, .string ⟨v.text.toArray⟩, .slice ya v.list.length yc, .slice ya' v.mem.length yc'] 26)) := (Below.refl _ _).alloc (Nat.le_refl _) _
    have hg5 := heap_alloc_new w4 (.cells #[.int .i64 v.kind, .bool v.yes, .string ⟨v.text.toArray⟩, .slice ya v.list.length yc, .slice ya' v.mem.length yc'] 26)
    generalize w4.alloc _ = w5 at *
    have hs5 : w4.heap.size < w5.heap.size := (Array.getElem?_eq_some_iff.1 hg5).1
    have HV5 := Lib.hid hg5
    have HREP5 := Lib.hid (hrep.out.under hb5)
    have HG5 := Lib.hid ((hb5.block _ hs4).trans HG4.out)
    have HR5 : Hid (Rdr w5 g S q d 0) := Lib.hid ⟨(hb5.block g hg4).trans hr4.out.heap, hr4.out.le⟩
    have HB5 : Hid (But g w w5) := Lib.hid (HB4.out.trans ⟨hb5.os, hb5.tape, hb5.output, hb5.size, fun k hk _ => hb5.block k hk⟩)
    have HBL := Lib.hid (jblank_any g S q d 0 w5 HR5.out hl)
    clear hb5 hg5 hrep hr4 HB4 HG4
    go_wp2_with fail
    refine HBL.out.mono ?_
    rintro e w6 ⟨rfl, q6, hq6, hle6, hr6, hb6⟩
    rw [← hq6] at HW4
    have hql := hr6.le
    have HR6 := Lib.hid hr6
    have HB6 := Lib.hid (HB5.out.trans hb6)
    have HG6 := Lib.hid ((hb6.block _ (by omega) hgne).trans HG5.out)
    have HV6 := Lib.hid ((hb6.block _ hs5 (by omega)).trans HV5.out)
    have HREP6 := Lib.hid (HREP5.out.keep fun k hk hlt => hb6.block k hlt (by have := hg4; omega))
    have c0 := hr6.c0
    have c1 := hr6.c1
    have hlen : (ByteArray.mk S.toArray).size = S.length := by simp [ByteArray.size]
    clear hr6 hb6 hq6 HBL HR5 HB5 HG5 HV5 HREP5
    by_cases hlt : q6 < S.length
    · have hdl : decide (((q6 : Nat) : Int) < ((S.length : Nat) : Int)) = true := decide_eq_true (by omega)
      have HE : Hid (wholeR d S = .bad 31) := Lib.hid (by rw [HW4.out, if_neg (fun e => (blank_nil hql).1 e hlt)])
      have HRD : Hid (∀ n, Rdr (w6.drewN n) g S q6 d 0) := Lib.hid fun n => HR6.out.drewN n
      have HBD : Hid (∀ n, But g w (w6.drewN n)) := Lib.hid fun n => HB6.out.drewN n
      clear hdl
      go_wp2_with fail
      go_quiet (fail)
      go_wp2_with fail
      refine (jstop_any g S q6 d 0 _ (HRD.out _)).mono ?_
      rintro e w7 ⟨rfl, rfl⟩
      go_wp2_with fail
      exact ⟨rfl, Lib.hid (HBD.out _), .inr ⟨31, q6, HE, rfl⟩⟩
    · have hdl : decide (((q6 : Nat) : Int) < ((S.length : Nat) : Int)) = false := decide_eq_false (by omega)
      have HE : Hid (wholeR d S = .ok v []) := Lib.hid (by rw [HW4.out, if_pos ((blank_nil hql).2 hlt)])
      have HRD : Hid (∀ n, Rdr (w6.drewN n) g S q6 d 0) := Lib.hid fun n => HR6.out.drewN n
      have HBD : Hid (∀ n, But g w (w6.drewN n)) := Lib.hid fun n => HB6.out.drewN n
      have HGD : Hid (∀ n, (w6.drewN n).heap[w.heap.size]? = some (.cells #[.int .i64 0, .bool false, .string ⟨#[]⟩, .slice none 0 0, .slice none 0 0] 26 (0, 0))) := Lib.hid fun n => HG6.out
      have HVD : Hid (∀ n, (w6.drewN n).heap[w4.heap.size]? = some (.cells #[.int .i64 v.kind, .bool v.yes, .string ⟨v.text.toArray⟩, .slice ya v.list.length yc, .slice ya' v.mem.length yc'] 26 (0, 0))) := Lib.hid fun n => HV6.out
      have HPD : Hid (∀ n, Rep (w2.heap.size ≤ ·) (w6.drewN n) [.int .i64 v.kind, .bool v.yes, .string ⟨v.text.toArray⟩, .slice ya v.list.length yc, .slice ya' v.mem.length yc'] v) := Lib.hid fun n => HREP6.out.keep fun k hk hlt => rfl
      clear hdl
      go_wp2_with fail
      go_quiet (fail)
      have HR8 := Lib.hid (HRD.out nq)
      have HB8 := Lib.hid (HBD.out nq)
      have HG8 := Lib.hid (HGD.out nq)
      have HV8 := Lib.hid (HVD.out nq)
      have HP8 := Lib.hid (HPD.out nq)
      clear HRD HBD HGD HVD HPD c0 c1 HR6 HB6 HG6 HV6 HREP6
      generalize w6.drewN nq = w8 at *
      have d0 : w8.cell? ⟨w.heap.size, 0, none⟩ = some (.int .i64 0) := by rw [Lib.cell_of_heap HG8.out]; rfl
      have f0 := Lib.frozen_of_heap HG8.out 0
      have d1 : w8.cell? ⟨w.heap.size, 1, none⟩ = some (.bool false) := by rw [Lib.cell_of_heap HG8.out]; rfl
      have f1 := Lib.frozen_of_heap HG8.out 1
      have d2 : w8.cell? ⟨w.heap.size, 2, none⟩ = some (.string ⟨#[]⟩) := by rw [Lib.cell_of_heap HG8.out]; rfl
      have f2 := Lib.frozen_of_heap HG8.out 2
      have d3 : w8.cell? ⟨w.heap.size, 3, none⟩ = some (.slice none 0 0) := by rw [Lib.cell_of_heap HG8.out]; rfl
      have f3 := Lib.frozen_of_heap HG8.out 3
      have d4 : w8.cell? ⟨w.heap.size, 4, none⟩ = some (.slice none 0 0) := by rw [Lib.cell_of_heap HG8.out]; rfl
      have f4 := Lib.frozen_of_heap HG8.out 4
      have v0 : w8.cell? ⟨w4.heap.size, 0, none⟩ = some (.int .i64 v.kind) := by rw [Lib.cell_of_heap HV8.out]; rfl
      have v1 : w8.cell? ⟨w4.heap.size, 1, none⟩ = some (.bool v.yes) := by rw [Lib.cell_of_heap HV8.out]; rfl
      have v2 : w8.cell? ⟨w4.heap.size, 2, none⟩ = some (.string ⟨v.text.toArray⟩) := by rw [Lib.cell_of_heap HV8.out]; rfl
      have v3 : w8.cell? ⟨w4.heap.size, 3, none⟩ = some (.slice ya v.list.length yc) := by rw [Lib.cell_of_heap HV8.out]; rfl
      have v4 : w8.cell? ⟨w4.heap.size, 4, none⟩ = some (.slice ya' v.mem.length yc') := by rw [Lib.cell_of_heap HV8.out]; rfl
      go_wp2_with fail
      have hst := value_stored HG8.out (.int .i64 v.kind) (.bool v.yes) (.string ⟨v.text.toArray⟩) (.slice ya v.list.length yc) (.slice ya' v.mem.length yc')
      have HBE := Lib.hid (but_stored (gv := w.heap.size) HB8.out (Nat.le_refl _) (.int .i64 v.kind) (.bool v.yes) (.string ⟨v.text.toArray⟩) (.slice ya v.list.length yc) (.slice ya' v.mem.length yc'))
      have HOT := Lib.hid (five_other w8 w.heap.size (.int .i64 v.kind) (.bool v.yes) (.string ⟨v.text.toArray⟩) (.slice ya v.list.length yc) (.slice ya' v.mem.length yc'))
      have e0 := Lib.cell_of_heap hst 0
      have e1 := Lib.cell_of_heap hst 1
      have e2 := Lib.cell_of_heap hst 2
      have e3 := Lib.cell_of_heap hst 3
      have e4 := Lib.cell_of_heap hst 4
      simp only [List.getElem?_toArray] at e0 e1 e2 e3 e4
      refine bodyPost_ret (v := .agg #[.int .i64 v.kind, .bool v.yes, .string ⟨v.text.toArray⟩, .slice ya v.list.length yc, .slice ya' v.mem.length yc']) (by simp [results, Tryz.results56, go_sem, e0, e1, e2, e3, e4]) rfl ?_
      exact ⟨HBE, .inl ⟨_, _, HE, rfl, Lib.hid ((HP8.out.keep fun k hk _ => HOT.out k (by omega)).mono fun k hk => by omega)⟩⟩
  · have HE : Hid (wholeR d S = .bad n) := Lib.hid (by rw [HW.out, h4.out]; rfl)
    have HB4 := Lib.hid (HB2.out.trans hb4.out)
    clear h4 hb4 HVA
    go_wp2_with fail
    exact ⟨rfl, HB4, .inr ⟨n, a, HE, rfl⟩⟩
end Go.Proofs.YtfdijcdpmgkdkaaGreatDoor
set_option linter.unusedVariables false
namespace Go.Proofs.YtfdijcdpmgkdkaaGreatDoor
open Go.RowKit

theorem wp_frame_to {P : Program} {c : Code} {Q : Exit → Act → World → Prop} {a a' : Act} {w : World} (ha : a = a') (h : c.wp P Q a' w) : c.wp P Q a w := ha ▸ h
structure CJ (rv rf : Nat) (E A : Int) (w : World) (a0 : Act) (b : Nat → Bool) (a : Act) (w' : World) : Prop where
  fr : Fr [16, 17] a0 a
  b0 : b 0 = true → a.tmps.getD 16 undef = .agg #[.int .i64 0, .bool false, .string ⟨#[]⟩, .slice none 0 0, .slice none 0 0]
  b1 : b 1 = true → a.tmps.getD 17 undef = .agg #[.int .i64 E, .int .i64 A]
  hrv : w'.heap[rv]? = some (.cells #[.int .i64 0, .bool false, .string ⟨#[]⟩, .slice none 0 0, .slice none 0 0] 26 (0, 0))
  hrf : w'.heap[rf]? = some (.cells (if b 3 then #[.int .i64 E, .int .i64 A] else #[.int .i64 0, .int .i64 0]) 93 (0, 0))
  nw : w'.heap[w.heap.size]? = some (.cells #[.int .i64 E, .int .i64 A] 93 (0, 0))
  ot : ∀ k, k < w.heap.size → k ≠ rv → k ≠ rf → w'.heap[k]? = w.heap[k]?
  os : w'.os = w.os
  tape : w'.tape = w.tape
  output : w'.output = w.output
  size : w.heap.size ≤ w'.heap.size
theorem fault_is (v : Value) (xT : TypeId) (w : World) : (Instr.typeAssert (.iface 93 v) xT 93 true).run Tryz.prog w = .ok (.tuple #[v, .bool true]) w := by
  simp [Instr.typeAssert, run_underlying Tryz.underlying93, go_sem, Result.andThen]
set_option maxRecDepth 100000 in
set_option maxHeartbeats 8000000 in
theorem catch_idle (p q : Addr) (w : World) :
    CallsD Tryz.prog 94 #[.pointer (some p), .pointer (some q)] .returning w fun e u' w' => e = .returned (.tuple #[]) ∧ u' = .returning ∧ w' = w := by
  refine callsD_of_wpS Tryz.func94 rfl fun c₀ cs hu => ?_
  apply wpS_seq
  apply wpS_region
  simp [wpOpsS, go_sem, recoverD, hu, Exit.thenS]
  apply wpS_seq
  apply wpS_seq
  apply wpS_region
  simp [wpOpsS, go_sem, recoverD, hu, Exit.thenS]
  refine wpS_cond (t := true) (by simp [Act.eval, Array.replicate]) ?_
  simp only [if_true]
  refine wpS_of_wp ?_
  go_wp2_with fail
  simp only [Exit.thenS]
  cases c₀
  simp_all [bodyPostS, results, go_sem]
set_option maxRecDepth 100000 in
set_option maxHeartbeats 8000000 in
theorem catch_panicking (rv rf : Nat) (E A : Int) (older : List PanicEntry) (w : World) (hv : w.heap[rv]? = some (.cells #[.int .i64 0, .bool false, .string ⟨#[]⟩, .slice none 0 0, .slice none 0 0] 26 (0, 0))) (hf : w.heap[rf]? = some (.cells #[.int .i64 0, .int .i64 0] 93 (0, 0))) (hne : rv ≠ rf) :
    CallsD Tryz.prog 94 #[.pointer (some ⟨rv, 0, none⟩), .pointer (some ⟨rf, 0, none⟩)] (.panicking ({ v := .iface 93 (.agg #[.int .i64 E, .int .i64 A]), recovered := false } :: older)) w fun e u' w' =>
      e = .returned (.tuple #[]) ∧ u' = .panicking ({ v := .iface 93 (.agg #[.int .i64 E, .int .i64 A]), recovered := true } :: older) ∧
      w'.heap[rv]? = some (.cells #[.int .i64 0, .bool false, .string ⟨#[]⟩, .slice none 0 0, .slice none 0 0] 26 (0, 0)) ∧ w'.heap[rf]? = some (.cells #[.int .i64 E, .int .i64 A] 93 (0, 0)) ∧
      (∀ k, k < w.heap.size → k ≠ rv → k ≠ rf → w'.heap[k]? = w.heap[k]?) ∧ w'.os = w.os ∧ w'.tape = w.tape ∧ w'.output = w.output ∧ w.heap.size ≤ w'.heap.size := by
  have hta := fault_is
  have HV := Lib.hid hv
  have HF := Lib.hid hf
  have HN := Lib.hid hne
  have hvl : rv < w.heap.size := (Array.getElem?_eq_some_iff.1 hv).1
  have hfl : rf < w.heap.size := (Array.getElem?_eq_some_iff.1 hf).1
  clear hv hf hne
  refine callsD_of_wpS Tryz.func94 rfl fun c₀ cs hu => ?_
  apply wpS_seq
  apply wpS_region
  simp [wpOpsS, go_sem, recoverD, hu, Exit.thenS]
  refine wpS_of_wp (wp_frame_to (a' := { tmps := #[.pointer (some ⟨rv, 0, none⟩), .pointer (some ⟨rf, 0, none⟩), .iface 93 (.agg #[.int .i64 E, .int .i64 A]), undef, undef, .iface 93 (.agg #[.int .i64 E, .int .i64 A]), undef, undef, undef, undef, undef, undef, undef, undef, undef, undef, undef, undef], defers := [] }) rfl ?_)
  go_upto_region 5 with (fail)
  have hb5 := World.grownBy_alloc w (.cells #[.int .i64 E, .int .i64 A] 93) none
  have hg5 := heap_alloc_new w (.cells #[.int .i64 E, .int .i64 A] 93)
  generalize w.alloc _ = w5 at *
  refine wp_frame_gen fun a0 hs0 hd0 hz => ?_
  have hs0 : a0.tmps.size = 18 := hs0
  have hd0 : a0.defers = [] := hd0
  have z0 : a0.tmps.getD 0 undef = .pointer (some ⟨rv, 0, none⟩) := hz 0
  have z1 : a0.tmps.getD 1 undef = .pointer (some ⟨rf, 0, none⟩) := hz 1
  have z3 : a0.tmps.getD 3 undef = .pointer (some ⟨w.heap.size, 0, none⟩) := hz 3
  clear hz
  refine wp_region_inv (by kernel_rfl) (by kernel_rfl) (CJ rv rf E A w a0) ?_ ?_ ?_
  · exact ⟨Fr.refl _ _, (fun e => by cases e), (fun e => by cases e), (hb5.block rv hvl (by simp)).trans HV.out, (hb5.block rf hfl (by simp)).trans HF.out, hg5, fun k hk _ _ => hb5.block k hk (by simp), hb5.os, hb5.tape, hb5.output, hb5.size⟩
  · rintro b a' w' hJ i op ho hbi hdep
    have t0 : a'.tmps.getD 0 undef = .pointer (some ⟨rv, 0, none⟩) := (hJ.fr.same 0 (by decide)).trans z0
    have t1 : a'.tmps.getD 1 undef = .pointer (some ⟨rf, 0, none⟩) := (hJ.fr.same 1 (by decide)).trans z1
    have t3 : a'.tmps.getD 3 undef = .pointer (some ⟨w.heap.size, 0, none⟩) := (hJ.fr.same 3 (by decide)).trans z3
    rcases i with _ | _ | _ | _ | i
    · cases ho
      refine op_step rfl rfl (op_value (v := .agg #[.int .i64 0, .bool false, .string ⟨#[]⟩, .slice none 0 0, .slice none 0 0]) (w' := w') ?_ ⟨hJ.fr.put (by decide) _, ?_, ?_, hJ.hrv, by simpa using hJ.hrf, hJ.nw, hJ.ot, hJ.os, hJ.tape, hJ.output, hJ.size⟩)
      · simp only [execOp]
        go_simp
      · intro _
        exact put_at _ _ _ (by rw [hJ.fr.size, hs0]; decide)
      · intro e
        exact (put_other _ _ _ _ (by decide)).trans (hJ.b1 (by simpa using e))
    · cases ho
      have c0 : w'.cell? ⟨w.heap.size, 0, none⟩ = some (.int .i64 E) := by rw [Lib.cell_of_heap hJ.nw]; rfl
      have c1 : w'.cell? ⟨w.heap.size, 1, none⟩ = some (.int .i64 A) := by rw [Lib.cell_of_heap hJ.nw]; rfl
      refine op_step rfl rfl (op_value (v := .agg #[.int .i64 E, .int .i64 A]) (w' := w') ?_ ⟨hJ.fr.put (by decide) _, ?_, ?_, hJ.hrv, by simpa using hJ.hrf, hJ.nw, hJ.ot, hJ.os, hJ.tape, hJ.output, hJ.size⟩)
      · simp only [execOp, Act.eval, t3]
        go_simp
      · intro e
        exact (put_other _ _ _ _ (by decide)).trans (hJ.b0 (by simpa using e))
      · intro _
        exact put_at _ _ _ (by rw [hJ.fr.size, hs0]; decide)
    · cases ho
      have e0 := hJ.b0 (dep_of hdep 0 (by kernel_rfl))
      refine op_step rfl rfl (op_store _ (.tmp 0) (.tmp 16) rfl rfl rv 0 [.int .i64 0, .bool false, .string ⟨#[]⟩, .slice none 0 0, .slice none 0 0] t0 e0 _ _ hJ.hrv (by kernel_rfl) (by simp) (by simp [Value.oneCell']) ⟨hJ.fr, fun e => hJ.b0 (by simpa using e), fun e => hJ.b1 (by simpa using e), ?_, ?_, ?_, ?_, hJ.os, hJ.tape, hJ.output, by simpa [World.setRow] using hJ.size⟩)
      · exact setRow_heap w' rv _ _ _ _ hJ.hrv
      · simpa using (setRow_other w' rv rf _ (Ne.symm HN.out)).trans hJ.hrf
      · exact (setRow_other w' rv w.heap.size _ (by omega)).trans hJ.nw
      · intro k hk h1 h2
        exact (setRow_other w' rv k _ h1).trans (hJ.ot k hk h1 h2)
    · cases ho
      have e1 := hJ.b1 (dep_of hdep 1 (by kernel_rfl))
      have hbf : b 3 = false := hbi
      have hrf := hJ.hrf
      rw [if_neg (by simp [hbf])] at hrf
      refine op_step rfl rfl (op_store _ (.tmp 1) (.tmp 17) rfl rfl rf 0 [.int .i64 E, .int .i64 A] t1 e1 _ _ hrf (by kernel_rfl) (by simp) (by simp [Value.oneCell']) ⟨hJ.fr, fun e => hJ.b0 (by simpa using e), fun e => hJ.b1 (by simpa using e), ?_, ?_, ?_, ?_, hJ.os, hJ.tape, hJ.output, by simpa [World.setRow] using hJ.size⟩)
      · exact (setRow_other w' rf rv _ HN.out).trans hJ.hrv
      · simpa using setRow_heap w' rf _ _ _ _ hrf
      · exact (setRow_other w' rf w.heap.size _ (by omega)).trans hJ.nw
      · intro k hk h1 h2
        exact (setRow_other w' rf k _ h2).trans (hJ.ot k hk h1 h2)
    · cases ho
  · rintro b a' w' hJ hdone
    have hrf := hJ.hrf
    rw [if_pos (hdone 3 (by decide))] at hrf
    refine ⟨hJ.fr.defers.trans hd0, _, rfl, .tuple #[], by simp [results, go_sem], rfl, rfl, hJ.hrv, hrf, hJ.ot, hJ.os, hJ.tape, hJ.output, hJ.size⟩
end Go.Proofs.YtfdijcdpmgkdkaaGreatDoor
set_option linter.unusedVariables false
namespace Go.Proofs.YtfdijcdpmgkdkaaGreatDoor
open Go.RowKit

/-- Two new blocks may turn. -/
structure NewTwo (a b : Nat) (w w' : World) : Prop where
  os : w'.os = w.os
  tape : w'.tape = w.tape
  output : w'.output = w.output
  size : w.heap.size ≤ w'.heap.size
  block : ∀ k, k < w.heap.size → k ≠ a → k ≠ b → w'.heap[k]? = w.heap[k]?
theorem But.trans_new {g : Nat} {w w4 w' : World} (h : But g w w4) (k : NewTwo w.heap.size (w.heap.size + 1) w4 w') : But g w w' :=
  ⟨k.os.trans h.os, k.tape.trans h.tape, k.output.trans h.output, Nat.le_trans h.size k.size, fun j hj hg => (k.block j (Nat.lt_of_lt_of_le hj h.size) (by omega) (by omega)).trans (h.block j hj hg)⟩
set_option maxRecDepth 100000 in
set_option maxHeartbeats 16000000 in
theorem jcaught_any (g : Nat) (S : List UInt8) (d : Nat) (w : World) (h : Rdr w g S 0 d 0) (hl : S.length ≤ 1000000) (hd : d ≤ 1000) :
    Calls Tryz.prog 55 #[.func (.func 56) #[.pointer (some ⟨g, 0, none⟩)] #[]] w fun e w' => Hid (But g w w') ∧ ∃ cs v E A, e = .returned (.tuple #[.agg cs.toArray, .agg #[.int .i64 E, .int .i64 A]]) ∧ Hid (Rep (w.heap.size ≤ ·) w' cs v) ∧ Hid ((wholeR d S = .ok v [] ∧ E = 0) ∨ (wholeR d S = .bad E ∧ v = .zero)) := by
  have hgl := h.lt
  have HR := Lib.hid h
  have hmf : ∀ (fn : Fn) (first cap : Array Value) (w : World), (Instr.makeFunc fn first cap).run Tryz.prog w = .ok (.func fn first cap) w := fun _ _ _ _ => rfl
  clear h
  go_enter_defers Tryz.func55, Tryz.ntmps55
  go_upto_region 2 with (fail)
  have hb1 : Below w.heap.size w ((w.alloc (.cells #[.int .i64 0, .bool false, .string ⟨#[]⟩, .slice none 0 0, .slice none 0 0] 26)).alloc (.cells #[.int .i64 0, .int .i64 0] 93)) := ((Below.refl _ _).alloc (Nat.le_refl _) _).alloc (by simp) _
  have hg1 : ((w.alloc (.cells #[.int .i64 0, .bool false, .string ⟨#[]⟩, .slice none 0 0, .slice none 0 0] 26)).alloc (.cells #[.int .i64 0, .int .i64 0] 93)).heap[w.heap.size]? = some (.cells #[.int .i64 0, .bool false, .string ⟨#[]⟩, .slice none 0 0, .slice none 0 0] 26 (0, 0)) := ((World.grownBy_alloc (w.alloc _) _ none).block _ (by simp) (by simp)).trans (heap_alloc_new w _)
  have hg2 : ((w.alloc (.cells #[.int .i64 0, .bool false, .string ⟨#[]⟩, .slice none 0 0, .slice none 0 0] 26)).alloc (.cells #[.int .i64 0, .int .i64 0] 93)).heap[w.heap.size + 1]? = some (.cells #[.int .i64 0, .int .i64 0] 93 (0, 0)) := by
    rw [show w.heap.size + 1 = (w.alloc (.cells #[.int .i64 0, .bool false, .string ⟨#[]⟩, .slice none 0 0, .slice none 0 0] 26)).heap.size by simp]
    exact heap_alloc_new _ _
  generalize (w.alloc _).alloc _ = w1 at *
  have HB1 : Hid (But g w w1) := Lib.hid ⟨hb1.os, hb1.tape, hb1.output, hb1.size, fun k hk _ => hb1.block k hk⟩
  have HR1 : Hid (Rdr w1 g S 0 d 0) := Lib.hid ⟨(hb1.block g hgl).trans HR.out.heap, HR.out.le⟩
  have HG1 := Lib.hid hg1
  have HG2 := Lib.hid hg2
  have hs1 : w.heap.size + 1 < w1.heap.size := (Array.getElem?_eq_some_iff.1 hg2).1
  have HW := Lib.hid (jwhole_any g S d w1 HR1.out hl hd)
  clear hb1 hg1 hg2 HR
  go_wp2_with fail
  refine HW.out.mono ?_
  rintro e w4 ⟨hb4, ⟨cs, v, h4, rfl, hrep⟩ | ⟨n, a, h4, rfl⟩⟩
  · obtain ⟨ya, yc, ya', yc', _, _, rfl, -⟩ := hrep.out.parts
    unfold strV at *
    have HB4 := Lib.hid (HB1.out.trans hb4.out)
    have HV4 := Lib.hid ((hb4.out.block _ (by omega) (by omega)).trans HG1.out)
    have HF4 := Lib.hid ((hb4.out.block _ (by omega) (by omega)).trans HG2.out)
    have HP4 := hrep
    have HE := h4
    have hs4 := hb4.out.size
    clear h4 hb4 hrep HW
    have d0 : w4.cell? ⟨w.heap.size, 0, none⟩ = some (.int .i64 0) := by rw [Lib.cell_of_heap HV4.out]; rfl
    have f0 := Lib.frozen_of_heap HV4.out 0
    have d1 : w4.cell? ⟨w.heap.size, 1, none⟩ = some (.bool false) := by rw [Lib.cell_of_heap HV4.out]; rfl
    have f1 := Lib.frozen_of_heap HV4.out 1
    have d2 : w4.cell? ⟨w.heap.size, 2, none⟩ = some (.string ⟨#[]⟩) := by rw [Lib.cell_of_heap HV4.out]; rfl
    have f2 := Lib.frozen_of_heap HV4.out 2
    have d3 : w4.cell? ⟨w.heap.size, 3, none⟩ = some (.slice none 0 0) := by rw [Lib.cell_of_heap HV4.out]; rfl
    have f3 := Lib.frozen_of_heap HV4.out 3
    have d4 : w4.cell? ⟨w.heap.size, 4, none⟩ = some (.slice none 0 0) := by rw [Lib.cell_of_heap HV4.out]; rfl
    have f4 := Lib.frozen_of_heap HV4.out 4
    have b0 : w4.cell? ⟨w.heap.size + 1, 0, none⟩ = some (.int .i64 0) := by rw [Lib.cell_of_heap HF4.out]; rfl
    have g0 := Lib.frozen_of_heap HF4.out 0
    have b1 : w4.cell? ⟨w.heap.size + 1, 1, none⟩ = some (.int .i64 0) := by rw [Lib.cell_of_heap HF4.out]; rfl
    have g1 := Lib.frozen_of_heap HF4.out 1
    go_wp2_with fail
    refine leaves_cons (f := 94) (args := #[.pointer (some ⟨w.heap.size, 0, none⟩), .pointer (some ⟨w.heap.size + 1, 0, none⟩)]) (by simp) (by simp [go_sem]) ?_
    refine (catch_idle ⟨w.heap.size, 0, none⟩ ⟨w.heap.size + 1, 0, none⟩ _).mono ?_
    rintro e u' w'' ⟨rfl, rfl, rfl⟩
    have hst := value_stored HV4.out (.int .i64 v.kind) (.bool v.yes) (.string ⟨v.text.toArray⟩) (.slice ya v.list.length yc) (.slice ya' v.mem.length yc')
    have HBE := Lib.hid (but_stored (gv := w.heap.size) HB4.out (Nat.le_refl _) (.int .i64 v.kind) (.bool v.yes) (.string ⟨v.text.toArray⟩) (.slice ya v.list.length yc) (.slice ya' v.mem.length yc'))
    have HOT := Lib.hid (five_other w4 w.heap.size (.int .i64 v.kind) (.bool v.yes) (.string ⟨v.text.toArray⟩) (.slice ya v.list.length yc) (.slice ya' v.mem.length yc'))
    generalize hw5 : ((((w4.setCell ⟨w.heap.size, 0, none⟩ _).setCell ⟨w.heap.size, 1, none⟩ _).setCell ⟨w.heap.size, 2, none⟩ _).setCell ⟨w.heap.size, 3, none⟩ _).setCell ⟨w.heap.size, 4, none⟩ _ = w5 at *
    have HF5 := (HOT.out (w.heap.size + 1) (by omega)).trans HF4.out
    have hF6 : ((w5.setCell ⟨w.heap.size + 1, 0, none⟩ (.int .i64 0)).setCell ⟨w.heap.size + 1, 1, none⟩ (.int .i64 0)).heap[w.heap.size + 1]? = some (.cells #[.int .i64 0, .int .i64 0] 93 (0, 0)) := by
      rw [setCell_block (setCell_block HF5 _)]
      rfl
    have hot6 : ∀ k, k ≠ w.heap.size + 1 → ((w5.setCell ⟨w.heap.size + 1, 0, none⟩ (.int .i64 0)).setCell ⟨w.heap.size + 1, 1, none⟩ (.int .i64 0)).heap[k]? = w5.heap[k]? := fun k hk => by
      rw [Below.heap_setCell _ _ _ _ hk, Below.heap_setCell _ _ _ _ hk]
    have hV6 := (hot6 w.heap.size (by omega)).trans hst
    have HB6 : Hid (But g w ((w5.setCell ⟨w.heap.size + 1, 0, none⟩ (.int .i64 0)).setCell ⟨w.heap.size + 1, 1, none⟩ (.int .i64 0))) := Lib.hid (HBE.out.trans_new ⟨rfl, rfl, rfl, by simp [World.setCell], fun k _ _ h2 => hot6 k h2⟩)
    have HP6 : Hid (Rep (w.heap.size ≤ ·) ((w5.setCell ⟨w.heap.size + 1, 0, none⟩ (.int .i64 0)).setCell ⟨w.heap.size + 1, 1, none⟩ (.int .i64 0)) [.int .i64 v.kind, .bool v.yes, .string ⟨v.text.toArray⟩, .slice ya v.list.length yc, .slice ya' v.mem.length yc'] v) := Lib.hid ((HP4.out.keep fun k hk _ => (hot6 k (by omega)).trans (HOT.out k (by omega))).mono fun k hk => by omega)
    generalize (w5.setCell ⟨w.heap.size + 1, 0, none⟩ (.int .i64 0)).setCell ⟨w.heap.size + 1, 1, none⟩ (.int .i64 0) = w6 at *
    have e0 := Lib.cell_of_heap hV6 0
    have e1 := Lib.cell_of_heap hV6 1
    have e2 := Lib.cell_of_heap hV6 2
    have e3 := Lib.cell_of_heap hV6 3
    have e4 := Lib.cell_of_heap hV6 4
    have e5 := Lib.cell_of_heap hF6 0
    have e6 := Lib.cell_of_heap hF6 1
    simp only [List.getElem?_toArray] at e0 e1 e2 e3 e4 e5 e6
    exact ⟨.tuple #[.agg #[.int .i64 v.kind, .bool v.yes, .string ⟨v.text.toArray⟩, .slice ya v.list.length yc, .slice ya' v.mem.length yc'], .agg #[.int .i64 0, .int .i64 0]], by simp [results, Tryz.results55, go_sem, e0, e1, e2, e3, e4, e5, e6], HB6, _, v, 0, 0, rfl, HP6, Lib.hid (.inl ⟨HE.out, rfl⟩)⟩
  · have HB4 := Lib.hid (HB1.out.trans hb4.out)
    have HV4 := Lib.hid ((hb4.out.block _ (by omega) (by omega)).trans HG1.out)
    have HF4 := Lib.hid ((hb4.out.block _ (by omega) (by omega)).trans HG2.out)
    have HE := h4
    have hs4 := hb4.out.size
    clear h4 hb4 HW
    unfold thrown
    go_wp2_with fail
    refine leaves_cons (f := 94) (args := #[.pointer (some ⟨w.heap.size, 0, none⟩), .pointer (some ⟨w.heap.size + 1, 0, none⟩)]) (by simp) (by simp [go_sem]) ?_
    refine (catch_panicking w.heap.size (w.heap.size + 1) n a [] w4 HV4.out HF4.out (by omega)).mono ?_
    rintro e u' w'' ⟨rfl, rfl, kv, kf, hot, hos, htape, hout, hsz⟩
    have e0 := Lib.cell_of_heap kv 0
    have e1 := Lib.cell_of_heap kv 1
    have e2 := Lib.cell_of_heap kv 2
    have e3 := Lib.cell_of_heap kv 3
    have e4 := Lib.cell_of_heap kv 4
    have e5 := Lib.cell_of_heap kf 0
    have e6 := Lib.cell_of_heap kf 1
    simp only [List.getElem?_toArray] at e0 e1 e2 e3 e4 e5 e6
    have HBF : Hid (But g w w'') := Lib.hid (HB4.out.trans_new ⟨hos, htape, hout, hsz, hot⟩)
    refine ⟨.tuple #[.agg zero5.toArray, .agg #[.int .i64 n, .int .i64 a]], by simp [zero5, results, Tryz.results55, go_sem, e0, e1, e2, e3, e4, e5, e6], HBF, zero5, .zero, n, a, rfl, Lib.hid (Rep.leaf _ _ 0 false []), Lib.hid (.inr ⟨HE.out, rfl⟩)⟩
end Go.Proofs.YtfdijcdpmgkdkaaGreatDoor
set_option linter.unusedVariables false
namespace Go.Proofs.YtfdijcdpmgkdkaaGreatDoor
open Go.RowKit

set_option maxRecDepth 100000 in
set_option maxHeartbeats 16000000 in
theorem jcaughtn_any (g : Nat) (S : List UInt8) (d : Nat) (w : World) (h : Rdr w g S 0 d 0) (hl : S.length ≤ 1000000) (hd : d ≤ 1000) :
    Calls Tryz.prog 55 #[.func (.func 84) #[.pointer (some ⟨g, 0, none⟩)] #[]] w fun e w' => Hid (But g w w') ∧ ∃ (k : Int) (t : List UInt8) (E A : Int), e = .returned (.tuple #[.agg #[.int .i64 k, .bool false, .string ⟨t.toArray⟩, .slice none 0 0, .slice none 0 0], .agg #[.int .i64 E, .int .i64 A]]) ∧ Hid ((∃ r, numberL S = .ok t r ∧ E = 0) ∨ (numberL S = .bad E ∧ t = [])) := by
  have hgl := h.lt
  have HR := Lib.hid h
  have hmf : ∀ (fn : Fn) (first cap : Array Value) (w : World), (Instr.makeFunc fn first cap).run Tryz.prog w = .ok (.func fn first cap) w := fun _ _ _ _ => rfl
  clear h
  go_enter_defers Tryz.func55, Tryz.ntmps55
  go_upto_region 2 with (fail)
  have hb1 : Below w.heap.size w ((w.alloc (.cells #[.int .i64 0, .bool false, .string ⟨#[]⟩, .slice none 0 0, .slice none 0 0] 26)).alloc (.cells #[.int .i64 0, .int .i64 0] 93)) := ((Below.refl _ _).alloc (Nat.le_refl _) _).alloc (by simp) _
  have hg1 : ((w.alloc (.cells #[.int .i64 0, .bool false, .string ⟨#[]⟩, .slice none 0 0, .slice none 0 0] 26)).alloc (.cells #[.int .i64 0, .int .i64 0] 93)).heap[w.heap.size]? = some (.cells #[.int .i64 0, .bool false, .string ⟨#[]⟩, .slice none 0 0, .slice none 0 0] 26 (0, 0)) := ((World.grownBy_alloc (w.alloc _) _ none).block _ (by simp) (by simp)).trans (heap_alloc_new w _)
  have hg2 : ((w.alloc (.cells #[.int .i64 0, .bool false, .string ⟨#[]⟩, .slice none 0 0, .slice none 0 0] 26)).alloc (.cells #[.int .i64 0, .int .i64 0] 93)).heap[w.heap.size + 1]? = some (.cells #[.int .i64 0, .int .i64 0] 93 (0, 0)) := by
    rw [show w.heap.size + 1 = (w.alloc (.cells #[.int .i64 0, .bool false, .string ⟨#[]⟩, .slice none 0 0, .slice none 0 0] 26)).heap.size by simp]
    exact heap_alloc_new _ _
  generalize (w.alloc _).alloc _ = w1 at *
  have HB1 : Hid (But g w w1) := Lib.hid ⟨hb1.os, hb1.tape, hb1.output, hb1.size, fun k hk _ => hb1.block k hk⟩
  have HR1 : Hid (Rdr w1 g S 0 d 0) := Lib.hid ⟨(hb1.block g hgl).trans HR.out.heap, HR.out.le⟩
  have HG1 := Lib.hid hg1
  have HG2 := Lib.hid hg2
  have hs1 : w.heap.size + 1 < w1.heap.size := (Array.getElem?_eq_some_iff.1 hg2).1
  have HW := Lib.hid (jnumber_any g S 0 d 0 w1 HR1.out hl)
  clear hb1 hg1 hg2 HR
  go_wp2_with fail
  refine HW.out.mono ?_
  rintro e w4 ⟨hb4', ⟨t, q, h4', rfl, hr4⟩ | ⟨n, a, h4', rfl⟩⟩
  · unfold leafV
    have hb4 := Lib.hid hb4'
    have h4 := Lib.hid h4'
    clear hb4' h4' hr4
    have HB4 := Lib.hid (HB1.out.trans hb4.out)
    have HV4 := Lib.hid ((hb4.out.block _ (by omega) (by omega)).trans HG1.out)
    have HF4 := Lib.hid ((hb4.out.block _ (by omega) (by omega)).trans HG2.out)
    have HE := h4
    have hs4 := hb4.out.size
    clear h4 hb4 HW
    have d0 : w4.cell? ⟨w.heap.size, 0, none⟩ = some (.int .i64 0) := by rw [Lib.cell_of_heap HV4.out]; rfl
    have f0 := Lib.frozen_of_heap HV4.out 0
    have d1 : w4.cell? ⟨w.heap.size, 1, none⟩ = some (.bool false) := by rw [Lib.cell_of_heap HV4.out]; rfl
    have f1 := Lib.frozen_of_heap HV4.out 1
    have d2 : w4.cell? ⟨w.heap.size, 2, none⟩ = some (.string ⟨#[]⟩) := by rw [Lib.cell_of_heap HV4.out]; rfl
    have f2 := Lib.frozen_of_heap HV4.out 2
    have d3 : w4.cell? ⟨w.heap.size, 3, none⟩ = some (.slice none 0 0) := by rw [Lib.cell_of_heap HV4.out]; rfl
    have f3 := Lib.frozen_of_heap HV4.out 3
    have d4 : w4.cell? ⟨w.heap.size, 4, none⟩ = some (.slice none 0 0) := by rw [Lib.cell_of_heap HV4.out]; rfl
    have f4 := Lib.frozen_of_heap HV4.out 4
    have b0 : w4.cell? ⟨w.heap.size + 1, 0, none⟩ = some (.int .i64 0) := by rw [Lib.cell_of_heap HF4.out]; rfl
    have g0 := Lib.frozen_of_heap HF4.out 0
    have b1 : w4.cell? ⟨w.heap.size + 1, 1, none⟩ = some (.int .i64 0) := by rw [Lib.cell_of_heap HF4.out]; rfl
    have g1 := Lib.frozen_of_heap HF4.out 1
    go_wp2_with fail
    refine leaves_cons (f := 94) (args := #[.pointer (some ⟨w.heap.size, 0, none⟩), .pointer (some ⟨w.heap.size + 1, 0, none⟩)]) (by simp) (by simp [go_sem]) ?_
    refine (catch_idle ⟨w.heap.size, 0, none⟩ ⟨w.heap.size + 1, 0, none⟩ _).mono ?_
    rintro e u' w'' ⟨rfl, rfl, rfl⟩
    have hst := value_stored HV4.out (.int .i64 3) (.bool false) (.string ⟨t.toArray⟩) (.slice none 0 0) (.slice none 0 0)
    have HBE := Lib.hid (but_stored (gv := w.heap.size) HB4.out (Nat.le_refl _) (.int .i64 3) (.bool false) (.string ⟨t.toArray⟩) (.slice none 0 0) (.slice none 0 0))
    have HOT := Lib.hid (five_other w4 w.heap.size (.int .i64 3) (.bool false) (.string ⟨t.toArray⟩) (.slice none 0 0) (.slice none 0 0))
    generalize hw5 : ((((w4.setCell ⟨w.heap.size, 0, none⟩ _).setCell ⟨w.heap.size, 1, none⟩ _).setCell ⟨w.heap.size, 2, none⟩ _).setCell ⟨w.heap.size, 3, none⟩ _).setCell ⟨w.heap.size, 4, none⟩ _ = w5 at *
    have HF5 := (HOT.out (w.heap.size + 1) (by omega)).trans HF4.out
    have hF6 : ((w5.setCell ⟨w.heap.size + 1, 0, none⟩ (.int .i64 0)).setCell ⟨w.heap.size + 1, 1, none⟩ (.int .i64 0)).heap[w.heap.size + 1]? = some (.cells #[.int .i64 0, .int .i64 0] 93 (0, 0)) := by
      rw [setCell_block (setCell_block HF5 _)]
      rfl
    have hot6 : ∀ k, k ≠ w.heap.size + 1 → ((w5.setCell ⟨w.heap.size + 1, 0, none⟩ (.int .i64 0)).setCell ⟨w.heap.size + 1, 1, none⟩ (.int .i64 0)).heap[k]? = w5.heap[k]? := fun k hk => by
      rw [Below.heap_setCell _ _ _ _ hk, Below.heap_setCell _ _ _ _ hk]
    have hV6 := (hot6 w.heap.size (by omega)).trans hst
    have HB6 : Hid (But g w ((w5.setCell ⟨w.heap.size + 1, 0, none⟩ (.int .i64 0)).setCell ⟨w.heap.size + 1, 1, none⟩ (.int .i64 0))) := Lib.hid (HBE.out.trans_new ⟨rfl, rfl, rfl, by simp [World.setCell], fun k _ _ h2 => hot6 k h2⟩)
    generalize (w5.setCell ⟨w.heap.size + 1, 0, none⟩ (.int .i64 0)).setCell ⟨w.heap.size + 1, 1, none⟩ (.int .i64 0) = w6 at *
    have e0 := Lib.cell_of_heap hV6 0
    have e1 := Lib.cell_of_heap hV6 1
    have e2 := Lib.cell_of_heap hV6 2
    have e3 := Lib.cell_of_heap hV6 3
    have e4 := Lib.cell_of_heap hV6 4
    have e5 := Lib.cell_of_heap hF6 0
    have e6 := Lib.cell_of_heap hF6 1
    simp only [List.getElem?_toArray] at e0 e1 e2 e3 e4 e5 e6
    exact ⟨.tuple #[.agg #[.int .i64 3, .bool false, .string ⟨t.toArray⟩, .slice none 0 0, .slice none 0 0], .agg #[.int .i64 0, .int .i64 0]], by simp [results, Tryz.results55, go_sem, e0, e1, e2, e3, e4, e5, e6], HB6, 3, t, 0, 0, rfl, Lib.hid (.inl ⟨_, HE.out, rfl⟩)⟩
  · have hb4 := Lib.hid hb4'
    have h4 := Lib.hid h4'
    clear hb4' h4'
    have HB4 := Lib.hid (HB1.out.trans hb4.out)
    have HV4 := Lib.hid ((hb4.out.block _ (by omega) (by omega)).trans HG1.out)
    have HF4 := Lib.hid ((hb4.out.block _ (by omega) (by omega)).trans HG2.out)
    have HE := h4
    have hs4 := hb4.out.size
    clear h4 hb4 HW
    unfold thrown
    go_wp2_with fail
    refine leaves_cons (f := 94) (args := #[.pointer (some ⟨w.heap.size, 0, none⟩), .pointer (some ⟨w.heap.size + 1, 0, none⟩)]) (by simp) (by simp [go_sem]) ?_
    refine (catch_panicking w.heap.size (w.heap.size + 1) n a [] w4 HV4.out HF4.out (by omega)).mono ?_
    rintro e u' w'' ⟨rfl, rfl, kv, kf, hot, hos, htape, hout, hsz⟩
    have e0 := Lib.cell_of_heap kv 0
    have e1 := Lib.cell_of_heap kv 1
    have e2 := Lib.cell_of_heap kv 2
    have e3 := Lib.cell_of_heap kv 3
    have e4 := Lib.cell_of_heap kv 4
    have e5 := Lib.cell_of_heap kf 0
    have e6 := Lib.cell_of_heap kf 1
    simp only [List.getElem?_toArray] at e0 e1 e2 e3 e4 e5 e6
    have HBF : Hid (But g w w'') := Lib.hid (HB4.out.trans_new ⟨hos, htape, hout, hsz, hot⟩)
    refine ⟨.tuple #[.agg zero5.toArray, .agg #[.int .i64 n, .int .i64 a]], by simp [zero5, results, Tryz.results55, go_sem, e0, e1, e2, e3, e4, e5, e6], HBF, 0, [], n, a, rfl, Lib.hid (.inr ⟨HE.out, rfl⟩)⟩
end Go.Proofs.YtfdijcdpmgkdkaaGreatDoor
set_option linter.unusedVariables false
namespace Go.Proofs.YtfdijcdpmgkdkaaGreatDoor
open Go.RowKit

structure PJ (gr vb fb : Nat) (cs : List Value) (E A : Int) (w0 : World) (a0 : Act) (b : Nat → Bool) (a : Act) (w' : World) : Prop where
  fr : Fr [43, 44, 45, 46, 47, 5, 6] a0 a
  b0 : b 0 = true → a.tmps.getD 43 undef = .agg cs.toArray
  b1 : b 1 = true → a.tmps.getD 44 undef = .pointer (some ⟨fb, 0, none⟩)
  b2 : b 2 = true → a.tmps.getD 45 undef = .int .i64 E
  b3 : b 3 = true → a.tmps.getD 46 undef = .pointer (some ⟨fb, 1, none⟩)
  b4 : b 4 = true → a.tmps.getD 47 undef = .int .i64 A
  b6 : b 6 = true → a.tmps.getD 5 undef = .int .i64 E
  b7 : b 7 = true → a.tmps.getD 6 undef = .int .i64 A
  res : w'.heap[gr]? = some (.cells (if b 5 then cs.toArray else #[.int .i64 0, .bool false, .string ⟨#[]⟩, .slice none 0 0, .slice none 0 0]) 26 (0, 0))
  ot : ∀ k, k ≠ gr → w'.heap[k]? = w0.heap[k]?
  os : w'.os = w0.os
  tape : w'.tape = w0.tape
  output : w'.output = w0.output
  size : w0.heap.size ≤ w'.heap.size
theorem parse_long {l : List UInt8} {D : Int} (h : 16384 < l.length) : parseL l D = (.zero, 11) := by unfold parseL; rw [if_pos h]
theorem parse_deep {l : List UInt8} {D : Int} (h : ¬ 16384 < l.length) (h2 : D < 1 ∨ 32 < D) : parseL l D = (.zero, 12) := by unfold parseL; rw [if_neg h, if_pos h2]
theorem parse_told {l : List UInt8} {D : Int} (h : ¬ 16384 < l.length) (h2 : ¬ (D < 1 ∨ 32 < D)) (h3 : toldB l = false) : parseL l D = (.zero, 30) := by unfold parseL; rw [if_neg h, if_neg h2, if_pos h3]
theorem parse_go {l : List UInt8} {D : Int} (h : ¬ 16384 < l.length) (h2 : ¬ (D < 1 ∨ 32 < D)) (h3 : toldB l = true) : parseL l D = match wholeR D.toNat l with
    | .ok v _ => (v, 0)
    | .bad e => (.zero, e) := by unfold parseL; rw [if_neg h, if_neg h2, if_neg (by simp [h3])]; cases wholeR D.toNat l <;> rfl
set_option maxRecDepth 100000 in
set_option maxHeartbeats 16000000 in
theorem parse_any (l : List UInt8) (a : Option Addr) (c : Nat) (D : Int) (w : World) (hrd : Rd w a l) (hl : l.length ≤ 1000000) :
    Calls Tryz.prog 22 #[.slice a l.length c, .int .i64 D] w fun e w' => Below w.heap.size w w' ∧ ∃ cs A, e = .returned (.tuple #[.agg cs.toArray, .int .i64 (parseL l D).2, .int .i64 A]) ∧ Rep (w.heap.size ≤ ·) w' cs (parseL l D).1 := by
  have HRD := Lib.hid hrd
  have hmf : ∀ (fn : Fn) (first cap : Array Value) (w : World), (Instr.makeFunc fn first cap).run Tryz.prog w = .ok (.func fn first cap) w := fun _ _ _ _ => rfl
  clear hrd
  go_enter Tryz.func22, Tryz.ntmps22
  go_upto_region 1 with (fail)
  have hb1 : Below w.heap.size w (w.alloc (.cells #[.int .i64 0, .bool false, .string ⟨#[]⟩, .slice none 0 0, .slice none 0 0] 26)) := (Below.refl _ _).alloc (Nat.le_refl _) _
  have hg1 := heap_alloc_new w (.cells #[.int .i64 0, .bool false, .string ⟨#[]⟩, .slice none 0 0, .slice none 0 0] 26)
  generalize w.alloc _ = w1 at *
  have HB1 := Lib.hid hb1
  have HG1 := Lib.hid hg1
  have HRD1 := Lib.hid (HRD.out.below hb1)
  have hgrl : w.heap.size < w1.heap.size := (Array.getElem?_eq_some_iff.1 hg1).1
  have hst := str_of_rd HRD1.out l.length c rfl
  clear hb1 hg1 HRD
  go_wp2_with fail
  refine (wrong_any l w1 hl).mono ?_
  rintro e w2 ⟨rfl, hb2⟩
  have HB2 := Lib.hid (HB1.out.trans (hb2.mono HB1.out.size))
  have HG2 := Lib.hid ((hb2.block _ hgrl).trans HG1.out)
  have HRD2 := Lib.hid (HRD1.out.below hb2)
  have hs2 : w.heap.size < w2.heap.size := Nat.lt_of_lt_of_le hgrl hb2.size
  clear hb2 HRD1 HB1 HG1 hst
  by_cases h1 : 16384 < l.length
  · have HE := Lib.hid (parse_long (D := D) h1)
    have q1 : decide ((16384 : Int) < ((l.length : Nat) : Int)) = true := decide_eq_true (by omega)
    clear h1
    have d0 : w2.cell? ⟨w.heap.size, 0, none⟩ = some (.int .i64 0) := by rw [Lib.cell_of_heap HG2.out]; rfl
    have f0 := Lib.frozen_of_heap HG2.out 0
    have d1 : w2.cell? ⟨w.heap.size, 1, none⟩ = some (.bool false) := by rw [Lib.cell_of_heap HG2.out]; rfl
    have f1 := Lib.frozen_of_heap HG2.out 1
    have d2 : w2.cell? ⟨w.heap.size, 2, none⟩ = some (.string ⟨#[]⟩) := by rw [Lib.cell_of_heap HG2.out]; rfl
    have f2 := Lib.frozen_of_heap HG2.out 2
    have d3 : w2.cell? ⟨w.heap.size, 3, none⟩ = some (.slice none 0 0) := by rw [Lib.cell_of_heap HG2.out]; rfl
    have f3 := Lib.frozen_of_heap HG2.out 3
    have d4 : w2.cell? ⟨w.heap.size, 4, none⟩ = some (.slice none 0 0) := by rw [Lib.cell_of_heap HG2.out]; rfl
    have f4 := Lib.frozen_of_heap HG2.out 4
    go_wp2_with fail
    have hst := value_stored HG2.out (.int .i64 0) (.bool false) (.string ⟨#[]⟩) (.slice none 0 0) (.slice none 0 0)
    have HBE := Lib.hid (zero_stored HB2.out (Nat.le_refl _) (.int .i64 0) (.bool false) (.string ⟨#[]⟩) (.slice none 0 0) (.slice none 0 0))
    have e0 := Lib.cell_of_heap hst 0
    have e1 := Lib.cell_of_heap hst 1
    have e2 := Lib.cell_of_heap hst 2
    have e3 := Lib.cell_of_heap hst 3
    have e4 := Lib.cell_of_heap hst 4
    simp only [List.getElem?_toArray] at e0 e1 e2 e3 e4
    refine bodyPost_ret (v := .tuple #[.agg zero5.toArray, .int .i64 11, .int .i64 0]) (by simp [zero5, results, Tryz.results22, go_sem, e0, e1, e2, e3, e4]) rfl ?_
    exact ⟨HBE.out, zero5, 0, by rw [HE.out], by rw [HE.out]; exact Rep.leaf _ _ 0 false []⟩
  have q1 : decide ((16384 : Int) < ((l.length : Nat) : Int)) = false := decide_eq_false (by omega)
  by_cases h2 : D < 1 ∨ 32 < D
  · have HE := Lib.hid (parse_deep h1 h2)
    have hq : (D < 1) ∨ (¬ D < 1 ∧ 32 < D) := by omega
    clear h1 h2
    rcases hq with h2 | ⟨h2, h3⟩
    · have q2 : decide (D < 1) = true := decide_eq_true h2
      clear h2
      have d0 : w2.cell? ⟨w.heap.size, 0, none⟩ = some (.int .i64 0) := by rw [Lib.cell_of_heap HG2.out]; rfl
      have f0 := Lib.frozen_of_heap HG2.out 0
      have d1 : w2.cell? ⟨w.heap.size, 1, none⟩ = some (.bool false) := by rw [Lib.cell_of_heap HG2.out]; rfl
      have f1 := Lib.frozen_of_heap HG2.out 1
      have d2 : w2.cell? ⟨w.heap.size, 2, none⟩ = some (.string ⟨#[]⟩) := by rw [Lib.cell_of_heap HG2.out]; rfl
      have f2 := Lib.frozen_of_heap HG2.out 2
      have d3 : w2.cell? ⟨w.heap.size, 3, none⟩ = some (.slice none 0 0) := by rw [Lib.cell_of_heap HG2.out]; rfl
      have f3 := Lib.frozen_of_heap HG2.out 3
      have d4 : w2.cell? ⟨w.heap.size, 4, none⟩ = some (.slice none 0 0) := by rw [Lib.cell_of_heap HG2.out]; rfl
      have f4 := Lib.frozen_of_heap HG2.out 4
      go_wp2_with fail
      have hst := value_stored HG2.out (.int .i64 0) (.bool false) (.string ⟨#[]⟩) (.slice none 0 0) (.slice none 0 0)
      have HBE := Lib.hid (zero_stored HB2.out (Nat.le_refl _) (.int .i64 0) (.bool false) (.string ⟨#[]⟩) (.slice none 0 0) (.slice none 0 0))
      have e0 := Lib.cell_of_heap hst 0
      have e1 := Lib.cell_of_heap hst 1
      have e2 := Lib.cell_of_heap hst 2
      have e3 := Lib.cell_of_heap hst 3
      have e4 := Lib.cell_of_heap hst 4
      simp only [List.getElem?_toArray] at e0 e1 e2 e3 e4
      refine bodyPost_ret (v := .tuple #[.agg zero5.toArray, .int .i64 12, .int .i64 0]) (by simp [zero5, results, Tryz.results22, go_sem, e0, e1, e2, e3, e4]) rfl ?_
      exact ⟨HBE.out, zero5, 0, by rw [HE.out], by rw [HE.out]; exact Rep.leaf _ _ 0 false []⟩
    · have q2 : decide (D < 1) = false := decide_eq_false h2
      have q3 : decide ((32 : Int) < D) = true := decide_eq_true h3
      clear h2 h3
      have d0 : w2.cell? ⟨w.heap.size, 0, none⟩ = some (.int .i64 0) := by rw [Lib.cell_of_heap HG2.out]; rfl
      have f0 := Lib.frozen_of_heap HG2.out 0
      have d1 : w2.cell? ⟨w.heap.size, 1, none⟩ = some (.bool false) := by rw [Lib.cell_of_heap HG2.out]; rfl
      have f1 := Lib.frozen_of_heap HG2.out 1
      have d2 : w2.cell? ⟨w.heap.size, 2, none⟩ = some (.string ⟨#[]⟩) := by rw [Lib.cell_of_heap HG2.out]; rfl
      have f2 := Lib.frozen_of_heap HG2.out 2
      have d3 : w2.cell? ⟨w.heap.size, 3, none⟩ = some (.slice none 0 0) := by rw [Lib.cell_of_heap HG2.out]; rfl
      have f3 := Lib.frozen_of_heap HG2.out 3
      have d4 : w2.cell? ⟨w.heap.size, 4, none⟩ = some (.slice none 0 0) := by rw [Lib.cell_of_heap HG2.out]; rfl
      have f4 := Lib.frozen_of_heap HG2.out 4
      go_wp2_with fail
      have hst := value_stored HG2.out (.int .i64 0) (.bool false) (.string ⟨#[]⟩) (.slice none 0 0) (.slice none 0 0)
      have HBE := Lib.hid (zero_stored HB2.out (Nat.le_refl _) (.int .i64 0) (.bool false) (.string ⟨#[]⟩) (.slice none 0 0) (.slice none 0 0))
      have e0 := Lib.cell_of_heap hst 0
      have e1 := Lib.cell_of_heap hst 1
      have e2 := Lib.cell_of_heap hst 2
      have e3 := Lib.cell_of_heap hst 3
      have e4 := Lib.cell_of_heap hst 4
      simp only [List.getElem?_toArray] at e0 e1 e2 e3 e4
      refine bodyPost_ret (v := .tuple #[.agg zero5.toArray, .int .i64 12, .int .i64 0]) (by simp [zero5, results, Tryz.results22, go_sem, e0, e1, e2, e3, e4]) rfl ?_
      exact ⟨HBE.out, zero5, 0, by rw [HE.out], by rw [HE.out]; exact Rep.leaf _ _ 0 false []⟩
  have q2 : decide (D < 1) = false := decide_eq_false (by omega)
  have q3 : decide ((32 : Int) < D) = false := decide_eq_false (by omega)
  cases h3 : toldB l with
  | false =>
    have HE := Lib.hid (parse_told h1 h2 h3)
    have q4 : decide ((0 : Int) ≤ wrongI l) = true := by
      have := wrongI_neg l
      rw [h3] at this
      have := of_decide_eq_false this
      exact decide_eq_true (by omega)
    clear h1 h2 h3
    have d0 : w2.cell? ⟨w.heap.size, 0, none⟩ = some (.int .i64 0) := by rw [Lib.cell_of_heap HG2.out]; rfl
    have f0 := Lib.frozen_of_heap HG2.out 0
    have d1 : w2.cell? ⟨w.heap.size, 1, none⟩ = some (.bool false) := by rw [Lib.cell_of_heap HG2.out]; rfl
    have f1 := Lib.frozen_of_heap HG2.out 1
    have d2 : w2.cell? ⟨w.heap.size, 2, none⟩ = some (.string ⟨#[]⟩) := by rw [Lib.cell_of_heap HG2.out]; rfl
    have f2 := Lib.frozen_of_heap HG2.out 2
    have d3 : w2.cell? ⟨w.heap.size, 3, none⟩ = some (.slice none 0 0) := by rw [Lib.cell_of_heap HG2.out]; rfl
    have f3 := Lib.frozen_of_heap HG2.out 3
    have d4 : w2.cell? ⟨w.heap.size, 4, none⟩ = some (.slice none 0 0) := by rw [Lib.cell_of_heap HG2.out]; rfl
    have f4 := Lib.frozen_of_heap HG2.out 4
    go_wp2_with fail
    have hst := value_stored HG2.out (.int .i64 0) (.bool false) (.string ⟨#[]⟩) (.slice none 0 0) (.slice none 0 0)
    have HBE := Lib.hid (zero_stored HB2.out (Nat.le_refl _) (.int .i64 0) (.bool false) (.string ⟨#[]⟩) (.slice none 0 0) (.slice none 0 0))
    have e0 := Lib.cell_of_heap hst 0
    have e1 := Lib.cell_of_heap hst 1
    have e2 := Lib.cell_of_heap hst 2
    have e3 := Lib.cell_of_heap hst 3
    have e4 := Lib.cell_of_heap hst 4
    simp only [List.getElem?_toArray] at e0 e1 e2 e3 e4
    refine bodyPost_ret (v := .tuple #[.agg zero5.toArray, .int .i64 30, .int .i64 (wrongI l)]) (by simp [zero5, results, Tryz.results22, go_sem, e0, e1, e2, e3, e4]) rfl ?_
    exact ⟨HBE.out, zero5, wrongI l, by rw [HE.out], by rw [HE.out]; exact Rep.leaf _ _ 0 false []⟩
  | true =>
    have HE := Lib.hid (parse_go h1 h2 h3)
    have q4 : decide ((0 : Int) ≤ wrongI l) = false := by
      have := wrongI_neg l
      rw [h3] at this
      have := of_decide_eq_true this
      exact decide_eq_false (by omega)
    have hD : D.toNat ≤ 1000 := by omega
    have hDD : D = ((D.toNat : Nat) : Int) := by omega
    have hst := str_of_rd HRD2.out l.length c rfl
    generalize D.toNat = dn at *
    subst hDD
    clear h1 h2 h3
    go_upto_region 9 with (fail)
    have hb8 : Below w2.heap.size w2 (w2.alloc (.cells #[.string ⟨l.toArray⟩, .int .i64 0, .int .i64 ((dn : Nat) : Int), .int .i64 0] 91)) := (Below.refl _ _).alloc (Nat.le_refl _) _
    have hg8 := heap_alloc_new w2 (.cells #[.string ⟨l.toArray⟩, .int .i64 0, .int .i64 ((dn : Nat) : Int), .int .i64 0] 91)
    generalize w2.alloc _ = w8 at *
    have HRR : Hid (Rdr w8 w2.heap.size l 0 dn 0) := Lib.hid ⟨hg8, Nat.zero_le _⟩
    have HB8 := Lib.hid (HB2.out.trans (hb8.mono HB2.out.size))
    have HG8 := Lib.hid ((hb8.block _ hs2).trans HG2.out)
    have hs8 : w2.heap.size ≤ w8.heap.size := hb8.size
    have HCA := Lib.hid (jcaught_any w2.heap.size l dn w8 HRR.out hl hD)
    clear hb8 hg8 hst HRD2 HB2 HG2
    go_wp2_with fail
    refine HCA.out.mono ?_
    rintro e w9 ⟨hb9, cs, v, E, A, rfl, hrep, hres⟩
    obtain ⟨ya, yc, ya', yc', _, _, rfl, -⟩ := hrep.out.parts
    unfold strV at *
    have HRES := hres
    have HREP := hrep
    have HB9 := Lib.hid (show Below w.heap.size w w9 from ⟨hb9.out.os.trans HB8.out.os, hb9.out.tape.trans HB8.out.tape, hb9.out.output.trans HB8.out.output, Nat.le_trans HB8.out.size hb9.out.size, fun k hk => (hb9.out.block k (by have := HB8.out.size; omega) (by omega)).trans (HB8.out.block k hk)⟩)
    have HG9 := Lib.hid ((hb9.out.block _ (by omega) (by omega)).trans HG8.out)
    clear hb9 hrep hres HCA HB8 HG8 HRR
    go_upto_region 10 with (fail)
    have hka : Below w9.heap.size w9 ((w9.alloc (.cells #[.int .i64 v.kind, .bool v.yes, .string ⟨v.text.toArray⟩, .slice ya v.list.length yc, .slice ya' v.mem.length yc'] 26)).alloc (.cells #[.int .i64 E, .int .i64 A] 93)) := ((Below.refl _ _).alloc (Nat.le_refl _) _).alloc (by simp) _
    have hkv : ((w9.alloc (.cells #[.int .i64 v.kind, .bool v.yes, .string ⟨v.text.toArray⟩, .slice ya v.list.length yc, .slice ya' v.mem.length yc'] 26)).alloc (.cells #[.int .i64 E, .int .i64 A] 93)).heap[w9.heap.size]? = some (.cells #[.int .i64 v.kind, .bool v.yes, .string ⟨v.text.toArray⟩, .slice ya v.list.length yc, .slice ya' v.mem.length yc'] 26 (0, 0)) := ((World.grownBy_alloc (w9.alloc _) _ none).block _ (by simp) (by simp)).trans (heap_alloc_new w9 _)
    have hkf : ((w9.alloc (.cells #[.int .i64 v.kind, .bool v.yes, .string ⟨v.text.toArray⟩, .slice ya v.list.length yc, .slice ya' v.mem.length yc'] 26)).alloc (.cells #[.int .i64 E, .int .i64 A] 93)).heap[w9.heap.size + 1]? = some (.cells #[.int .i64 E, .int .i64 A] 93 (0, 0)) := by
      rw [show w9.heap.size + 1 = (w9.alloc (.cells #[.int .i64 v.kind, .bool v.yes, .string ⟨v.text.toArray⟩, .slice ya v.list.length yc, .slice ya' v.mem.length yc'] 26)).heap.size by simp]
      exact heap_alloc_new _ _
    have hgr9 : w.heap.size < w9.heap.size := (Array.getElem?_eq_some_iff.1 HG9.out).1
    generalize (w9.alloc _).alloc _ = wA at *
    have HVB := Lib.hid hkv
    have HFB := Lib.hid hkf
    have HGA := Lib.hid ((hka.block _ hgr9).trans HG9.out)
    have HBA := Lib.hid (HB9.out.trans (hka.mono HB9.out.size))
    have HPA := Lib.hid (HREP.out.under hka)
    clear hka hkv hkf
    refine wp_frame_gen fun a0 hs0 hd0 hz => ?_
    have hs0 : a0.tmps.size = 48 := hs0
    have hd0 : a0.defers = [] := hd0
    have z4 : a0.tmps.getD 4 undef = .pointer (some ⟨w.heap.size, 0, none⟩) := hz 4
    have z9 : a0.tmps.getD 9 undef = .pointer (some ⟨w9.heap.size, 0, none⟩) := hz 9
    have z10 : a0.tmps.getD 10 undef = .pointer (some ⟨w9.heap.size + 1, 0, none⟩) := hz 10
    clear hz
    refine wp_region_inv (by kernel_rfl) (by kernel_rfl) (PJ w.heap.size w9.heap.size (w9.heap.size + 1) [.int .i64 v.kind, .bool v.yes, .string ⟨v.text.toArray⟩, .slice ya v.list.length yc, .slice ya' v.mem.length yc'] E A wA a0) ?_ ?_ ?_
    · exact ⟨Fr.refl _ _, (fun e => by cases e), (fun e => by cases e), (fun e => by cases e), (fun e => by cases e), (fun e => by cases e), (fun e => by cases e), (fun e => by cases e), HGA.out, fun _ _ => rfl, rfl, rfl, rfl, Nat.le_refl _⟩
    · rintro b a' w' hJ i op ho hbi hdep
      have t4 : a'.tmps.getD 4 undef = .pointer (some ⟨w.heap.size, 0, none⟩) := (hJ.fr.same 4 (by decide)).trans z4
      have t9 : a'.tmps.getD 9 undef = .pointer (some ⟨w9.heap.size, 0, none⟩) := (hJ.fr.same 9 (by decide)).trans z9
      have t10 : a'.tmps.getD 10 undef = .pointer (some ⟨w9.heap.size + 1, 0, none⟩) := (hJ.fr.same 10 (by decide)).trans z10
      rcases i with _ | _ | _ | _ | _ | _ | _ | _ | i
      · cases ho
        have v0 : w'.cell? ⟨w9.heap.size, 0, none⟩ = some (.int .i64 v.kind) := by rw [Lib.cell_of_heap ((hJ.ot _ (by omega)).trans HVB.out)]; rfl
        have v1 : w'.cell? ⟨w9.heap.size, 1, none⟩ = some (.bool v.yes) := by rw [Lib.cell_of_heap ((hJ.ot _ (by omega)).trans HVB.out)]; rfl
        have v2 : w'.cell? ⟨w9.heap.size, 2, none⟩ = some (.string ⟨v.text.toArray⟩) := by rw [Lib.cell_of_heap ((hJ.ot _ (by omega)).trans HVB.out)]; rfl
        have v3 : w'.cell? ⟨w9.heap.size, 3, none⟩ = some (.slice ya v.list.length yc) := by rw [Lib.cell_of_heap ((hJ.ot _ (by omega)).trans HVB.out)]; rfl
        have v4 : w'.cell? ⟨w9.heap.size, 4, none⟩ = some (.slice ya' v.mem.length yc') := by rw [Lib.cell_of_heap ((hJ.ot _ (by omega)).trans HVB.out)]; rfl
        refine op_step rfl rfl (op_value (v := .agg [.int .i64 v.kind, .bool v.yes, .string ⟨v.text.toArray⟩, .slice ya v.list.length yc, .slice ya' v.mem.length yc'].toArray) (w' := w') ?_ ⟨hJ.fr.put (by decide) _, (fun _ => put_at _ _ _ (by rw [hJ.fr.size, hs0]; decide)), (fun e => (put_other _ _ _ _ (by decide)).trans (hJ.b1 (by simpa using e))), (fun e => (put_other _ _ _ _ (by decide)).trans (hJ.b2 (by simpa using e))), (fun e => (put_other _ _ _ _ (by decide)).trans (hJ.b3 (by simpa using e))), (fun e => (put_other _ _ _ _ (by decide)).trans (hJ.b4 (by simpa using e))), (fun e => (put_other _ _ _ _ (by decide)).trans (hJ.b6 (by simpa using e))), (fun e => (put_other _ _ _ _ (by decide)).trans (hJ.b7 (by simpa using e))), by simpa using hJ.res, hJ.ot, hJ.os, hJ.tape, hJ.output, hJ.size⟩)
        simp only [execOp, Act.eval, t9]
        go_simp
      · cases ho
        refine op_step rfl rfl (op_value (v := .pointer (some ⟨(w9.heap.size + 1), 0, none⟩)) (w' := w') ?_ ⟨hJ.fr.put (by decide) _, (fun e => (put_other _ _ _ _ (by decide)).trans (hJ.b0 (by simpa using e))), (fun _ => put_at _ _ _ (by rw [hJ.fr.size, hs0]; decide)), (fun e => (put_other _ _ _ _ (by decide)).trans (hJ.b2 (by simpa using e))), (fun e => (put_other _ _ _ _ (by decide)).trans (hJ.b3 (by simpa using e))), (fun e => (put_other _ _ _ _ (by decide)).trans (hJ.b4 (by simpa using e))), (fun e => (put_other _ _ _ _ (by decide)).trans (hJ.b6 (by simpa using e))), (fun e => (put_other _ _ _ _ (by decide)).trans (hJ.b7 (by simpa using e))), by simpa using hJ.res, hJ.ot, hJ.os, hJ.tape, hJ.output, hJ.size⟩)
        simp only [execOp, Act.eval, t10]
        go_simp
      · cases ho
        have e1 := hJ.b1 (dep_of hdep 1 (by kernel_rfl))
        have c0 : w'.cell? ⟨w9.heap.size + 1, 0, none⟩ = some (.int .i64 E) := by rw [Lib.cell_of_heap ((hJ.ot _ (by omega)).trans HFB.out)]; rfl
        refine op_step rfl rfl (op_value (v := .int .i64 E) (w' := w') ?_ ⟨hJ.fr.put (by decide) _, (fun e => (put_other _ _ _ _ (by decide)).trans (hJ.b0 (by simpa using e))), (fun e => (put_other _ _ _ _ (by decide)).trans (hJ.b1 (by simpa using e))), (fun _ => put_at _ _ _ (by rw [hJ.fr.size, hs0]; decide)), (fun e => (put_other _ _ _ _ (by decide)).trans (hJ.b3 (by simpa using e))), (fun e => (put_other _ _ _ _ (by decide)).trans (hJ.b4 (by simpa using e))), (fun e => (put_other _ _ _ _ (by decide)).trans (hJ.b6 (by simpa using e))), (fun e => (put_other _ _ _ _ (by decide)).trans (hJ.b7 (by simpa using e))), by simpa using hJ.res, hJ.ot, hJ.os, hJ.tape, hJ.output, hJ.size⟩)
        simp only [execOp, Act.eval, e1]
        go_simp
      · cases ho
        refine op_step rfl rfl (op_value (v := .pointer (some ⟨(w9.heap.size + 1), 1, none⟩)) (w' := w') ?_ ⟨hJ.fr.put (by decide) _, (fun e => (put_other _ _ _ _ (by decide)).trans (hJ.b0 (by simpa using e))), (fun e => (put_other _ _ _ _ (by decide)).trans (hJ.b1 (by simpa using e))), (fun e => (put_other _ _ _ _ (by decide)).trans (hJ.b2 (by simpa using e))), (fun _ => put_at _ _ _ (by rw [hJ.fr.size, hs0]; decide)), (fun e => (put_other _ _ _ _ (by decide)).trans (hJ.b4 (by simpa using e))), (fun e => (put_other _ _ _ _ (by decide)).trans (hJ.b6 (by simpa using e))), (fun e => (put_other _ _ _ _ (by decide)).trans (hJ.b7 (by simpa using e))), by simpa using hJ.res, hJ.ot, hJ.os, hJ.tape, hJ.output, hJ.size⟩)
        simp only [execOp, Act.eval, t10]
        go_simp
      · cases ho
        have e1 := hJ.b3 (dep_of hdep 3 (by kernel_rfl))
        have c0 : w'.cell? ⟨w9.heap.size + 1, 1, none⟩ = some (.int .i64 A) := by rw [Lib.cell_of_heap ((hJ.ot _ (by omega)).trans HFB.out)]; rfl
        refine op_step rfl rfl (op_value (v := .int .i64 A) (w' := w') ?_ ⟨hJ.fr.put (by decide) _, (fun e => (put_other _ _ _ _ (by decide)).trans (hJ.b0 (by simpa using e))), (fun e => (put_other _ _ _ _ (by decide)).trans (hJ.b1 (by simpa using e))), (fun e => (put_other _ _ _ _ (by decide)).trans (hJ.b2 (by simpa using e))), (fun e => (put_other _ _ _ _ (by decide)).trans (hJ.b3 (by simpa using e))), (fun _ => put_at _ _ _ (by rw [hJ.fr.size, hs0]; decide)), (fun e => (put_other _ _ _ _ (by decide)).trans (hJ.b6 (by simpa using e))), (fun e => (put_other _ _ _ _ (by decide)).trans (hJ.b7 (by simpa using e))), by simpa using hJ.res, hJ.ot, hJ.os, hJ.tape, hJ.output, hJ.size⟩)
        simp only [execOp, Act.eval, e1]
        go_simp
      · cases ho
        have e0 := hJ.b0 (dep_of hdep 0 (by kernel_rfl))
        have hbf : b 5 = false := hbi
        have hres := hJ.res
        rw [if_neg (by simp [hbf])] at hres
        refine op_step rfl rfl (op_store _ (.tmp 4) (.tmp 43) rfl rfl w.heap.size 0 [.int .i64 v.kind, .bool v.yes, .string ⟨v.text.toArray⟩, .slice ya v.list.length yc, .slice ya' v.mem.length yc'] t4 e0 _ _ hres (by kernel_rfl) (by simp) (by simp [Value.oneCell']) ⟨hJ.fr, (fun e => hJ.b0 (by simpa using e)), (fun e => hJ.b1 (by simpa using e)), (fun e => hJ.b2 (by simpa using e)), (fun e => hJ.b3 (by simpa using e)), (fun e => hJ.b4 (by simpa using e)), (fun e => hJ.b6 (by simpa using e)), (fun e => hJ.b7 (by simpa using e)), ?_, ?_, hJ.os, hJ.tape, hJ.output, by simpa [World.setRow] using hJ.size⟩)
        · simpa using setRow_heap w' w.heap.size _ _ _ _ hres
        · intro k hk
          exact (setRow_other w' w.heap.size k _ hk).trans (hJ.ot k hk)
      · cases ho
        have e1 := hJ.b2 (dep_of hdep 2 (by kernel_rfl))
        refine op_step rfl rfl (op_value (v := .int .i64 E) (w' := w') ?_ ⟨hJ.fr.put (by decide) _, (fun e => (put_other _ _ _ _ (by decide)).trans (hJ.b0 (by simpa using e))), (fun e => (put_other _ _ _ _ (by decide)).trans (hJ.b1 (by simpa using e))), (fun e => (put_other _ _ _ _ (by decide)).trans (hJ.b2 (by simpa using e))), (fun e => (put_other _ _ _ _ (by decide)).trans (hJ.b3 (by simpa using e))), (fun e => (put_other _ _ _ _ (by decide)).trans (hJ.b4 (by simpa using e))), (fun _ => put_at _ _ _ (by rw [hJ.fr.size, hs0]; decide)), (fun e => (put_other _ _ _ _ (by decide)).trans (hJ.b7 (by simpa using e))), by simpa using hJ.res, hJ.ot, hJ.os, hJ.tape, hJ.output, hJ.size⟩)
        simp only [execOp, Act.eval, e1]
        go_simp
      · cases ho
        have e1 := hJ.b4 (dep_of hdep 4 (by kernel_rfl))
        refine op_step rfl rfl (op_value (v := .int .i64 A) (w' := w') ?_ ⟨hJ.fr.put (by decide) _, (fun e => (put_other _ _ _ _ (by decide)).trans (hJ.b0 (by simpa using e))), (fun e => (put_other _ _ _ _ (by decide)).trans (hJ.b1 (by simpa using e))), (fun e => (put_other _ _ _ _ (by decide)).trans (hJ.b2 (by simpa using e))), (fun e => (put_other _ _ _ _ (by decide)).trans (hJ.b3 (by simpa using e))), (fun e => (put_other _ _ _ _ (by decide)).trans (hJ.b4 (by simpa using e))), (fun e => (put_other _ _ _ _ (by decide)).trans (hJ.b6 (by simpa using e))), (fun _ => put_at _ _ _ (by rw [hJ.fr.size, hs0]; decide)), by simpa using hJ.res, hJ.ot, hJ.os, hJ.tape, hJ.output, hJ.size⟩)
        simp only [execOp, Act.eval, e1]
        go_simp
      · cases ho
    · rintro b a' w' hJ hdone
      have hres := hJ.res
      rw [if_pos (hdone 5 (by decide))] at hres
      have t4 : a'.tmps.getD 4 undef = .pointer (some ⟨w.heap.size, 0, none⟩) := (hJ.fr.same 4 (by decide)).trans z4
      have t5 := hJ.b6 (hdone 6 (by decide))
      have t6 := hJ.b7 (hdone 7 (by decide))
      have hdf := hJ.fr.defers.trans hd0
      have HPZ : Hid (Rep (w.heap.size ≤ ·) w' [.int .i64 v.kind, .bool v.yes, .string ⟨v.text.toArray⟩, .slice ya v.list.length yc, .slice ya' v.mem.length yc'] v) := Lib.hid ((HPA.out.keep fun k hk _ => hJ.ot k (by omega)).mono fun k hk => by omega)
      have HBZ : Hid (Below w.heap.size w w') := Lib.hid ⟨hJ.os.trans HBA.out.os, hJ.tape.trans HBA.out.tape, hJ.output.trans HBA.out.output, Nat.le_trans HBA.out.size hJ.size, fun k hk => (hJ.ot k (by omega)).trans (HBA.out.block k hk)⟩
      have e0 := Lib.cell_of_heap hres 0
      have e1 := Lib.cell_of_heap hres 1
      have e2 := Lib.cell_of_heap hres 2
      have e3 := Lib.cell_of_heap hres 3
      have e4 := Lib.cell_of_heap hres 4
      simp only [List.getElem?_toArray] at e0 e1 e2 e3 e4
      clear hres hJ HVB HFB HGA HBA HPA hdone
      go_wp2_with fail
      have hp : parseL l ((dn : Nat) : Int) = (v, E) := by
        rcases HRES.out with ⟨h1, h2⟩ | ⟨h1, h2⟩
        · rw [HE.out, h1, h2]
        · rw [HE.out, h1, h2]
      have t4' : a'.tmps[4]?.getD undef = .pointer (some ⟨w.heap.size, 0, none⟩) := by simpa [Array.getD_eq_getD_getElem?] using t4
      have t5' : a'.tmps[5]?.getD undef = .int .i64 E := by simpa [Array.getD_eq_getD_getElem?] using t5
      have t6' : a'.tmps[6]?.getD undef = .int .i64 A := by simpa [Array.getD_eq_getD_getElem?] using t6
      refine bodyPost_ret (v := .tuple #[.agg #[.int .i64 v.kind, .bool v.yes, .string ⟨v.text.toArray⟩, .slice ya v.list.length yc, .slice ya' v.mem.length yc'], .int .i64 E, .int .i64 A]) (by simp [results, Tryz.results22, go_sem, t4', t5', t6', e0, e1, e2, e3, e4]) hdf ?_
      exact ⟨HBZ.out, _, ⟨A, by rw [hp]⟩, by rw [hp]; exact HPZ.out⟩
end Go.Proofs.YtfdijcdpmgkdkaaGreatDoor
set_option linter.unusedVariables false
namespace Go.Proofs.YtfdijcdpmgkdkaaGreatDoor
open Go.RowKit

/-- What a value of a kind mustn't hold. -/
def bareB (k : Int) (y : Bool) (t : List UInt8) (n m : Nat) : Bool := (k == 2 || !y) && (k == 3 || k == 4 || t == []) && (k == 5 || n == 0) && (k == 6 || m == 0)
theorem zero_nat (m : Nat) : (((m : Nat) : Int) == 0) = (m == 0) := by
  rw [Bool.eq_iff_iff]
  simp
set_option maxRecDepth 100000 in
set_option maxHeartbeats 32000000 in
theorem jbare_any (k : Int) (y : Bool) (t : List UInt8) (a a' : Option Addr) (n m c c' : Nat) (w : World) :
    Calls Tryz.prog 43 #[.agg #[.int .i64 k, .bool y, .string ⟨t.toArray⟩, .slice a n c, .slice a' m c']] w fun e w' => e = .returned (.bool (bareB k y t n m)) ∧ Below w.heap.size w w' := by
  have hkk : (k = 2) ∨ (k = 3) ∨ (k = 4) ∨ (k = 5) ∨ (k = 6) ∨ ((k == 2) = false ∧ (k == 3) = false ∧ (k == 4) = false ∧ (k == 5) = false ∧ (k == 6) = false) := by
    simp only [beq_eq_false_iff_ne, ne_eq]
    omega
  have hB : Hid (∀ ob, Below w.heap.size w (w.alloc ob)) := Lib.hid fun ob => (Below.refl _ _).alloc (Nat.le_refl _) _
  go_enter Tryz.func43, Tryz.ntmps43
  go_wp2_with fail
  all_goals (refine bodyPost_ret (results_tmp rfl _ _ _) rfl ?_; refine ⟨?_, hB.out _⟩)
  all_goals clear hB hkk
  all_goals simp_all [bareB]
  all_goals rw [zero_nat]
end Go.Proofs.YtfdijcdpmgkdkaaGreatDoor
set_option linter.unusedVariables false
namespace Go.Proofs.YtfdijcdpmgkdkaaGreatDoor
open Go.RowKit

theorem dig_bad {r : List UInt8} {e : Int} (h : digitsL r = .bad e) : e = 31 := by
  unfold digitsL at h
  split at h
  · cases h
  · injection h with h; exact h.symm
theorem bind_bad_iff {α β : Type} {p : PR α} {f : α → List UInt8 → PR β} {e : Int} (h : p.bind f = .bad e) : p = .bad e ∨ ∃ x r, p = .ok x r ∧ f x r = .bad e := by
  cases p with
  | ok x r => exact .inr ⟨x, r, rfl, h⟩
  | bad e' => exact .inl (by injection h with h; rw [h])
theorem tail_bad {r : List UInt8} {e : Int} (h : numTail r = .bad e) : e = 31 := by
  unfold numTail at h
  split at h
  · exact dig_bad h
  · cases h
theorem frac_bad {r : List UInt8} {e : Int} (h : numFrac r = .bad e) : e = 31 := by
  unfold numFrac at h
  split at h
  · rcases bind_bad_iff h with h | ⟨x, q, _, h⟩
    · exact dig_bad h
    · exact tail_bad h
  · exact tail_bad h
theorem num_bad {r : List UInt8} {e : Int} (h : numberL r = .bad e) : e = 31 := by
  unfold numberL at h
  rcases bind_bad_iff h with h | ⟨x, q, _, h⟩
  · unfold numR at h
    split at h
    · exact frac_bad h
    · rcases bind_bad_iff h with h | ⟨x, q, _, h⟩
      · exact dig_bad h
      · exact frac_bad h
  · cases h
set_option maxRecDepth 100000 in
set_option maxHeartbeats 16000000 in
theorem jnumeric_any (s : List UInt8) (w : World) (hl : s.length ≤ 1000000) :
    Calls Tryz.prog 44 #[.string ⟨s.toArray⟩] w fun e w' => e = .returned (.bool (numericB s)) ∧ Below w.heap.size w w' := by
  have hmf : ∀ (fn : Fn) (first cap : Array Value) (w : World), (Instr.makeFunc fn first cap).run Tryz.prog w = .ok (.func fn first cap) w := fun _ _ _ _ => rfl
  go_enter Tryz.func44, Tryz.ntmps44
  go_upto_region 2 with (fail)
  have hb1 : Below w.heap.size w (w.alloc (.cells #[.string ⟨s.toArray⟩, .int .i64 0, .int .i64 0, .int .i64 0] 91)) := (Below.refl _ _).alloc (Nat.le_refl _) _
  have hg1 := heap_alloc_new w (.cells #[.string ⟨s.toArray⟩, .int .i64 0, .int .i64 0, .int .i64 0] 91)
  generalize w.alloc _ = w1 at *
  have HR1 : Hid (Rdr w1 w.heap.size s 0 0 0) := Lib.hid ⟨hg1, Nat.zero_le _⟩
  have HB1 := Lib.hid hb1
  have HC := Lib.hid (jcaughtn_any w.heap.size s 0 w1 HR1.out hl (by decide))
  clear hb1 hg1
  go_wp2_with fail
  refine HC.out.mono ?_
  rintro e w4 ⟨hb4, k, t, E, A, rfl, hres⟩
  have HB4 : Hid (Below w.heap.size w w4) := Lib.hid ⟨hb4.out.os.trans HB1.out.os, hb4.out.tape.trans HB1.out.tape, hb4.out.output.trans HB1.out.output, Nat.le_trans HB1.out.size hb4.out.size, fun k hk => (hb4.out.block k (by have := HB1.out.size; omega) (by omega)).trans (HB1.out.block k hk)⟩
  clear hb4 HC
  rcases hres.out with ⟨r, h1, rfl⟩ | ⟨h1, rfl⟩
  · have HE : Hid (numericB s = (t == s)) := Lib.hid (by unfold numericB; rw [h1])
    clear h1 hres
    have HBA : Hid (∀ a b, Below w.heap.size w ((w4.alloc a).alloc b)) := Lib.hid fun a b => (HB4.out.alloc HB4.out.size _).alloc (by have := HB4.out.size; simp; omega) _
    go_wp2_with fail
    refine bodyPost_ret (results_tmp rfl _ _ _) rfl ?_
    exact ⟨by rw [HE.out]; rfl, HBA.out _ _⟩
  · have hE := num_bad h1
    have HE : Hid (numericB s = false) := Lib.hid (by unfold numericB; rw [h1])
    have q : (E == 0) = false := by rw [hE]; rfl
    clear h1 hres hE
    have HBA : Hid (∀ a b, Below w.heap.size w ((w4.alloc a).alloc b)) := Lib.hid fun a b => (HB4.out.alloc HB4.out.size _).alloc (by have := HB4.out.size; simp; omega) _
    go_wp2_with fail
    refine bodyPost_ret (results_tmp rfl _ _ _) rfl ?_
    exact ⟨by rw [HE.out]; rfl, HBA.out _ _⟩
end Go.Proofs.YtfdijcdpmgkdkaaGreatDoor
namespace Go.Proofs.YtfdijcdpmgkdkaaGreatDoor
open Go.RowKit

/-- A strings.Builder of the call's own, in block b, that holds the bytes l. -/
def Bld (b : Nat) (l : List UInt8) (w : World) : Prop := Lib.IsBuilderF 87 5 b b (Lib.byteCells l) w

theorem Bld.fresh (w : World) : Bld w.heap.size [] (w.alloc (.cells #[.pointer none, .slice none 0 0] 87 (0, 0))) :=
  .inl ⟨Nat.le_refl _, .slice none 0 0, heap_alloc_new w _, World.ownsRowF_nil _ _ _ _, by simp [Value.ownBlock]⟩

theorem Bld.alloc {b : Nat} {l : List UInt8} {w : World} (h : Bld b l w) (o : Obj) : Bld b l (w.alloc o) := Lib.IsBuilderF.alloc h o
theorem Bld.lt {b : Nat} {l : List UInt8} {w : World} (h : Bld b l w) : b < w.heap.size := h.elim (·.lt) (·.lt)

theorem sizeB : (Tryz.prog.info? 87).map (·.size) = some 2 := by kernel_rfl
theorem liesB : liesAt Tryz.prog Tryz.prog.depth 87 (2 / Tryz.prog.cellsOf 87) 0 87 1 = true := by kernel_rfl
theorem infoByte : (Tryz.prog.info? 5).map (fun i => (i.zero, i.size, i.bytes)) = some (some (.int .u8 0), 1, 1) := by kernel_rfl

set_option maxHeartbeats 1000000 in
set_option maxRecDepth 100000 in
theorem copyCheck_used (b : Nat) (w : World) (h0 : w.cell? ⟨b, 0, none⟩ = some (.pointer (some ⟨b, 0, none⟩))) :
    Calls Tryz.prog 113 #[.pointer (some ⟨b, 0, none⟩)] w fun e w' => e = .returned (.tuple #[]) ∧ w' = w := by
  obtain ⟨j, hj, _⟩ := Option.map_eq_some_iff.1 sizeB
  go_enter Tryz.func113, Tryz.ntmps113
  go_wp2
  rw [Lib.run_neq_ptr_same w _ Tryz.underlying85 hj]
  go_wp2
  go_end0
  exact ⟨rfl, rfl⟩

set_option maxHeartbeats 1000000 in
set_option maxRecDepth 100000 in
theorem copyCheck_fresh (b : Nat) (w : World) (h0 : w.cell? ⟨b, 0, none⟩ = some (.pointer none)) (hsh : w.shape? b = some (87, 2)) (hfz : w.frozen? ⟨b, 0, none⟩ = false) :
    Calls Tryz.prog 113 #[.pointer (some ⟨b, 0, none⟩)] w fun e w' => e = .returned (.tuple #[]) ∧ w' = w.setCell ⟨b, 0, none⟩ (.pointer (some ⟨b, 0, none⟩)) := by
  obtain ⟨j, hj, hjs⟩ := Option.map_eq_some_iff.1 sizeB
  go_enter Tryz.func113, Tryz.ntmps113
  go_wp2
  rw [Lib.run_to_unsafe w ⟨b, 0, none⟩ Tryz.underlying85 Tryz.underlying191 hj (by rw [hjs]; decide) hsh (Nat.zero_lt_succ 1)]
  simp only [Result.andThen]
  rw [Oper.upon_value]
  go_wp2
  rw [run_callFunc_extern Tryz.func150 (by kernel_rfl) (by kernel_rfl) (by kernel_rfl) (e := Extern.AbiNoEscape.same) (by kernel_rfl)]
  rw [Lib.run_noEscape]
  simp only [Result.andThen]
  rw [Oper.upon_value]
  go_wp2
  rw [Lib.run_from_unsafe w ⟨b, 0, none⟩ Tryz.underlying191 Tryz.underlying85 hj hsh liesB]
  simp only [Result.andThen]
  rw [Oper.upon_value]
  go_wp2
  go_end0
  exact ⟨rfl, rfl⟩

theorem copyCheck_any (b : Nat) (l : List Value) (w : World) (h : Lib.IsBuilderF 87 5 b b l w) :
    Calls Tryz.prog 113 #[.pointer (some ⟨b, 0, none⟩)] w fun e w' => e = .returned (.tuple #[]) ∧ (Lib.BuilderAtF 87 5 b b (.pointer (some ⟨b, 0, none⟩)) l w' ∧ Below b w w' ∧ Lib.OthersKept 5 (some b) w w') := by
  rcases h with h | h
  · refine (copyCheck_fresh b w h.cell0 h.shape h.frozen0).mono ?_
    rintro e w' ⟨rfl, rfl⟩
    exact ⟨rfl, h.used _, (Below.refl b w).setCell (p := ⟨b, 0, none⟩) h.1 _, (Lib.OthersKept.refl _ _ w).setCell ⟨b, 0, none⟩ rfl _⟩
  · refine (copyCheck_used b w h.cell0).mono ?_
    rintro e w' ⟨rfl, rfl⟩
    exact ⟨rfl, h, Below.refl b _, Lib.OthersKept.refl _ _ _⟩

theorem neB : (87 : Nat) ≠ 5 := by decide

set_option maxHeartbeats 2000000 in
set_option maxRecDepth 100000 in
/-- WriteByte puts one byte behind what the builder holds. -/
theorem WriteByte_any (b : Nat) (l : List UInt8) (c : Int) (x : UInt8) (hx : c = x.toNat) (w : World) (h : Bld b l w) (hlen : l.length + 1 ≤ 140737488355328) :
    Calls Tryz.prog 74 #[.pointer (some ⟨b, 0, none⟩), .int .u8 c] w fun e w' => e = .returned .nilIface ∧ (Bld b (l ++ [x]) w' ∧ Below b w w' ∧ Lib.OthersKept 5 (some b) w w') := by
  obtain ⟨i0, hi, hz0, hz1, hz2⟩ := info_parts infoByte
  have hbw := h.lt
  have hll : (Lib.byteCells l).length = l.length := by simp [Lib.byteCells]
  have e2 : Lib.byteCells (l ++ [x]) = Lib.byteCells l ++ [.int .u8 c] := by simp [Lib.byteCells, hx]
  have E2 := Lib.hid e2
  have HX := Lib.hid hx
  have HL := Lib.hid hll
  clear e2 hx hll
  go_enter Tryz.func74, Tryz.ntmps74
  go_wp2_with (go_at_call 113; refine (copyCheck_any b _ _ h).mono ?_)
  rintro e w1 ⟨rfl, h1, hb1, hk1⟩
  obtain ⟨hB, v, hbk, hown, hne⟩ := h1
  have c0 : w1.cell? ⟨b, 0, none⟩ = some (.pointer (some ⟨b, 0, none⟩)) := by rw [Lib.cell_of_heap hbk]; rfl
  have c1 : w1.cell? ⟨b, 1, none⟩ = some v := by rw [Lib.cell_of_heap hbk]; rfl
  go_wp2_with (at_builtin; refine wpList_append_ownF _ rfl _ _ 41 rfl b 5 i0 (.int .u8 0) 1 1 Tryz.underlying41 hi hz0 hz1 hz2 rfl (by decide) _ _ _ rfl (hown.alloc _) ⟨w1.heap.size, 0, none⟩ 1 1 [.int .u8 c] rfl rfl ?c1 ?c2 ?c3 ?c4 ?c5 ?_)
  case c1 =>
    intro j u hj
    match j, hj with
    | 0, hj => simp at hj; subst hj; simp [Addr.add]
  case c2 => intro u hu; simp at hu; subst hu; rfl
  case c3 => rw [HL.out]; unfold maxLen; omega
  case c4 => rw [HL.out]; omega
  case c5 => have := hb1.size; simp; omega
  intro v' w2 hown' hgrow _
  have hlt : b < w1.heap.size := Nat.lt_of_lt_of_le hbw hb1.size
  have hb2 : w2.heap[b]? = some (.cells #[.pointer (some ⟨b, 0, none⟩), v] 87 (0, 0)) := by
    rw [hgrow.block b (by simp; omega) (fun e => hne e.symm), Lib.alloc_old w1 _ b hlt]
    exact hbk
  have d0 : w2.cell? ⟨b, 0, none⟩ = some (.pointer (some ⟨b, 0, none⟩)) := by rw [Lib.cell_of_heap hb2]; rfl
  have d1 : w2.cell? ⟨b, 1, none⟩ = some v := by rw [Lib.cell_of_heap hb2]; rfl
  have f1 : w2.frozen? ⟨b, 1, none⟩ = false := Lib.frozen_of_heap hb2 1
  obtain ⟨g, cap, rfl⟩ : ∃ g cap, v' = .slice (some ⟨g, 0, none⟩) ((Lib.byteCells l).length + 1) cap := by
    rcases hown'.2 with ⟨_, h0⟩ | ⟨g, cap, cur, fz, hv, _⟩
    · omega
    · exact ⟨g, cap, hv⟩
  go_wp2
  go_ret
  refine ⟨rfl, ?_, ?_, ((hk1.alloc _).grown hgrow (Lib.ownsRowF_kind (hown.alloc _))).setCell ⟨b, 1, none⟩ rfl _⟩
  · unfold Bld
    rw [E2.out]
    exact .inr (Lib.BuilderAtF.put (T := 87) (e := 5) hB hb2 (bs' := Lib.byteCells l ++ [.int .u8 c]) (by simpa using hown') neB)
  · exact ((hb1.alloc (by have := hb1.size; omega) _).grown hgrow (by have := hb1.size; simp; omega) (fun k hk => (hown.lt k hk).1)).setCell (p := ⟨b, 1, none⟩) hB _


/-- String hands out what the builder holds. -/
theorem BString_any (b : Nat) (l : List UInt8) (w : World) (h : Bld b l w) :
    Calls Tryz.prog 53 #[.pointer (some ⟨b, 0, none⟩)] w fun e w' => e = .returned (.string ⟨l.toArray⟩) ∧ (Bld b l w' ∧ Below b w w' ∧ Lib.OthersKept 5 (some b) w w') :=
  Tryz.Builder_String_any_k b b l w h (Nat.le_of_lt h.lt)

end Go.Proofs.YtfdijcdpmgkdkaaGreatDoor
set_option linter.unusedVariables false
namespace Go.Proofs.YtfdijcdpmgkdkaaGreatDoor
open Go.RowKit

theorem Bld.below {b : Nat} {l : List UInt8} {w w' : World} (h : Bld b l w) (hb : Below w.heap.size w w') : Bld b l w' := by
  have go : ∀ p, Lib.BuilderAtF 87 5 b b p (Lib.byteCells l) w → Lib.BuilderAtF 87 5 b b p (Lib.byteCells l) w' := by
    intro p h
    have hlt := h.lt
    obtain ⟨hB, v, hbk, hown, hne⟩ := h
    exact ⟨hB, v, (hb.block b hlt).trans hbk, hown.kept (row := none) ⟨hb.os, hb.tape, hb.output, hb.size, fun k hk _ => hb.block k hk⟩ (by cases hv : v.ownBlock <;> simp), hne⟩
  exact h.elim (fun x => .inl (go _ x)) (fun x => .inr (go _ x))

end Go.Proofs.YtfdijcdpmgkdkaaGreatDoor
set_option linter.unusedVariables false
namespace Go.Proofs.YtfdijcdpmgkdkaaGreatDoor
open Go.RowKit

/-- A builder in block b that holds the bytes l. -/
def BldZ (b : Nat) (l : List UInt8) (w : World) : Prop :=
  ∃ p v, (p = Value.pointer none ∨ p = Value.pointer (some ⟨b, 0, none⟩)) ∧ w.heap[b]? = some (.cells #[p, v] 87 (0, 0)) ∧ w.ownsRow (b + 1) 5 1 v l.length (Lib.byteCells l)
/-- What a write leaves. -/
structure FrZ (b : Nat) (w w' : World) : Prop where
  os : w'.os = w.os
  tape : w'.tape = w.tape
  output : w'.output = w.output
  size : w.heap.size ≤ w'.heap.size
  low : ∀ k, k < b → w'.heap[k]? = w.heap[k]?
  block : ∀ k o, w.heap[k]? = some o → k ≠ b → (∀ c, o ≠ .cells c 5 (0, 0)) → w'.heap[k]? = some o
theorem FrZ.refl (b : Nat) (w : World) : FrZ b w w := ⟨rfl, rfl, rfl, Nat.le_refl _, fun _ _ => rfl, fun _ _ h _ _ => h⟩
theorem FrZ.trans {b : Nat} {w w' w'' : World} (h : FrZ b w w') (k : FrZ b w' w'') : FrZ b w w'' :=
  ⟨k.os.trans h.os, k.tape.trans h.tape, k.output.trans h.output, Nat.le_trans h.size k.size, fun i hi => (k.low i hi).trans (h.low i hi), fun i o ho hb hn => k.block i o (h.block i o ho hb hn) hb hn⟩
theorem FrZ.below {b : Nat} {w w' : World} (h : FrZ b w w') : Below b w w' := ⟨h.os, h.tape, h.output, h.size, h.low⟩
theorem FrZ.of_below {b : Nat} {w w' : World} (h : Below w.heap.size w w') (hb : b ≤ w.heap.size) : FrZ b w w' := ⟨h.os, h.tape, h.output, h.size, fun k hk => h.block k (by omega), fun k o ho _ _ => (h.block k (Array.getElem?_eq_some_iff.1 ho).1).trans ho⟩
theorem BldZ.lt {b : Nat} {l : List UInt8} {w : World} (h : BldZ b l w) : b < w.heap.size := by
  obtain ⟨p, v, hp, hbk, hown⟩ := h
  exact (Array.getElem?_eq_some_iff.1 hbk).1
theorem BldZ.fresh (w : World) : BldZ w.heap.size [] (w.alloc (.cells #[.pointer none, .slice none 0 0] 87 (0, 0))) :=
  ⟨_, _, .inl rfl, heap_alloc_new w _, rfl, .inl ⟨rfl, rfl⟩⟩
theorem BldZ.below {b : Nat} {l : List UInt8} {w w' : World} (h : BldZ b l w) (hb : Below w.heap.size w w') : BldZ b l w' := by
  obtain ⟨p, v, hp, hbk, hown⟩ := h
  exact ⟨p, v, hp, (hb.block b (Array.getElem?_eq_some_iff.1 hbk).1).trans hbk, hown.kept (row := none) ⟨hb.os, hb.tape, hb.output, hb.size, fun k hk _ => hb.block k hk⟩ (by cases v.ownBlock <;> simp)⟩
theorem BldZ.bld {b : Nat} {l : List UInt8} {w : World} (h : BldZ b l w) : Bld b l w := by
  obtain ⟨p, v, hp, hbk, hown⟩ := h
  have hne : v.ownBlock ≠ some b := fun e => by have := (hown.lt b e).1; omega
  have hF := World.ownsRowF_of hown
  have hown' : w.ownsRowF b 5 1 v (Lib.byteCells l).length (Lib.byteCells l) := by
    have hl : (Lib.byteCells l).length = l.length := by simp [Lib.byteCells]
    rw [hl]
    exact ⟨hF.1, hF.2.imp id fun ⟨g, cap, cur, fz, e, hg, r⟩ => ⟨g, cap, cur, fz, e, by omega, r⟩⟩
  rcases hp with rfl | rfl
  · exact .inl ⟨Nat.le_refl _, v, hbk, hown', hne⟩
  · exact .inr ⟨Nat.le_refl _, v, hbk, hown', hne⟩
theorem FrZ.cell {b : Nat} {a w : World} (h : FrZ b a w) (j : Nat) (v : Value) : FrZ b a (w.setCell ⟨b, j, none⟩ v) :=
  ⟨h.os, h.tape, h.output, by have := h.size; simp [World.setCell]; omega, fun k hk => (Below.heap_setCell _ _ _ _ (show k ≠ b by omega)).trans (h.low k hk), fun k o ho hb hn => (Below.heap_setCell _ _ _ _ hb).trans (h.block k o ho hb hn)⟩
theorem FrZ.grown {b : Nat} {a w w' : World} {v : Value} {n : Nat} {xs : List Value} (h : FrZ b a w) (hg : w.grownBy w' v.ownBlock) (hown : w.ownsRow (b + 1) 5 1 v n xs) (hb : b ≤ w.heap.size) : FrZ b a w' := by
  refine ⟨hg.os.trans h.os, hg.tape.trans h.tape, hg.output.trans h.output, Nat.le_trans h.size hg.size, fun k hk => (hg.block k (by omega) (fun e => by have := (hown.lt k e.symm).1; omega)).trans (h.low k hk), fun k o ho hkb hn => ?_⟩
  have h1 := h.block k o ho hkb hn
  refine (hg.block k (Array.getElem?_eq_some_iff.1 h1).1 (fun e => ?_)).trans h1
  rcases hown.2 with ⟨rfl, _⟩ | ⟨g, cap, cur, rfl, _, hgg, _⟩
  · simp [Value.ownBlock] at e
  · simp only [Value.ownBlock, Option.some.injEq] at e
    subst e
    rw [h1] at hgg
    exact hn cur (Option.some.inj hgg)
theorem FrZ.alloc {b : Nat} {a w : World} (h : FrZ b a w) (hb : b ≤ w.heap.size) (o : Obj) : FrZ b a (w.alloc o) := h.trans (FrZ.of_below ((Below.refl _ _).alloc (Nat.le_refl _) _) hb)
theorem copyCheck_z (b : Nat) (l : List UInt8) (w : World) (h : BldZ b l w) :
    Calls Tryz.prog 113 #[.pointer (some ⟨b, 0, none⟩)] w fun e w' => e = .returned (.tuple #[]) ∧ (∃ v, w'.heap[b]? = some (.cells #[.pointer (some ⟨b, 0, none⟩), v] 87 (0, 0)) ∧ w'.ownsRow (b + 1) 5 1 v l.length (Lib.byteCells l)) ∧ FrZ b w w' := by
  obtain ⟨p, v, hp, hbk, hown⟩ := h
  have c0 : w.cell? ⟨b, 0, none⟩ = some p := by rw [Lib.cell_of_heap hbk]; rfl
  rcases hp with rfl | rfl
  · refine (copyCheck_fresh b w c0 (by simp [World.shape?, hbk]) (Lib.frozen_of_heap hbk 0)).mono ?_
    rintro e w' ⟨rfl, rfl⟩
    have hne : v.ownBlock ≠ some b := fun e => by have := (hown.lt b e).1; omega
    refine ⟨rfl, ⟨v, by simp [World.setCell, Array.getElem?_modify, hbk], ?_⟩, (FrZ.refl b w).cell 0 _⟩
    exact hown.kept (row := some b) ⟨rfl, rfl, rfl, by simp [World.setCell], fun k _ hk => Below.heap_setCell _ _ _ _ (fun e => hk (by simp [e]))⟩ (Or.inr hne)
  · refine (copyCheck_used b w c0).mono ?_
    rintro e w' ⟨rfl, rfl⟩
    exact ⟨rfl, ⟨v, hbk, hown⟩, FrZ.refl _ _⟩

set_option maxHeartbeats 2000000 in
set_option maxRecDepth 100000 in
theorem WriteByte_z (b : Nat) (l : List UInt8) (c : Int) (x : UInt8) (hx : c = x.toNat) (w : World) (h : BldZ b l w) (hlen : l.length + 1 ≤ 140737488355328) :
    Calls Tryz.prog 74 #[.pointer (some ⟨b, 0, none⟩), .int .u8 c] w fun e w' => e = .returned .nilIface ∧ BldZ b (l ++ [x]) w' ∧ FrZ b w w' := by
  obtain ⟨i0, hi, hz0, hz1, hz2⟩ := info_parts infoByte
  have hBw := h.lt
  have e2 : Lib.byteCells (l ++ [x]) = Lib.byteCells l ++ [.int .u8 c] := by simp [Lib.byteCells, hx]
  have E2 := Lib.hid e2
  have HX := Lib.hid hx
  clear e2 hx
  go_enter Tryz.func74, Tryz.ntmps74
  go_wp2_with (go_at_call 113; refine (copyCheck_z b l _ h).mono ?_)
  rintro e w1 ⟨rfl, ⟨v, hbk, hown⟩, hf1⟩
  have c0 : w1.cell? ⟨b, 0, none⟩ = some (.pointer (some ⟨b, 0, none⟩)) := by rw [Lib.cell_of_heap hbk]; rfl
  have c1 : w1.cell? ⟨b, 1, none⟩ = some v := by rw [Lib.cell_of_heap hbk]; rfl
  have hne : v.ownBlock ≠ some b := fun e => by have := (hown.lt b e).1; omega
  go_wp2_with (at_builtin; refine wpList_append_own _ rfl _ _ 41 rfl (b + 1) 5 i0 (.int .u8 0) 1 1 Tryz.underlying41 hi hz0 hz1 hz2 rfl (by decide) _ _ _ rfl (hown.alloc _) ⟨w1.heap.size, 0, none⟩ 1 1 [.int .u8 c] rfl rfl ?c1 ?c2 ?c3 ?c4 ?c5 ?_)
  case c1 =>
    intro j u hj
    match j, hj with
    | 0, hj => simp at hj; subst hj; simp [Addr.add]
  case c2 => intro u hu; simp at hu; subst hu; rfl
  case c3 => unfold maxLen; omega
  case c4 => omega
  case c5 => have := hf1.size; simp; omega
  intro v' w2 hown' hgrow _
  have hlt : b < w1.heap.size := (Array.getElem?_eq_some_iff.1 hbk).1
  have hb2 : w2.heap[b]? = some (.cells #[.pointer (some ⟨b, 0, none⟩), v] 87 (0, 0)) := by
    rw [hgrow.block b (by simp; omega) (fun e => hne e.symm), Lib.alloc_old w1 _ b hlt]
    exact hbk
  have d0 : w2.cell? ⟨b, 0, none⟩ = some (.pointer (some ⟨b, 0, none⟩)) := by rw [Lib.cell_of_heap hb2]; rfl
  have d1 : w2.cell? ⟨b, 1, none⟩ = some v := by rw [Lib.cell_of_heap hb2]; rfl
  have f1 : w2.frozen? ⟨b, 1, none⟩ = false := Lib.frozen_of_heap hb2 1
  obtain ⟨g, cap, rfl⟩ : ∃ g cap, v' = .slice (some ⟨g, 0, none⟩) (l.length + 1) cap := by
    rcases hown'.2 with ⟨_, h0⟩ | ⟨g, cap, cur, hv, _⟩
    · omega
    · exact ⟨g, cap, hv⟩
  have hne' : Value.ownBlock (.slice (some ⟨g, 0, none⟩) (l.length + 1) cap) ≠ some b := fun e => by have := (hown'.lt b e).1; omega
  have hf2 : FrZ b w w2 := (hf1.alloc (by have := hf1.size; omega) _).grown hgrow (hown.alloc _) (by have := hf1.size; simp; omega)
  go_wp2
  go_ret
  refine ⟨rfl, ⟨_, .slice (some ⟨g, 0, none⟩) (l.length + 1) cap, .inr rfl, ?_, ?_⟩, hf2.cell 1 _⟩
  · simp [World.setCell, Array.getElem?_modify, hb2]
  · rw [E2.out, List.length_append]
    exact (show w2.ownsRow (b + 1) 5 1 (.slice (some ⟨g, 0, none⟩) (l.length + 1) cap) (l.length + 1) (Lib.byteCells l ++ [.int .u8 c]) from hown').kept (row := some b) ⟨rfl, rfl, rfl, by simp [World.setCell], fun k _ hk => Below.heap_setCell _ _ _ _ (fun e => hk (by simp [e]))⟩ (Or.inr hne')

set_option maxHeartbeats 2000000 in
set_option maxRecDepth 100000 in
theorem WriteString_z (b : Nat) (l m : List UInt8) (w : World) (h : BldZ b l w) (hlen : l.length + m.length ≤ 140737488355328) :
    Calls Tryz.prog 89 #[.pointer (some ⟨b, 0, none⟩), .string ⟨m.toArray⟩] w fun e w' => e = .returned (.tuple #[.int .i64 (m.length : Nat), .nilIface]) ∧ BldZ b (l ++ m) w' ∧ FrZ b w w' := by
  obtain ⟨i0, hi, hz0, hz1, hz2⟩ := info_parts infoByte
  have hBw := h.lt
  have e2 : Lib.byteCells (l ++ m) = Lib.byteCells l ++ Lib.strCells ⟨m.toArray⟩ := by simp [Lib.byteCells, Lib.strCells]
  have E2 := Lib.hid e2
  clear e2
  go_enter Tryz.func89, Tryz.ntmps89
  go_wp2_with (go_at_call 113; refine (copyCheck_z b l _ h).mono ?_)
  rintro e w1 ⟨rfl, ⟨v, hbk, hown⟩, hf1⟩
  have c0 : w1.cell? ⟨b, 0, none⟩ = some (.pointer (some ⟨b, 0, none⟩)) := by rw [Lib.cell_of_heap hbk]; rfl
  have c1 : w1.cell? ⟨b, 1, none⟩ = some v := by rw [Lib.cell_of_heap hbk]; rfl
  have hne : v.ownBlock ≠ some b := fun e => by have := (hown.lt b e).1; omega
  go_wp2_with (at_builtin; refine Lib.wpList_append_own_string _ rfl _ _ 41 9 rfl (b + 1) 5 i0 Tryz.underlying41 Tryz.underlying9 hi hz0 hz1 hz2 _ _ _ rfl hown ⟨m.toArray⟩ rfl ?c3 ?c4 ?c5 ?_)
  case c3 => unfold maxLen; simp only [ByteArray.size, List.size_toArray]; omega
  case c4 => simp only [ByteArray.size, List.size_toArray]; omega
  case c5 => have := hf1.size; omega
  intro v' w2 hown' hgrow _
  have hlt : b < w1.heap.size := (Array.getElem?_eq_some_iff.1 hbk).1
  have hb2 : w2.heap[b]? = some (.cells #[.pointer (some ⟨b, 0, none⟩), v] 87 (0, 0)) := by
    rw [hgrow.block b hlt (fun e => hne e.symm)]
    exact hbk
  have d0 : w2.cell? ⟨b, 0, none⟩ = some (.pointer (some ⟨b, 0, none⟩)) := by rw [Lib.cell_of_heap hb2]; rfl
  have d1 : w2.cell? ⟨b, 1, none⟩ = some v := by rw [Lib.cell_of_heap hb2]; rfl
  have f1 : w2.frozen? ⟨b, 1, none⟩ = false := Lib.frozen_of_heap hb2 1
  have hf2 : FrZ b w w2 := hf1.grown hgrow hown (by have := hf1.size; omega)
  have hsz : (⟨m.toArray⟩ : ByteArray).size = m.length := by simp [ByteArray.size]
  obtain ⟨ao, n', cap, rfl⟩ : ∃ ao n' cap, v' = .slice ao n' cap := by
    rcases hown'.2 with ⟨hv, _⟩ | ⟨g, cap, cur, hv, _⟩
    · exact ⟨_, _, _, hv⟩
    · exact ⟨_, _, _, hv⟩
  have hne' : Value.ownBlock (.slice ao n' cap) ≠ some b := fun e => by have := (hown'.lt b e).1; omega
  try rw [hsz] at hown'
  have HOW := Lib.hid hown'
  have HNE := Lib.hid hne'
  clear hown' hne' hgrow
  go_wp2
  go_ret2
  refine ⟨rfl, ⟨_, .slice ao n' cap, .inr rfl, ?_, ?_⟩, hf2.cell 1 _⟩
  · simp [World.setCell, Array.getElem?_modify, hb2]
  · rw [E2.out, List.length_append]
    exact HOW.out.kept (row := some b) ⟨rfl, rfl, rfl, by simp [World.setCell], fun k _ hk => Below.heap_setCell _ _ _ _ (fun e => hk (by simp [e]))⟩ (Or.inr HNE.out)
end Go.Proofs.YtfdijcdpmgkdkaaGreatDoor
set_option linter.unusedVariables false
namespace Go.Proofs.YtfdijcdpmgkdkaaGreatDoor
open Go.RowKit

/-- The bytes l in a block g from block B on, none of them frozen. -/
def Tf (B : Nat) (w : World) (v : Value) (l : List UInt8) : Prop :=
  ∃ g cap cur fr, v = .slice (some ⟨g, 0, none⟩) l.length cap ∧ B ≤ g ∧ w.heap[g]? = some (.cells cur 5 fr) ∧ (fr.1 = fr.2 ∨ cap ≤ fr.1) ∧ l.length ≤ cap ∧ cap ≤ cur.size ∧ cap ≤ maxLen ∧ ∀ j (h : j < l.length), cur[j]? = some (.int .u8 (l[j]).toNat)
theorem frozen_no {w : World} {g cap : Nat} {cur : Array Value} {T : TypeId} {fr : Nat × Nat} (hg : w.heap[g]? = some (.cells cur T fr)) (hf : fr.1 = fr.2 ∨ cap ≤ fr.1) (o : Nat) (ho : o < cap) : w.frozen? ⟨g, o, none⟩ = false := by
  unfold World.frozen?
  simp only [hg]
  rcases hf with h | h
  · simp; omega
  · simp; omega
theorem Tf.shape {B : Nat} {w : World} {v : Value} {l : List UInt8} (h : Tf B w v l) : ∃ g c, v = .slice (some ⟨g, 0, none⟩) l.length c ∧ B ≤ g ∧ g < w.heap.size ∧ Rd w (some ⟨g, 0, none⟩) l ∧ (∀ j (hj : j < l.length), w.cell? ⟨g, j, none⟩ = some (.int .u8 (l[j]).toNat)) ∧ (∀ j, j < l.length → w.frozen? ⟨g, j, none⟩ = false) := by
  obtain ⟨g, cap, cur, fr, rfl, hB, hg, hf, hc, _, _, hl⟩ := h
  exact ⟨g, cap, rfl, hB, (Array.getElem?_eq_some_iff.1 hg).1, .inr ⟨g, 0, rfl, fun i hi => by rw [Lib.cell_of_heap hg, Nat.zero_add]; exact hl i hi⟩, fun j hj => by rw [Lib.cell_of_heap hg]; exact hl j hj, fun j hj => frozen_no hg hf j (by omega)⟩
theorem Tf.keep {B : Nat} {w w' : World} {v : Value} {l : List UInt8} (h : Tf B w v l) (hb : Below w.heap.size w w') : Tf B w' v l := by
  obtain ⟨g, cap, cur, fr, rfl, hB, hg, h⟩ := h
  exact ⟨g, cap, cur, fr, rfl, hB, (hb.block _ (Array.getElem?_eq_some_iff.1 hg).1).trans hg, h⟩
theorem Tf.of_own {B : Nat} {w : World} {v : Value} {l : List UInt8} (h : Own B w v l) (hl : l ≠ []) : Tf B w v l := by
  rcases h.2 with ⟨rfl, h0⟩ | ⟨g, cap, cur, rfl, hB, hg, hlc, hm, hsz, htake⟩
  · exact absurd (List.eq_nil_of_length_eq_zero h0) hl
  · refine ⟨g, cap, cur, (0, 0), rfl, hB, hg, .inl rfl, hlc, by omega, hm, fun j hj => ?_⟩
    have h1 : (cur.toList.take (l.length * 1))[j]? = (Lib.byteCells l)[j]? := by rw [htake]
    rw [List.getElem?_take, if_pos (by omega)] at h1
    rw [← Array.getElem?_toList, h1]
    simp [Lib.byteCells, hj]
theorem Tf.set {B : Nat} {w : World} {g n c : Nat} {l : List UInt8} (h : Tf B w (.slice (some ⟨g, 0, none⟩) n c) l) (j : Nat) (x : UInt8) (hj : j < l.length) : Tf B (w.setCell ⟨g, j, none⟩ (.int .u8 x.toNat)) (.slice (some ⟨g, 0, none⟩) n c) (l.set j x) := by
  obtain ⟨g', cap, cur, fr, he, hB, hg, hf, hc, hs, hm, hl⟩ := h
  simp at he
  obtain ⟨rfl, rfl, rfl⟩ := he
  refine ⟨g, c, cur.setIfInBounds j (.int .u8 x.toNat), fr, by simp, hB, by simp [World.setCell, Array.getElem?_modify, hg], hf, by simpa using hc, by simpa using hs, hm, fun i hi => ?_⟩
  simp only [List.length_set] at hi
  by_cases e : i = j
  · subst e
    have hi2 : i < cur.size := by omega
    simp [hi2]
  · rw [Array.getElem?_setIfInBounds_ne (fun h => e h.symm), hl i hi, List.getElem_set_ne (fun h => e h.symm)]
/-- []byte(s) -/
theorem tf_of_str (l : List UInt8) (w : World) (hl : l.length ≤ 1000000) : ∃ g c w', (convert 9 41 (.string ⟨l.toArray⟩)).run Tryz.prog w = .ok (.slice (some ⟨g, 0, none⟩) l.length c) w' ∧ Below w.heap.size w w' ∧ Tf w.heap.size w' (.slice (some ⟨g, 0, none⟩) l.length c) l := by
  have h := Lib.run_convert_string_bytes (P := Tryz.prog) w 9 41 5 ⟨l.toArray⟩ Tryz.underlying9 Tryz.underlying41 Tryz.underlying5
  have hs : (⟨l.toArray⟩ : ByteArray).size = l.length := by simp [ByteArray.size]
  rw [hs] at h
  have hge := grownCap_ge w l.length 0 5
  have hle := grownCap_le_maxLen w l.length 0 5 (by unfold maxLen; omega)
  have hcs : (Lib.bytesCells w 5 ⟨l.toArray⟩).size = grownCap w l.length 0 5 := by
    unfold Lib.bytesCells
    rw [hs]
    simp
    omega
  refine ⟨_, _, _, h, ⟨rfl, rfl, rfl, by rw [Lib.bytesWorld_size]; omega, fun k hk => Lib.bytesWorld_at_old _ _ _ _ hk⟩, ?_⟩
  refine ⟨w.heap.size, grownCap w l.length 0 5, _, _, rfl, Nat.le_refl _, Lib.bytesWorld_at_new w 5 ⟨l.toArray⟩, .inr ?_, hge, by omega, hle, fun j hj => ?_⟩
  · rw [hcs]; exact Nat.le_refl _
  · simp [Lib.bytesCells, Array.getElem?_append, hj]
end Go.Proofs.YtfdijcdpmgkdkaaGreatDoor
