/- text.Escape. -/
import Derived.Test.YtgmieceebchmfaaDoorTxtF
import Derived.Test.YtgmieceebchmfaaDoorBldX
import Derived.StillTailTactics
import Derived.Laws.BitsLemmas
import Derived.Laws.Strings2
set_option linter.unusedVariables false
namespace Go.Proofs.YtgmieceebchmfaaDoor
open Go.RowKit

theorem hex_fin : ∀ n : Fin 16, (⟨#[48, 49, 50, 51, 52, 53, 54, 55, 56, 57, 65, 66, 67, 68, 69, 70]⟩ : ByteArray).extract n.val (n.val + 1) = ⟨#[hexD n.val]⟩ := by decide +kernel

theorem BldX.of_heap {b B : Nat} {l : List UInt8} {w w' : World} (h : BldX b B l w) (e : w'.heap = w.heap) : BldX b B l w' := by
  unfold BldX World.ownsRowF at *
  rw [e]
  exact h
theorem hex_slice (n : Nat) (hn : n < 16) (LO HI : Int) (hL : LO = n) (hH : HI = n + 1) (w : World) :
    (Instr.slice 9 (.string ⟨#[48, 49, 50, 51, 52, 53, 54, 55, 56, 57, 65, 66, 67, 68, 69, 70]⟩) (some (.int .u8 LO)) (some (.int .u8 HI)) none).run Tryd.prog w = .ok (.string ⟨#[hexD n]⟩) w := by
  subst hL hH
  rw [run_slice_string w 9 _ .u8 .u8 (n : Int) ((n : Int) + 1) Tryd.underlying9 (by omega) (by omega) (by simp [ByteArray.size]; omega)]
  have e := hex_fin ⟨n, hn⟩
  simp only at e
  rw [show ((n : Int)).toNat = n by omega, show ((n : Int) + 1).toNat = n + 1 by omega, e]

set_option maxRecDepth 100000 in
set_option maxHeartbeats 8000000 in
theorem escape_any (s : List UInt8) (w : World) (hs : s.length ≤ 1000000) :
    Calls Tryd.prog 15 #[.string ⟨s.toArray⟩] w fun e w' => e = .returned (.string ⟨(escT s).toArray⟩) ∧ Below w.heap.size w w' := by
  obtain ⟨cD, w1, hcv, hb1, hrd, hz1⟩ := bytes_of_str s (w.alloc (.cells #[.pointer none, .slice none 0 0] 52))
  rw [show (w.alloc (.cells #[.pointer none, .slice none 0 0] 52)).heap.size = w.heap.size + 1 by simp] at hcv hb1 hrd hz1
  have hbk : w1.heap[w.heap.size]? = some (.cells #[.pointer none, .slice none 0 0] 52 (0, 0)) := (hb1.block _ (Nat.lt_succ_self _)).trans (heap_alloc_new _ _)
  have hbb : Below w.heap.size w w1 := ((Below.refl _ _).alloc (Nat.le_refl _) _).trans (hb1.mono (Nat.le_succ _))
  have HRD := Lib.hid hrd
  have HBX := Lib.hid (BldX.fresh hbk (B := w.heap.size + 2) (by omega) (by omega))
  have HB1 := Lib.hid hbb
  clear hb1 hrd hz1 hbk hbb
  go_enter Tryd.func15, Tryd.ntmps15
  go_wp2_with fail
  go_loopg [9] s.length (fun k y wr => ∃ j : Nat, y = .int .i64 (j : Int) ∧ j + k = s.length ∧ Hid (BldX w.heap.size (w.heap.size + 2) (escT (s.take j)) wr) ∧ Hid (Rd wr (some ⟨w.heap.size + 1, 0, none⟩) s) ∧ Hid (Below w.heap.size w wr))
  case atStart => exact ⟨0, rfl, by omega, HBX, HRD, HB1⟩
  case round =>
    obtain ⟨j, rfl, hj, HX, HR, HB⟩ := hrel
    by_cases hlt : j < s.length
    · have hltI : (j : Int) < (s.length : Int) := by omega
      obtain ⟨bk, off, hadr, hcl⟩ := HR.out.at hlt
      simp only [Option.some.injEq, Addr.mk.injEq] at hadr
      obtain ⟨rfl, rfl, _⟩ := hadr
      have c1 := hcl j hlt
      rw [Nat.zero_add] at c1
      have htk := escT_take s j hlt
      have hel := escT_len (s.take j)
      have htl : (s.take j).length ≤ s.length := by rw [List.length_take]; omega
      generalize s[j] = c at *
      have HTK := Lib.hid htk
      clear htk hcl
      go_wp2_with fail
      refine (free_any c wr).mono ?_
      rintro e w2 ⟨rfl, hb2⟩
      have HX2 := Lib.hid (HX.out.below hb2)
      have HR2 := Lib.hid (HR.out.below hb2)
      have HB2 := Lib.hid (HB.out.trans (hb2.mono HB.out.size))
      clear hb2 c1 HX HR HB
      by_cases hf : freeB c.toNat = true
      · have heb : escB c = [c] := by unfold escB; rw [if_pos hf]
        have HEB := Lib.hid heb
        rw [hf]
        clear heb hf
        go_wp2_with fail
        refine (WriteByte_x w.heap.size (w.heap.size + 2) (escT (s.take j)) _ c rfl w2 HX2.out (by omega)).mono ?_
        rintro e w3 ⟨rfl, hx3, hf3⟩
        have HX3 := Lib.hid hx3
        have HR3 := Lib.hid (hf3.rd HR2.out (by omega) (by omega))
        have HB3 := Lib.hid (HB2.out.trans (hf3.below (Nat.le_refl _) (by omega)))
        clear hx3 hf3
        go_wp2_with fail
        go_roundg (gk - 1)
        case measure => omega
        case rel => exact ⟨j + 1, by first | rfl | (congr 1), by omega, Lib.hid (by rw [HTK.out, HEB.out]; exact HX3.out), HR3, HB3⟩
      · have hff : freeB c.toNat = false := by simpa using hf
        rw [hff]
        clear hff
        by_cases h32 : c = 32
        · subst h32
          have heb : escB 32 = [43] := by decide
          have HEB := Lib.hid heb
          clear heb hf
          go_wp2_with fail
          refine (WriteByte_x w.heap.size (w.heap.size + 2) (escT (s.take j)) _ 43 rfl w2 HX2.out (by omega)).mono ?_
          rintro e w3 ⟨rfl, hx3, hf3⟩
          have HX3 := Lib.hid hx3
          have HR3 := Lib.hid (hf3.rd HR2.out (by omega) (by omega))
          have HB3 := Lib.hid (HB2.out.trans (hf3.below (Nat.le_refl _) (by omega)))
          clear hx3 hf3
          go_wp2_with fail
          go_roundg (gk - 1)
          case measure => omega
          case rel => exact ⟨j + 1, by first | rfl | (congr 1), by omega, Lib.hid (by rw [HTK.out, HEB.out]; exact HX3.out), HR3, HB3⟩
        · have h32I : ¬ ((c.toNat : Nat) : Int) = 32 := fun e => h32 (UInt8.toNat_inj.1 (by show c.toNat = 32; omega))
          have heb : escB c = [37, hexD (c.toNat / 16), hexD (c.toNat % 16)] := by unfold escB; rw [if_neg hf, if_neg h32]
          have HEB := Lib.hid heb
          have hc256 := UInt8.toNat_lt c
          clear heb hf h32
          have hw1 : IntKind.u8.wrap (((c.toNat : Nat) : Int) / 16 + 1) = ((c.toNat : Nat) : Int) / 16 + 1 := by rw [IntKind.wrap_u8]; omega
          have hw2 : IntKind.u8.wrap (((c.toNat : Nat) : Int) % 16 + 1) = ((c.toNat : Nat) : Int) % 16 + 1 := by rw [IntKind.wrap_u8]; omega
          have hand : bits .and .u8 ((c.toNat : Nat) : Int) 15 = ((c.toNat : Nat) : Int) % 16 := bits_mask .u8 8 (by decide) wraps_u8 4 (by decide) _ (by omega) (by omega)
          have hs1 := fun w => hex_slice (c.toNat / 16) (by omega) (((c.toNat : Nat) : Int) / 16) (((c.toNat : Nat) : Int) / 16 + 1) (by omega) (by omega) w
          have hs2 := fun w => hex_slice (c.toNat % 16) (by omega) (((c.toNat : Nat) : Int) % 16) (((c.toNat : Nat) : Int) % 16 + 1) (by omega) (by omega) w
          have hcat : (⟨#[37]⟩ : ByteArray) ++ (⟨#[hexD (c.toNat / 16)]⟩ : ByteArray) ++ (⟨#[hexD (c.toNat % 16)]⟩ : ByteArray) = ⟨([37, hexD (c.toNat / 16), hexD (c.toNat % 16)] : List UInt8).toArray⟩ := rfl
          have HCAT := Lib.hid hcat
          clear hcat
          go_upto_region 5 with (fail)
          go_still_tail 14, (by kernel_rfl)
          have hx2' : ∀ w', w'.heap = w2.heap → BldX w.heap.size (w.heap.size + 2) (escT (s.take j)) w' := fun w' e => HX2.out.of_heap e
          have hb2' : ∀ w', w'.os = w2.os → w'.tape = w2.tape → w'.output = w2.output → w'.heap = w2.heap → Below w.heap.size w w' := fun w' e1 e2 e3 e4 => ⟨e1.trans HB2.out.os, e2.trans HB2.out.tape, e3.trans HB2.out.output, by rw [e4]; exact HB2.out.size, fun k hk => by rw [e4]; exact HB2.out.block k hk⟩
          have hr2' : ∀ w', w'.heap = w2.heap → Rd w' (some ⟨w.heap.size + 1, 0, none⟩) s := fun w' e => HR2.out.imp id fun ⟨b, off, h1, h2⟩ => ⟨b, off, h1, fun i hi => (World.cell?_of_block (by rw [e])).trans (h2 i hi)⟩
          have HX2' := Lib.hid hx2'
          have HB2' := Lib.hid hb2'
          have HR2' := Lib.hid hr2'
          clear hx2' hb2' hr2' hw1 hw2 hand hs1 hs2
          rw [HCAT.out]
          go_wp2_with fail
          refine (WriteString_x w.heap.size (w.heap.size + 2) (escT (s.take j)) [37, hexD (c.toNat / 16), hexD (c.toNat % 16)] w2.drew (HX2'.out w2.drew rfl) (by simp; omega)).mono ?_
          rintro e w3 ⟨rfl, hx3, hf3⟩
          have HX3 := Lib.hid hx3
          have HR3 := Lib.hid (hf3.rd (HR2'.out w2.drew rfl) (by omega) (by omega))
          have HB3 := Lib.hid ((HB2'.out w2.drew rfl rfl rfl rfl).trans (hf3.below (Nat.le_refl _) (by omega)))
          clear hx3 hf3
          go_wp2_with fail
          go_roundg (gk - 1)
          case measure => omega
          case rel => exact ⟨j + 1, by first | rfl | (congr 1), by omega, Lib.hid (by rw [HTK.out, HEB.out]; exact HX3.out), HR3, HB3⟩
    · have hltI : ¬ (j : Int) < (s.length : Int) := by omega
      have htk : s.take j = s := List.take_of_length_le (by omega)
      rw [htk] at HX
      go_wp2_with fail
      refine (BString_any w.heap.size (escT s) wr HX.out.bld).mono ?_
      rintro e w2 ⟨rfl, _, hb2, _⟩
      have HB2 := Lib.hid (HB.out.trans hb2)
      clear hb2
      go_wp2_with fail
      refine bodyPost_ret (results_tmp rfl _ _ _) rfl ?_
      exact ⟨rfl, HB2.out⟩
end Go.Proofs.YtgmieceebchmfaaDoor
