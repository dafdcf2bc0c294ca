/- Package klaxonref01: rows of numbers; schedule. -/
import Derived.Test.YtofoadpnfeamoaaRefA
import Derived.Test.YtofoadpnfeamoaaTl
import Derived.Test.YtofoadpnfeamoaaGrowS
import Derived.BigQuiet
set_option linter.unusedVariables false
namespace Go.Proofs.Ytofoadpnfeamoaa
open Go.RowKit

theorem i64_xor_nat (a b : Nat) (ha : a < 4294967296) (hb : b < 4294967296) : bits .xor .i64 (a : Int) (b : Int) = ((a ^^^ b : Nat) : Int) := by
  have hx : a ^^^ b < 2 ^ 32 := Nat.xor_lt_two_pow (by omega) (by omega)
  show IntKind.i64.wrap ((BitVec.ofInt 64 (a : Int) ^^^ BitVec.ofInt 64 (b : Int)).toNat : Int) = _
  rw [BitVec.toNat_xor, ofInt_u64 a (by omega), ofInt_u64 b (by omega), IntKind.wrap_i64]
  omega

/-- A row of machine numbers of the call's own. -/
def OwnI (B : Nat) (w : World) (v : Value) (ns : List Nat) : Prop := w.ownsRow B 3 1 v ns.length (ints ns)
theorem ints_len (l : List Nat) : (ints l).length = l.length := by simp [ints]
theorem ints_app (l m : List Nat) : ints (l ++ m) = ints l ++ ints m := by simp [ints]
theorem ints_one (l : List Nat) : ∀ u ∈ ints l, u.oneCell' = true := by
  intro u hu; obtain ⟨_, _, rfl⟩ := List.mem_map.1 hu; rfl
theorem OwnI.nil (B : Nat) (w : World) : OwnI B w (.slice none 0 0) [] := World.ownsRow_nil _ _ _ _
theorem OwnI.empty (w : World) : OwnI w.heap.size (w.alloc (.cells #[] 3)) (.slice (some ⟨w.heap.size, 0, none⟩) 0 0) [] := World.ownsRow_made w #[] 0 (Nat.le_refl _) (by decide) rfl
theorem OwnI.lt {B : Nat} {w : World} {v : Value} {l : List Nat} (h : OwnI B w v l) : ∀ k, v.ownBlock = some k → B ≤ k ∧ k < w.heap.size := World.ownsRow.lt h
theorem OwnI.alloc {B : Nat} {w : World} {v : Value} {l : List Nat} (h : OwnI B w v l) (o : Obj) : OwnI B (w.alloc o) v l := World.ownsRow.alloc h o
theorem OwnI.cell {B : Nat} {w : World} {g off n c : Nat} {ns : List Nat} (h : OwnI B w (.slice (some ⟨g, off, none⟩) n c) ns) {j : Nat} (hj : j < ns.length) : w.cell? ⟨g, j, none⟩ = some (.int .i64 (ns[j] : Nat)) := by
  rcases h.2 with ⟨h0, _⟩ | ⟨g', cap, cur, h0, _, hg, hle, _, hsz, htake⟩
  · cases h0
  · simp at h0
    obtain ⟨⟨rfl, rfl⟩, rfl, rfl⟩ := h0
    have h1 : (cur.toList.take (ns.length * 1))[j]? = (ints ns)[j]? := by rw [htake]
    rw [List.getElem?_take, if_pos (by omega)] at h1
    rw [Lib.cell_of_heap hg, ← Array.getElem?_toList, h1]
    simp [ints, hj]
theorem OwnI.shape {B : Nat} {w : World} {v : Value} {ns : List Nat} (h : OwnI B w v ns) (hne : 0 < ns.length) : ∃ g c, v = .slice (some ⟨g, 0, none⟩) ns.length c := by
  rcases h.2 with ⟨_, h0⟩ | ⟨g', cap, cur, h0, _⟩
  · omega
  · exact ⟨g', cap, h0⟩
/-- The relation looks at its own block alone. -/
theorem OwnI.keep {B : Nat} {w w' : World} {v : Value} {l : List Nat} (h : OwnI B w v l) (hk : ∀ k, v.ownBlock = some k → w'.heap[k]? = w.heap[k]?) : OwnI B w' v l := by
  refine ⟨h.1, h.2.imp id ?_⟩
  rintro ⟨g, cap, cur, rfl, hB, hg, h⟩
  exact ⟨g, cap, cur, rfl, hB, by rw [hk g rfl]; exact hg, h⟩
theorem OwnI.below {B : Nat} {w w' : World} {v : Value} {l : List Nat} (h : OwnI B w v l) (hb : Below w.heap.size w w') : OwnI B w' v l := h.keep fun k hk => hb.block k (h.lt k hk).2
theorem info_int : ∃ i, Try.prog.info? 3 = some i ∧ i.zero = some (.int .i64 0) ∧ i.size = 1 ∧ i.bytes = 8 := info_parts (by kernel_rfl)

theorem wpList_append_ints {ops : Array Oper} {rest : List Oper} {o : Oper} {a : Act} {w : World} {Q : Exit → Act → World → Prop} (hgd : o.guard = none) (s x : Operand)
    (ho : o.op = .call { callee := .builtin .append, args := #[s, x], argTypes := #[66, 66] })
    (B : Nat) (v : Value) (l : List Nat) (hs : a.eval s = v) (hown : OwnI B w v l) (g : Nat) (m : List Nat) (n c : Nat) (hx : a.eval x = .slice (some ⟨g, 0, none⟩) n c) (hn : n = m.length) (hm : 0 < m.length)
    (hcell : ∀ j (h : j < m.length), w.cell? ⟨g, j, none⟩ = some (.int .i64 (m[j] : Nat)))
    (hlen : l.length + m.length ≤ 1000000) (hB : B ≤ w.heap.size)
    (hk : ∀ g' n' c' w', Hid (n' = (l ++ m).length) → OwnI B w' (.slice (some ⟨g', 0, none⟩) n' c') (l ++ m) → w.grownBy w' v.ownBlock → (some g' = v.ownBlock ∨ w.heap.size ≤ g') →
      wpList Try.prog ops Q rest (a.put o.dst (.slice (some ⟨g', 0, none⟩) n' c')) w') : wpList Try.prog ops Q (o :: rest) a w := by
  subst hn
  obtain ⟨i0, hi, hz0, hz1, hz2⟩ := info_int
  refine wpList_append_own_at w hgd s x 66 ho B 3 i0 (.int .i64 0) 1 8 Try.underlying66 hi hz0 hz1 hz2 rfl (by decide) v l.length (ints l) hs hown ⟨g, 0, none⟩ m.length c (ints m) hx (by simp [ints_len])
    (fun j u hu => by
      have hj : j < m.length := by have := (List.getElem?_eq_some_iff.1 hu).1; simpa [ints] using this
      have e1 : u = .int .i64 (m[j] : Nat) := by
        simp [ints, hj] at hu
        exact hu.symm
      rw [e1, ← hcell j hj, Addr.add_lit, Nat.zero_add]) (ints_one m) (by unfold maxLen; omega) (by omega) hB ?_
  intro v' w' h1 h2 _ h4
  have hown' : OwnI B w' v' (l ++ m) := by
    unfold OwnI
    rw [ints_app, List.length_append]
    exact h1
  obtain ⟨g', c', rfl⟩ := hown'.shape (by simp; omega)
  refine hk g' _ c' w' (Lib.hid rfl) hown' h2 ?_
  rcases h4 with h4 | h4
  · exact .inl h4
  · simp [Value.ownBlock] at h4
    exact .inr (by omega)

theorem getD_nat (ns : List Nat) (j : Nat) (h : j < ns.length) : ns[j] = ns.getD j 0 := by rw [List.getD_eq_getElem?_getD, List.getElem?_eq_getElem h]; rfl
theorem ent_top : ∀ args w, (callFunc 45 args).run Try.prog w = .ok (.enter 45 args) w := run_enters Try.func45 (by kernel_rfl) rfl
/-- As schedule reckons a number. -/
theorem ref_next (x y s7 s16 : Nat) (hx : x < 4294967296) (hy : y < 4294967296) (h7 : s7 < 4294967296) (h16 : s16 < 4294967296) :
    ∃ r7 r18 r17 r19 v0 v1 g0 g1 m1 m2 m3 : Nat,
      (∀ w', Calls Try.prog 46 #[.int .i64 (x : Nat), .int .i64 7] w' fun e w'' => e = .returned (.int .i64 (r7 : Nat)) ∧ ∃ n, w'' = w'.drewN n) ∧
      (∀ w', Calls Try.prog 46 #[.int .i64 (x : Nat), .int .i64 18] w' fun e w'' => e = .returned (.int .i64 (r18 : Nat)) ∧ ∃ n, w'' = w'.drewN n) ∧
      (∀ w', Calls Try.prog 46 #[.int .i64 (y : Nat), .int .i64 17] w' fun e w'' => e = .returned (.int .i64 (r17 : Nat)) ∧ ∃ n, w'' = w'.drewN n) ∧
      (∀ w', Calls Try.prog 46 #[.int .i64 (y : Nat), .int .i64 19] w' fun e w'' => e = .returned (.int .i64 (r19 : Nat)) ∧ ∃ n, w'' = w'.drewN n) ∧
      bits .xor .i64 (r7 : Int) (r18 : Int) = (v0 : Int) ∧ bits .xor .i64 (v0 : Int) ((x : Int) / 8) = (g0 : Int) ∧
      bits .xor .i64 (r17 : Int) (r19 : Int) = (v1 : Int) ∧ bits .xor .i64 (v1 : Int) ((y : Int) / 1024) = (g1 : Int) ∧
      IntKind.i64.wrap ((g1 : Int) + (s7 : Int)) = (m1 : Int) ∧ IntKind.i64.wrap ((m1 : Int) + (g0 : Int)) = (m2 : Int) ∧ IntKind.i64.wrap ((m2 : Int) + (s16 : Int)) = (m3 : Int) ∧
      m3 % 4294967296 = (sg1 y + s7 + sg0 x + s16) % 4294967296 ∧ m3 < 9223372036854775808 := by
  have l0 := sg0_lt x hx
  have l1 := sg1_lt y hy
  have a7 := rot_lt x 7 hx (by decide)
  have a18 := rot_lt x 18 hx (by decide)
  have a17 := rot_lt y 17 hy (by decide)
  have a19 := rot_lt y 19 hy (by decide)
  have e3 := i64_xor_nat (rot x 7 ^^^ rot x 18) (x / 8) (xor_lt _ _ a7 a18) (by omega)
  have e4 := i64_xor_nat (rot y 17 ^^^ rot y 19) (y / 1024) (xor_lt _ _ a17 a19) (by omega)
  rw [show ((x / 8 : Nat) : Int) = (x : Int) / 8 by simp] at e3
  rw [show ((y / 1024 : Nat) : Int) = (y : Int) / 1024 by simp] at e4
  refine ⟨rot x 7, rot x 18, rot y 17, rot y 19, rot x 7 ^^^ rot x 18, rot y 17 ^^^ rot y 19, sg0 x, sg1 y, sg1 y + s7, sg1 y + s7 + sg0 x, sg1 y + s7 + sg0 x + s16,
    fun w' => turn_7 x w' hx, fun w' => turn_18 x w' hx, fun w' => turn_17 y w' hy, fun w' => turn_19 y w' hy,
    i64_xor_nat _ _ a7 a18, e3, i64_xor_nat _ _ a17 a19, e4, wr_nat (sg1 y + s7) (by omega), wr_nat (sg1 y + s7 + sg0 x) (by omega), wr_nat (sg1 y + s7 + sg0 x + s16) (by omega), rfl, by omega⟩

set_option maxRecDepth 100000 in
set_option maxHeartbeats 4000000 in
theorem schedule_ref (a : Option Addr) (l : List UInt8) (n cp : Nat) (w : World) (hr : Rd w a l) (hn : n = l.length) (hl : 64 ≤ l.length) (hm : l.length ≤ 1000000) :
    Calls Try.prog 44 #[.slice a n cp] w fun e w' => ∃ g c, e = .returned (.slice (some ⟨g, 0, none⟩) 64 c) ∧ OwnI w.heap.size w' (.slice (some ⟨g, 0, none⟩) 64 c) (schedU l 64) ∧ Below w.heap.size w w' := by
  subst hn
  have HR := Lib.hid hr
  clear hr
  go_enter Try.func44, Try.ntmps44
  go_wp2_with fail
  go_loopg [4, 3] 16 (fun k y x wr => ∃ t : Nat, y = .int .i64 t ∧ t + k = 16 ∧ Hid (OwnI w.heap.size wr x (schedU l t)) ∧ Hid (Below w.heap.size w wr))
  case atStart => exact ⟨0, rfl, rfl, Lib.hid (OwnI.nil _ _), Lib.hid (Below.refl _ _)⟩
  case round =>
    obtain ⟨t, rfl, ht, HO, HB⟩ := hrel
    by_cases h16 : t < 16
    · have hmul : IntKind.i64.wrap (4 * (t : Int)) = 4 * (t : Int) := IntWalk.i64_in _ (by omega)
      have htI : (t : Int) < 16 := by omega
      go_wp2_with fail
      refine (word_ref a l l.length cp t (4 * (t : Int)) wr (HR.out.below HB.out) rfl rfl hm (by omega)).mono ?_
      rintro e w2 ⟨rfl, nd, hw2⟩
      have hb2 : Below w.heap.size w w2 := by rw [hw2]; exact HB.out.trans ⟨rfl, rfl, rfl, Nat.le_refl _, fun _ _ => rfl⟩
      have ho2 : OwnI w.heap.size w2 u3 (schedU l t) := by rw [hw2]; exact HO.out.keep fun _ _ => rfl
      obtain ⟨xw, hxw⟩ : ∃ x, word l t = x := ⟨_, rfl⟩
      rw [hxw]
      have HX := Lib.hid hxw
      have HB2 := Lib.hid hb2
      have HO2 := Lib.hid ho2
      clear hw2 hb2 ho2 hxw
      go_wp2_with (at_builtin; go_loud (refine wpList_append_ints rfl (.tmp 14) (.tmp 19) rfl w.heap.size _ (schedU l t) rfl (HO2.out.alloc _) w2.heap.size [xw] 1 1 rfl rfl (by simp) ?c0 ?c1 ?c2 ?_))
      case c0 =>
        intro j hj
        simp at hj
        subst hj
        rw [Lib.cell_of_heap (heap_alloc_new w2 _)]
        rfl
      case c1 => rw [schedU_len]; simp; omega
      case c2 => have := HB2.out.size; simp; omega
      intro g4 n4 c4 w4 hn4 ho4 hg4 how4
      have hb4 : Below w.heap.size w w4 := (HB2.out.alloc HB2.out.size (.cells #[.int .i64 (xw : Int)] 3)).grown hg4 (by have := HB2.out.size; simp; omega) (fun k hk => (HO2.out.lt k hk).1)
      have ho5 : OwnI w.heap.size w4 (.slice (some ⟨g4, 0, none⟩) n4 c4) (schedU l (t + 1)) := by
        have e : schedU l (t + 1) = schedU l t ++ [xw] := by
          simp only [schedU]
          congr 2
          unfold nextW
          rw [schedU_len, if_pos h16]
          exact HX.out
        rw [e]
        exact ho4
      have HB4 := Lib.hid hb4
      have HO5 := Lib.hid ho5
      clear hn4 ho4 hg4 how4 hb4 ho5
      go_wp2_with fail
      go_roundg (gk - 1)
      case measure => omega
      case rel => exact ⟨t + 1, by go_num, by omega, HO5, HB4⟩
    · obtain rfl : t = 16 := by omega
      obtain ⟨g, c, hv⟩ := HO.out.shape (by rw [schedU_len]; decide)
      rw [schedU_len] at hv
      subst hv
      go_wp2_with fail
      go_loopg [5, 3] 48 (fun k y x wr => ∃ t g q c : Nat, y = .int .i64 t ∧ x = .slice (some ⟨g, 0, none⟩) q c ∧ t + k = 64 ∧ 16 ≤ t ∧ Hid (q = t) ∧ Hid (OwnI w.heap.size wr (.slice (some ⟨g, 0, none⟩) q c) (schedU l t)) ∧ Hid (Below w.heap.size w wr))
      case atStart => exact ⟨16, g, 16, c, rfl, rfl, rfl, by decide, Lib.hid rfl, HO, HB⟩
      case round =>
        clear HO HB
        obtain ⟨t, g, q, c, rfl, rfl, ht, ht16, HQ, HO, HB⟩ := hrel
        by_cases hlt : t < 64
        · have htI : (t : Int) < 64 := by omega
          have hlen := schedU_len l t
          have hnext : nextW l (schedU l t) = (sg1 ((schedU l t).getD (t - 2) 0) + (schedU l t).getD (t - 7) 0 + sg0 ((schedU l t).getD (t - 15) 0) + (schedU l t).getD (t - 16) 0) % 4294967296 := by
            unfold nextW; rw [schedU_len, if_neg (by omega)]
          have hc2 := HO.out.cell (j := t - 2) (by omega)
          have hc7 := HO.out.cell (j := t - 7) (by omega)
          have hc15 := HO.out.cell (j := t - 15) (by omega)
          have hc16 := HO.out.cell (j := t - 16) (by omega)
          rw [getD_nat] at hc2 hc7 hc15 hc16
          have b2 := getD_lt l t (t - 2)
          have b7 := getD_lt l t (t - 7)
          have b15 := getD_lt l t (t - 15)
          have b16 := getD_lt l t (t - 16)
          obtain ⟨y, hy⟩ : ∃ y, (schedU l t).getD (t - 2) 0 = y := ⟨_, rfl⟩
          obtain ⟨s7, h7⟩ : ∃ y, (schedU l t).getD (t - 7) 0 = y := ⟨_, rfl⟩
          obtain ⟨x, hx⟩ : ∃ y, (schedU l t).getD (t - 15) 0 = y := ⟨_, rfl⟩
          obtain ⟨s16, h16'⟩ : ∃ y, (schedU l t).getD (t - 16) 0 = y := ⟨_, rfl⟩
          rw [hy] at hc2 b2 hnext
          rw [h7] at hc7 b7 hnext
          rw [hx] at hc15 b15 hnext
          rw [h16'] at hc16 b16 hnext
          obtain ⟨r7, r18, r17, r19, v0, v1, g0, g1, m1, m2, m3, C7, C18, C17, C19, e1, e2, e3, e4, f1, f2, f3, em, bm⟩ := ref_next x y s7 s16 b15 b2 b7 b16
          have hnx : schedU l (t + 1) = schedU l t ++ [m3 % 4294967296] := by
            simp only [schedU]
            rw [hnext, em]
          have HN := Lib.hid hnx
          have HC7 := Lib.hid C7
          have HC18 := Lib.hid C18
          have HC17 := Lib.hid C17
          have HC19 := Lib.hid C19
          have HBM := Lib.hid bm
          have hq := HQ.out
          have i2 : IntKind.i64.wrap ((t : Int) - 2) = (t : Int) - 2 := IntWalk.i64_in _ (by omega)
          have i7 : IntKind.i64.wrap ((t : Int) - 7) = (t : Int) - 7 := IntWalk.i64_in _ (by omega)
          have i15 : IntKind.i64.wrap ((t : Int) - 15) = (t : Int) - 15 := IntWalk.i64_in _ (by omega)
          have i16 : IntKind.i64.wrap ((t : Int) - 16) = (t : Int) - 16 := IntWalk.i64_in _ (by omega)
          have p2 : 0 ≤ (t : Int) - 2 := by omega
          have p7 : 0 ≤ (t : Int) - 7 := by omega
          have p15 : 0 ≤ (t : Int) - 15 := by omega
          have p16 : 0 ≤ (t : Int) - 16 := by omega
          have q2 : (t : Int) - 2 < (q : Int) := by omega
          have q7 : (t : Int) - 7 < (q : Int) := by omega
          have q15 : (t : Int) - 15 < (q : Int) := by omega
          have q16 : (t : Int) - 16 < (q : Int) := by omega
          have n2 : ((t : Int) - 2).toNat = t - 2 := by omega
          have n7 : ((t : Int) - 7).toNat = t - 7 := by omega
          have n15 : ((t : Int) - 15).toNat = t - 15 := by omega
          have n16 : ((t : Int) - 16).toNat = t - 16 := by omega
          have hu2 : 2 ≤ (t : Int) := by omega
          have hu7 : 7 ≤ (t : Int) := by omega
          have hu15 : 15 ≤ (t : Int) := by omega
          have hu16 : 16 ≤ (t : Int) := by omega
          have d8 : wrap64 ((x : Int) / 8) = (x : Int) / 8 := wrap64_in _ (by omega) (by omega)
          have d1024 : wrap64 ((y : Int) / 1024) = (y : Int) / 1024 := wrap64_in _ (by omega) (by omega)
          clear hlen hnext hy h7 hx h16' C7 C18 C17 C19 em bm hnx hq b2 b7 b15 b16 ht16
          go_upto_region 11 with (fail)
          go_wp2_with fail
          refine (HC7.out _).mono ?_
          rintro e w2 ⟨rfl, n1, rfl⟩
          go_wp2_with fail
          refine (HC18.out _).mono ?_
          rintro e w2 ⟨rfl, n2', rfl⟩
          go_wp2_with fail
          refine (HC17.out _).mono ?_
          rintro e w2 ⟨rfl, n3', rfl⟩
          go_wp2_with fail
          refine (HC19.out _).mono ?_
          rintro e w2 ⟨rfl, n4', rfl⟩
          go_upto_region 13 with (fail)
          obtain ⟨wq, hwq⟩ : ∃ wq, wr.drewN (n1 + n2' + n3' + n4') = wq := ⟨_, rfl⟩
          have hc7' : wq.cell? ⟨g, t - 7, none⟩ = some (.int .i64 s7) := by rw [← hwq]; exact hc7
          have hc16' : wq.cell? ⟨g, t - 16, none⟩ = some (.int .i64 s16) := by rw [← hwq]; exact hc16
          have ho2 : OwnI w.heap.size wq (.slice (some ⟨g, 0, none⟩) q c) (schedU l t) := by rw [← hwq]; exact HO.out.keep fun _ _ => rfl
          have hb2 : Below w.heap.size w wq := by rw [← hwq]; exact HB.out.trans ⟨rfl, rfl, rfl, Nat.le_refl _, fun _ _ => rfl⟩
          have HO2 := Lib.hid ho2
          have HB2 := Lib.hid hb2
          rw [hwq]
          clear hwq ho2 hb2 hc2 hc7 hc15 hc16 HO HB e1 e2 e3 e4 d8 d1024 HC7 HC18 HC17 HC19
          refine wp_region_grow_tail 18 (by kernel_rfl) (by kernel_rfl) (by decide) (by kernel_rfl) [51, 52, 53, 54, 55, 56, 57, 58, 59, 60, 61, 62, 63, 64, 65, 66, 67, 68] rfl (by decide) (by kernel_rfl) (fun i => [VIs (.slice (some ⟨g, 0, none⟩) q c), VIs (.int .i64 (g1 : Nat)), VIs (.slice (some ⟨g, 0, none⟩) q c), VIs (.int .i64 (t : Nat)), VIs (.int .i64 ((t : Int) - 7)), VIs (.pointer (some ⟨g, t - 7, none⟩)), VIs (.int .i64 (s7 : Nat)), VIs (.int .i64 (m1 : Nat)), VIs (.int .i64 (g0 : Nat)), VIs (.int .i64 (m2 : Nat)), VIs (.slice (some ⟨g, 0, none⟩) q c), VIs (.int .i64 (t : Nat)), VIs (.int .i64 ((t : Int) - 16)), VIs (.pointer (some ⟨g, t - 16, none⟩)), VIs (.int .i64 (s16 : Nat)), VIs (.int .i64 (m3 : Nat)), VIs (.int .i64 (m3 % 4294967296 : Nat)), VRow (m3 % 4294967296)].getD i fun _ _ => True) (stab_list _ ?_) ?_ ?_
          · intro V hV
            simp only [List.mem_cons, List.mem_nil_iff, or_false] at hV
            rcases hV with rfl | rfl | rfl | rfl | rfl | rfl | rfl | rfl | rfl | rfl | rfl | rfl | rfl | rfl | rfl | rfl | rfl | rfl <;> first | exact VIs.stab _ | exact VBytes.stab _ | exact VStr.stab _ | exact VParts.stab _ | exact VRow.stab _
          · intro i o ho a' w' hf hb hd
            rcases i with _ | _ | _ | _ | _ | _ | _ | _ | _ | _ | _ | _ | _ | _ | _ | _ | _ | _ | i
            · cases ho
              refine grow_op rfl rfl rfl (grow_move rfl ?_)
              exact (hf.same 3 (by decide)).trans rfl
            · cases ho
              refine grow_op rfl rfl rfl (grow_move rfl ?_)
              exact (hf.same 9 (by decide)).trans rfl
            · cases ho
              refine grow_op rfl rfl rfl (grow_move rfl ?_)
              exact (hf.same 3 (by decide)).trans rfl
            · cases ho
              refine grow_op rfl rfl rfl (grow_move rfl ?_)
              exact (hf.same 5 (by decide)).trans rfl
            · cases ho
              refine grow_op rfl rfl rfl ?_
              have e3 : a'.tmps.getD 54 undef = .int .i64 (t : Nat) := hd 3 (by kernel_rfl)
              refine grow_value (v := .int .i64 ((t : Int) - 7)) (w' := w') ?_ rfl (Below.refl _ _)
              simp only [execOp, Act.eval, e3]
              go_simp
            · cases ho
              refine grow_op rfl rfl rfl ?_
              have e2 : a'.tmps.getD 53 undef = .slice (some ⟨g, 0, none⟩) q c := hd 2 (by kernel_rfl)
              have e4 : a'.tmps.getD 55 undef = .int .i64 ((t : Int) - 7) := hd 4 (by kernel_rfl)
              refine grow_value (v := .pointer (some ⟨g, t - 7, none⟩)) (w' := w') ?_ rfl (Below.refl _ _)
              simp only [execOp, Act.eval, e2, e4]
              go_simp
            · cases ho
              refine grow_op rfl rfl rfl ?_
              have e5 : a'.tmps.getD 56 undef = .pointer (some ⟨g, t - 7, none⟩) := hd 5 (by kernel_rfl)
              have hc := cell_now hb hc7'
              refine grow_value (v := .int .i64 (s7 : Nat)) (w' := w') ?_ rfl (Below.refl _ _)
              simp only [execOp, Act.eval, e5]
              go_simp
            · cases ho
              refine grow_op rfl rfl rfl ?_
              have e1 : a'.tmps.getD 52 undef = .int .i64 (g1 : Nat) := hd 1 (by kernel_rfl)
              have e6 : a'.tmps.getD 57 undef = .int .i64 (s7 : Nat) := hd 6 (by kernel_rfl)
              refine grow_value (v := .int .i64 (m1 : Nat)) (w' := w') ?_ rfl (Below.refl _ _)
              simp only [execOp, Act.eval, e1, e6]
              go_simp
            · cases ho
              refine grow_op rfl rfl rfl (grow_move rfl ?_)
              exact (hf.same 8 (by decide)).trans rfl
            · cases ho
              refine grow_op rfl rfl rfl ?_
              have e7 : a'.tmps.getD 58 undef = .int .i64 (m1 : Nat) := hd 7 (by kernel_rfl)
              have e8 : a'.tmps.getD 59 undef = .int .i64 (g0 : Nat) := hd 8 (by kernel_rfl)
              refine grow_value (v := .int .i64 (m2 : Nat)) (w' := w') ?_ rfl (Below.refl _ _)
              simp only [execOp, Act.eval, e7, e8]
              go_simp
            · cases ho
              refine grow_op rfl rfl rfl (grow_move rfl ?_)
              exact (hf.same 3 (by decide)).trans rfl
            · cases ho
              refine grow_op rfl rfl rfl (grow_move rfl ?_)
              exact (hf.same 5 (by decide)).trans rfl
            · cases ho
              refine grow_op rfl rfl rfl ?_
              have e11 : a'.tmps.getD 62 undef = .int .i64 (t : Nat) := hd 11 (by kernel_rfl)
              refine grow_value (v := .int .i64 ((t : Int) - 16)) (w' := w') ?_ rfl (Below.refl _ _)
              simp only [execOp, Act.eval, e11]
              go_simp
            · cases ho
              refine grow_op rfl rfl rfl ?_
              have e10 : a'.tmps.getD 61 undef = .slice (some ⟨g, 0, none⟩) q c := hd 10 (by kernel_rfl)
              have e12 : a'.tmps.getD 63 undef = .int .i64 ((t : Int) - 16) := hd 12 (by kernel_rfl)
              refine grow_value (v := .pointer (some ⟨g, t - 16, none⟩)) (w' := w') ?_ rfl (Below.refl _ _)
              simp only [execOp, Act.eval, e10, e12]
              go_simp
            · cases ho
              refine grow_op rfl rfl rfl ?_
              have e13 : a'.tmps.getD 64 undef = .pointer (some ⟨g, t - 16, none⟩) := hd 13 (by kernel_rfl)
              have hc := cell_now hb hc16'
              refine grow_value (v := .int .i64 (s16 : Nat)) (w' := w') ?_ rfl (Below.refl _ _)
              simp only [execOp, Act.eval, e13]
              go_simp
            · cases ho
              refine grow_op rfl rfl rfl ?_
              have e9 : a'.tmps.getD 60 undef = .int .i64 (m2 : Nat) := hd 9 (by kernel_rfl)
              have e14 : a'.tmps.getD 65 undef = .int .i64 (s16 : Nat) := hd 14 (by kernel_rfl)
              refine grow_value (v := .int .i64 (m3 : Nat)) (w' := w') ?_ rfl (Below.refl _ _)
              simp only [execOp, Act.eval, e9, e14]
              go_simp
            · cases ho
              refine grow_op rfl rfl rfl ?_
              have e : a'.tmps.getD 66 undef = .int .i64 (m3 : Nat) := hd 15 (by kernel_rfl)
              refine grow_call ent_top rfl ?_
              simp only [List.map_toArray, List.map_cons, List.map_nil, Act.eval, e]
              exact (top_any (m3) w' HBM.out).mono (fun e w'' ⟨h1, h2⟩ => ⟨_, h1, rfl, by rw [h2]; exact Below.refl _ _⟩)
            · cases ho
              refine grow_op rfl rfl rfl ?_
              exact grow_row rfl (hd 16 (by kernel_rfl))
            · simp at ho
          · intro a' w' hf hb hd
            obtain ⟨gx, hgx, hcx⟩ : VRow (m3 % 4294967296) (a'.tmps.getD 68 undef) w' := hd 17 (by decide)
            obtain rfl := hf.eq [.slice (some ⟨g, 0, none⟩) q c, .int .i64 (g1 : Nat), .slice (some ⟨g, 0, none⟩) q c, .int .i64 (t : Nat), .int .i64 ((t : Int) - 7), .pointer (some ⟨g, t - 7, none⟩), .int .i64 (s7 : Nat), .int .i64 (m1 : Nat), .int .i64 (g0 : Nat), .int .i64 (m2 : Nat), .slice (some ⟨g, 0, none⟩) q c, .int .i64 (t : Nat), .int .i64 ((t : Int) - 16), .pointer (some ⟨g, t - 16, none⟩), .int .i64 (s16 : Nat), .int .i64 (m3 : Nat), .int .i64 (m3 % 4294967296 : Nat), .slice (some ⟨gx, 0, none⟩) 1 1] (fun j hj => match j, hj with
              | 0, _ => hd 0 (by decide)
              | 1, _ => hd 1 (by decide)
              | 2, _ => hd 2 (by decide)
              | 3, _ => hd 3 (by decide)
              | 4, _ => hd 4 (by decide)
              | 5, _ => hd 5 (by decide)
              | 6, _ => hd 6 (by decide)
              | 7, _ => hd 7 (by decide)
              | 8, _ => hd 8 (by decide)
              | 9, _ => hd 9 (by decide)
              | 10, _ => hd 10 (by decide)
              | 11, _ => hd 11 (by decide)
              | 12, _ => hd 12 (by decide)
              | 13, _ => hd 13 (by decide)
              | 14, _ => hd 14 (by decide)
              | 15, _ => hd 15 (by decide)
              | 16, _ => hd 16 (by decide)
              | 17, _ => hgx
              | k + 18, h => absurd h (by simp)) (by decide) (by kernel_rfl) rfl
            simp only [List.zip_cons_cons, List.zip_nil_right, List.foldl_cons, List.foldl_nil]
            have hOw := HO2.out.below hb
            have hBw := HB2.out.trans (hb.mono HB2.out.size)
            obtain ⟨xw, hxw⟩ : ∃ x, m3 % 4294967296 = x := ⟨_, rfl⟩
            have hnx := HN.out
            rw [hxw] at hnx hcx ⊢
            have HNX := Lib.hid hnx
            have HOW := Lib.hid hOw
            have HBW := Lib.hid hBw
            have HCX := Lib.hid hcx
            clear hnx hOw hBw hcx hxw hd hf hgx hb hc7' hc16' f1 f2 f3 HO2 HB2
            simp only [Act.put, List.setIfInBounds_toArray, List.set_cons_succ, List.set_cons_zero]
            refine wpList_append_ints rfl (.tmp 51) (.tmp 68) rfl w.heap.size (.slice (some ⟨g, 0, none⟩) q c) (schedU l t) rfl HOW.out gx [xw] 1 1 rfl rfl (by simp) ?c0 ?c1 ?c2 ?_
            case c0 =>
              intro j hj
              simp at hj
              subst hj
              exact HCX.out
            case c1 => rw [schedU_len]; simp; omega
            case c2 => exact HBW.out.size
            intro g4 n4 c4 w4 hn4 ho4 hg4 how4
            have hb4 : Below w.heap.size w w4 := HBW.out.grown hg4 HBW.out.size (fun k hk => (HOW.out.lt k hk).1)
            have ho5 : OwnI w.heap.size w4 (.slice (some ⟨g4, 0, none⟩) n4 c4) (schedU l (t + 1)) := by
              rw [HNX.out]
              exact ho4
            have hn5 : n4 = t + 1 := by
              obtain ⟨g, c, h⟩ := ho5.shape (by rw [schedU_len]; omega)
              rw [schedU_len] at h
              simp at h
              exact h.2.1
            have HN5 := Lib.hid hn5
            have HB4 := Lib.hid hb4
            have HO5 := Lib.hid ho5
            clear hn4 ho4 hg4 how4 hb4 ho5 hn5
            go_wp2_with fail
            go_roundg (gk - 1)
            case measure => omega
            case rel => exact ⟨t + 1, g4, n4, c4, by go_num, rfl, by omega, by omega, HN5, HO5, HB4⟩
        · obtain rfl : t = 64 := by omega
          obtain rfl : q = 64 := HQ.out
          go_wp2_with fail
          go_ret
          exact ⟨g, c, rfl, HO.out, HB.out⟩
end Go.Proofs.Ytofoadpnfeamoaa
