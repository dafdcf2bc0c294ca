/- Merged: JsI, JsJ, JsK, JsN, JsO, JsS, JsU. -/
import Derived.Test.YtfcokdkbjajohaaMg1
import Derived.Test.YtfcokdkbjajohaaMg2
/- json's reader: rows. -/
set_option linter.unusedVariables false
namespace Go.Proofs.Ytfcokdkbjajohaa
open Go.RowKit

/-- What one element's reader does. -/
structure OneC {α : Type} (F : FuncId) (caps : Array Value) (one : α → List UInt8 → PR α) (g : Nat) (S : List UInt8) (d o : Nat) (St : World → α → Nat → Prop) (K : World → World → Prop) : Prop where
  call : ∀ w x q, St w x q → Calls Try.prog F caps w fun e w' => Hid (K w w') ∧ ((∃ x' q', Hid (one x (S.drop q) = .ok x' (S.drop q')) ∧ e = .returned (.tuple #[]) ∧ Hid (St w' x' q') ∧ q < q') ∨ ∃ n a, Hid (one x (S.drop q) = .bad n) ∧ e = .panicked (thrown n a))
  rdr : ∀ w x q, St w x q → Rdr w g S q d o
  mv : ∀ w w' x q q', St w x q → But g w w' → Rdr w' g S q' d o → q ≤ q' → St w' x q'
  but : ∀ w w' x q, St w x q → But g w w' → K w w'
  trans : ∀ a b c, K a b → K b c → K a c
  refl : ∀ a, K a a
/-- How a row's call ends. -/
def RowRes {α : Type} (g o : Nat) (S : List UInt8) (St : World → α → Nat → Prop) (K : World → World → Prop) (res : PR α) (w : World) (e : Ending) (w' : World) : Prop :=
  (∃ x q w1, Hid (res = .ok x (S.drop q)) ∧ e = .returned (.tuple #[]) ∧ Hid (St w1 x q) ∧ Hid (K w w1) ∧ w' = w1.setCell ⟨g, 3, none⟩ (.int .i64 ((o : Nat) : Int))) ∨ ∃ n a, Hid (res = .bad n) ∧ e = .panicked (thrown n a) ∧ Hid (K w w')
/-- What is left of a row. -/
def rowS {α : Type} (one : α → List UInt8 → PR α) (e : UInt8) (b : Bool) (k : Nat) (x : α) (r : List UInt8) : PR α :=
  if b = true ∧ r.head? = some e then .ok x r.tail else rowN one e k x r
set_option maxRecDepth 100000 in
set_option maxHeartbeats 8000000 in
theorem jrow_arr {α : Type} (c1 : Value) (c2 : Value) (one : α → List UInt8 → PR α) (g : Nat) (S : List UInt8) (d o : Nat) (St : World → α → Nat → Prop) (K : World → World → Prop) (E : UInt8) (C : Int) (h0 : E ≠ 0) (hC : C = (E.toNat : Int)) (hl : S.length ≤ 1000000) (ho : o ≤ 1000)
    (hone : OneC 82 #[c1, c2] one g S d (o + 1) St K) (w : World) (x : α) (p : Nat) (h : St w x p) :
    Calls Try.prog 81 #[.pointer (some ⟨g, 0, none⟩), .int .u8 C, .func (.func 82) #[] #[c1, c2]] w fun e w' => RowRes g o S St K (rowR one E x (S.drop p)) w e w' := by
  have HS := Lib.hid h
  have HO := Lib.hid hone
  have H0 := Lib.hid h0
  have HC := Lib.hid hC
  have hp := (hone.rdr w x p h).le
  have HR : Hid (rowR one E x (S.drop p) = rowS one E true (S.length - p + 1) x (S.drop p)) := Lib.hid (by unfold rowR rowS; simp only [true_and, List.length_drop])
  clear h hone h0 hC
  go_enter Try.func81, Try.ntmps81
  go_wp2_with fail
  go_loopg [6] (S.length - p + 1) (fun k bv wr => ∃ (b : Bool) (q : Nat) (y : α), bv = .bool b ∧ S.length < q + k ∧ Hid (rowR one E x (S.drop p) = rowS one E b k y (S.drop q)) ∧ Hid (St wr y q) ∧ Hid (K w wr))
  case atStart => exact ⟨true, p, x, rfl, by omega, HR, HS, Lib.hid (HO.out.refl w)⟩
  case round =>
    obtain ⟨b, q, y, rfl, hqk, hres, hst, hk⟩ := hrel
    have hr := HO.out.rdr _ _ _ hst.out
    have hql := hr.le
    obtain ⟨k, rfl⟩ : ∃ k, gk = k + 1 := ⟨gk - 1, by omega⟩
    by_cases hend : b = true ∧ peekL (S.drop q) = E
    · obtain ⟨rfl, hpe⟩ := hend
      have HH := head_yes H0.out hpe
      have HE : Hid (rowR one E x (S.drop p) = .ok y (S.drop (q + 1))) := Lib.hid (by
        rw [hres.out]
        unfold rowS
        rw [if_pos ⟨rfl, HH.1⟩, HH.2])
      have HN := Lib.hid (jnext_hit g S q d (o + 1) E C wr hr hl hpe H0.out HC.out)
      clear hr hpe HH
      go_wp2_with fail
      refine HN.out.mono ?_
      rintro e w1 ⟨rfl, hr1, hb1⟩
      have HS1 := Lib.hid (HO.out.mv _ _ _ _ _ hst.out hb1 hr1 (Nat.le_succ q))
      have HK1 := Lib.hid (HO.out.trans _ _ _ hk.out (HO.out.but _ _ _ _ hst.out hb1))
      have c3 := hr1.c3
      have f3 := hr1.fz 3
      have hsub : (((o + 1 : Nat) : Int) - 1) = ((o : Nat) : Int) := by omega
      have hex : Hid (∃ x' q' w'', Hid (rowR one E x (S.drop p) = .ok x' (S.drop q')) ∧ Hid (St w'' x' q') ∧ Hid (K w w'') ∧ w1 = w'') := Lib.hid ⟨y, q + 1, w1, HE, HS1, HK1, rfl⟩
      clear hr1 hb1 HN hst hk hres
      go_wp2_with fail
      go_end0
      obtain ⟨x', q', w'', k1, k2, k3, rfl⟩ := hex.out
      exact .inl ⟨x', q', _, k1, rfl, k2, k3, rfl⟩
    · have HE : Hid (rowR one E x (S.drop p) = rowN one E (k + 1) y (S.drop q)) := Lib.hid (by
        rw [hres.out]
        unfold rowS
        rw [if_neg]
        rintro ⟨e1, e2⟩
        exact hend ⟨e1, (head_peek H0.out).1 e2⟩)
      clear hres
      have HOUT : Hid (∀ w', K w w' → K w w') := Lib.hid fun _ h => h
      cases b with
      | true =>
        have hne : peekL (S.drop q) ≠ E := fun e => hend ⟨rfl, e⟩
        have HN := Lib.hid (jnext_miss g S q d (o + 1) E C wr hr hl hne HC.out)
        clear hr hne hend
        go_wp2_with fail
        refine HN.out.mono ?_
        rintro e wn ⟨rfl, hrn, hbn⟩
        have HSn := Lib.hid (HO.out.mv _ _ _ _ _ hst.out hbn hrn (Nat.le_refl q))
        have HKn := Lib.hid (HO.out.trans _ _ _ hk.out (HO.out.but _ _ _ _ hst.out hbn))
        clear hrn hbn HN hst hk
        have HC1 := Lib.hid (HO.out.call wn y q HSn.out)
        go_wp2_with fail
        refine HC1.out.mono ?_
        rintro e w2 ⟨hk2, ⟨y2, q2, h2, rfl, hs2, hlt2⟩ | ⟨n, a, h2, rfl⟩⟩
        · have HK2 := Lib.hid (HO.out.trans _ _ _ HKn.out hk2.out)
          have hr2 := HO.out.rdr _ _ _ hs2.out
          have HB2 := Lib.hid (jblank_any g S q2 d (o + 1) w2 hr2 hl)
          have HE2 : Hid (rowR one E x (S.drop p) = if (blankL (S.drop q2)).head? = some E then .ok y2 (blankL (S.drop q2)).tail else (mustL 44 (blankL (S.drop q2))).bind fun _ r => rowN one E k y2 (blankL r)) := Lib.hid (by rw [HE.out, rowN_succ, h2.out]; rfl)
          clear hr2 hk2 HC1 HKn HSn HE h2
          go_wp2_with fail
          refine HB2.out.mono ?_
          rintro e w3 ⟨rfl, q3, hq3, hle3, hr3, hb3⟩
          rw [← hq3] at HE2
          have HS3 := Lib.hid (HO.out.mv _ _ _ _ _ hs2.out hb3 hr3 hle3)
          have HK3 := Lib.hid (HO.out.trans _ _ _ HK2.out (HO.out.but _ _ _ _ hs2.out hb3))
          have hql3 := hr3.le
          clear hq3 hb3 HB2 HK2 hs2
          by_cases he : peekL (S.drop q3) = E
          · have HH := head_yes H0.out he
            have HE3 : Hid (rowR one E x (S.drop p) = .ok y2 (S.drop (q3 + 1))) := Lib.hid (by rw [HE2.out, if_pos HH.1, HH.2])
            have HN := Lib.hid (jnext_hit g S q3 d (o + 1) E C w3 hr3 hl he H0.out HC.out)
            clear hr3 he HH HE2
            go_wp2_with fail
            refine HN.out.mono ?_
            rintro e w1 ⟨rfl, hr1, hb1⟩
            have HS1 := Lib.hid (HO.out.mv _ _ _ _ _ HS3.out hb1 hr1 (Nat.le_succ q3))
            have HK1 := Lib.hid (HO.out.trans _ _ _ HK3.out (HO.out.but _ _ _ _ HS3.out hb1))
            have c3 := hr1.c3
            have f3 := hr1.fz 3
            have hsub : (((o + 1 : Nat) : Int) - 1) = ((o : Nat) : Int) := by omega
            have hex : Hid (∃ x' q' w'', Hid (rowR one E x (S.drop p) = .ok x' (S.drop q')) ∧ Hid (St w'' x' q') ∧ Hid (K w w'') ∧ w1 = w'') := Lib.hid ⟨y2, q3 + 1, w1, HE3, HS1, HK1, rfl⟩
            clear hr1 hb1 HN HS3 HK3
            go_wp2_with fail
            go_end0
            obtain ⟨x', q', w'', k1, k2, k3, rfl⟩ := hex.out
            exact .inl ⟨x', q', _, k1, rfl, k2, k3, rfl⟩
          · have HE3 : Hid (rowR one E x (S.drop p) = (mustL 44 (S.drop q3)).bind fun _ r => rowN one E k y2 (blankL r)) := Lib.hid (by rw [HE2.out, if_neg (head_not H0.out he)])
            have HN := Lib.hid (jnext_miss g S q3 d (o + 1) E C w3 hr3 hl he HC.out)
            clear hr3 he HE2
            go_wp2_with fail
            refine HN.out.mono ?_
            rintro e w4 ⟨rfl, hr4, hb4⟩
            have HS4 := Lib.hid (HO.out.mv _ _ _ _ _ HS3.out hb4 hr4 (Nat.le_refl q3))
            have HK4 := Lib.hid (HO.out.trans _ _ _ HK3.out (HO.out.but _ _ _ _ HS3.out hb4))
            have HM := Lib.hid (jmust_any g S q3 d (o + 1) 44 44 w4 hr4 hl (by decide) rfl)
            clear hr4 hb4 HN HS3 HK3
            go_wp2_with fail
            refine HM.out.mono ?_
            rintro e w5 ⟨hb5, ⟨q5, h5, rfl, hr5⟩ | ⟨n, a, h5, rfl⟩⟩
            · have hsh := must_short h5
              have hql5 := hr5.le
              simp only [List.length_drop] at hsh
              have HS5 := Lib.hid (HO.out.mv _ _ _ _ q5 HS4.out hb5 hr5 (by omega))
              have HK5 := Lib.hid (HO.out.trans _ _ _ HK4.out (HO.out.but _ _ _ _ HS4.out hb5))
              have HE5 : Hid (rowR one E x (S.drop p) = rowN one E k y2 (blankL (S.drop q5))) := Lib.hid (by rw [HE3.out, h5]; rfl)
              have HB5 := Lib.hid (jblank_any g S q5 d (o + 1) w5 hr5 hl)
              clear h5 hr5 hb5 HM HS4 HK4 HE3
              go_wp2_with fail
              refine HB5.out.mono ?_
              rintro e w6 ⟨rfl, q6, hq6, hle6, hr6, hb6⟩
              have HE6 : Hid (rowR one E x (S.drop p) = rowS one E false k y2 (S.drop q6)) := Lib.hid (by
                rw [HE5.out, ← hq6]
                unfold rowS
                rw [if_neg]
                rintro ⟨e1, _⟩
                cases e1)
              have HS6 := Lib.hid (HO.out.mv _ _ _ _ _ HS5.out hb6 hr6 hle6)
              have HK6 := Lib.hid (HO.out.trans _ _ _ HK5.out (HO.out.but _ _ _ _ HS5.out hb6))
              clear hr6 hb6 hq6 HB5 HS5 HK5
              go_wp2_with fail
              go_roundg k
              case measure => omega
              case rel => exact ⟨false, q6, y2, rfl, by omega, HE6, HS6, HK6⟩
            · have HE5 : Hid (rowR one E x (S.drop p) = .bad n) := Lib.hid (by rw [HE3.out, h5]; rfl)
              have HK5 := Lib.hid (HO.out.trans _ _ _ HK4.out (HO.out.but _ _ _ _ HS4.out hb5))
              clear h5 hb5 HM
              go_wp2_with fail
              exact ⟨rfl, .inr ⟨n, a, HE5, rfl, HK5⟩⟩
        · have HK2 := Lib.hid (HO.out.trans _ _ _ HKn.out hk2.out)
          have HE2 : Hid (rowR one E x (S.drop p) = .bad n) := Lib.hid (by rw [HE.out, rowN_succ, h2.out]; rfl)
          clear h2 hk2 HC1
          go_wp2_with fail
          exact ⟨rfl, .inr ⟨n, a, HE2, rfl, HK2⟩⟩
      | false =>
        obtain ⟨wn, rfl⟩ : ∃ x, x = wr := ⟨_, rfl⟩
        have HSn := hst
        have HKn := hk
        clear hr hend hst hk
        have HC1 := Lib.hid (HO.out.call wn y q HSn.out)
        go_wp2_with fail
        refine HC1.out.mono ?_
        rintro e w2 ⟨hk2, ⟨y2, q2, h2, rfl, hs2, hlt2⟩ | ⟨n, a, h2, rfl⟩⟩
        · have HK2 := Lib.hid (HO.out.trans _ _ _ HKn.out hk2.out)
          have hr2 := HO.out.rdr _ _ _ hs2.out
          have HB2 := Lib.hid (jblank_any g S q2 d (o + 1) w2 hr2 hl)
          have HE2 : Hid (rowR one E x (S.drop p) = if (blankL (S.drop q2)).head? = some E then .ok y2 (blankL (S.drop q2)).tail else (mustL 44 (blankL (S.drop q2))).bind fun _ r => rowN one E k y2 (blankL r)) := Lib.hid (by rw [HE.out, rowN_succ, h2.out]; rfl)
          clear hr2 hk2 HC1 HKn HSn HE h2
          go_wp2_with fail
          refine HB2.out.mono ?_
          rintro e w3 ⟨rfl, q3, hq3, hle3, hr3, hb3⟩
          rw [← hq3] at HE2
          have HS3 := Lib.hid (HO.out.mv _ _ _ _ _ hs2.out hb3 hr3 hle3)
          have HK3 := Lib.hid (HO.out.trans _ _ _ HK2.out (HO.out.but _ _ _ _ hs2.out hb3))
          have hql3 := hr3.le
          clear hq3 hb3 HB2 HK2 hs2
          by_cases he : peekL (S.drop q3) = E
          · have HH := head_yes H0.out he
            have HE3 : Hid (rowR one E x (S.drop p) = .ok y2 (S.drop (q3 + 1))) := Lib.hid (by rw [HE2.out, if_pos HH.1, HH.2])
            have HN := Lib.hid (jnext_hit g S q3 d (o + 1) E C w3 hr3 hl he H0.out HC.out)
            clear hr3 he HH HE2
            go_wp2_with fail
            refine HN.out.mono ?_
            rintro e w1 ⟨rfl, hr1, hb1⟩
            have HS1 := Lib.hid (HO.out.mv _ _ _ _ _ HS3.out hb1 hr1 (Nat.le_succ q3))
            have HK1 := Lib.hid (HO.out.trans _ _ _ HK3.out (HO.out.but _ _ _ _ HS3.out hb1))
            have c3 := hr1.c3
            have f3 := hr1.fz 3
            have hsub : (((o + 1 : Nat) : Int) - 1) = ((o : Nat) : Int) := by omega
            have hex : Hid (∃ x' q' w'', Hid (rowR one E x (S.drop p) = .ok x' (S.drop q')) ∧ Hid (St w'' x' q') ∧ Hid (K w w'') ∧ w1 = w'') := Lib.hid ⟨y2, q3 + 1, w1, HE3, HS1, HK1, rfl⟩
            clear hr1 hb1 HN HS3 HK3
            go_wp2_with fail
            go_end0
            obtain ⟨x', q', w'', k1, k2, k3, rfl⟩ := hex.out
            exact .inl ⟨x', q', _, k1, rfl, k2, k3, rfl⟩
          · have HE3 : Hid (rowR one E x (S.drop p) = (mustL 44 (S.drop q3)).bind fun _ r => rowN one E k y2 (blankL r)) := Lib.hid (by rw [HE2.out, if_neg (head_not H0.out he)])
            have HN := Lib.hid (jnext_miss g S q3 d (o + 1) E C w3 hr3 hl he HC.out)
            clear hr3 he HE2
            go_wp2_with fail
            refine HN.out.mono ?_
            rintro e w4 ⟨rfl, hr4, hb4⟩
            have HS4 := Lib.hid (HO.out.mv _ _ _ _ _ HS3.out hb4 hr4 (Nat.le_refl q3))
            have HK4 := Lib.hid (HO.out.trans _ _ _ HK3.out (HO.out.but _ _ _ _ HS3.out hb4))
            have HM := Lib.hid (jmust_any g S q3 d (o + 1) 44 44 w4 hr4 hl (by decide) rfl)
            clear hr4 hb4 HN HS3 HK3
            go_wp2_with fail
            refine HM.out.mono ?_
            rintro e w5 ⟨hb5, ⟨q5, h5, rfl, hr5⟩ | ⟨n, a, h5, rfl⟩⟩
            · have hsh := must_short h5
              have hql5 := hr5.le
              simp only [List.length_drop] at hsh
              have HS5 := Lib.hid (HO.out.mv _ _ _ _ q5 HS4.out hb5 hr5 (by omega))
              have HK5 := Lib.hid (HO.out.trans _ _ _ HK4.out (HO.out.but _ _ _ _ HS4.out hb5))
              have HE5 : Hid (rowR one E x (S.drop p) = rowN one E k y2 (blankL (S.drop q5))) := Lib.hid (by rw [HE3.out, h5]; rfl)
              have HB5 := Lib.hid (jblank_any g S q5 d (o + 1) w5 hr5 hl)
              clear h5 hr5 hb5 HM HS4 HK4 HE3
              go_wp2_with fail
              refine HB5.out.mono ?_
              rintro e w6 ⟨rfl, q6, hq6, hle6, hr6, hb6⟩
              have HE6 : Hid (rowR one E x (S.drop p) = rowS one E false k y2 (S.drop q6)) := Lib.hid (by
                rw [HE5.out, ← hq6]
                unfold rowS
                rw [if_neg]
                rintro ⟨e1, _⟩
                cases e1)
              have HS6 := Lib.hid (HO.out.mv _ _ _ _ _ HS5.out hb6 hr6 hle6)
              have HK6 := Lib.hid (HO.out.trans _ _ _ HK5.out (HO.out.but _ _ _ _ HS5.out hb6))
              clear hr6 hb6 hq6 HB5 HS5 HK5
              go_wp2_with fail
              go_roundg k
              case measure => omega
              case rel => exact ⟨false, q6, y2, rfl, by omega, HE6, HS6, HK6⟩
            · have HE5 : Hid (rowR one E x (S.drop p) = .bad n) := Lib.hid (by rw [HE3.out, h5]; rfl)
              have HK5 := Lib.hid (HO.out.trans _ _ _ HK4.out (HO.out.but _ _ _ _ HS4.out hb5))
              clear h5 hb5 HM
              go_wp2_with fail
              exact ⟨rfl, .inr ⟨n, a, HE5, rfl, HK5⟩⟩
        · have HK2 := Lib.hid (HO.out.trans _ _ _ HKn.out hk2.out)
          have HE2 : Hid (rowR one E x (S.drop p) = .bad n) := Lib.hid (by rw [HE.out, rowN_succ, h2.out]; rfl)
          clear h2 hk2 HC1
          go_wp2_with fail
          exact ⟨rfl, .inr ⟨n, a, HE2, rfl, HK2⟩⟩
set_option maxRecDepth 100000 in
set_option maxHeartbeats 8000000 in
theorem jrow_obj {α : Type} (c1 : Value) (c2 : Value) (one : α → List UInt8 → PR α) (g : Nat) (S : List UInt8) (d o : Nat) (St : World → α → Nat → Prop) (K : World → World → Prop) (E : UInt8) (C : Int) (h0 : E ≠ 0) (hC : C = (E.toNat : Int)) (hl : S.length ≤ 1000000) (ho : o ≤ 1000)
    (hone : OneC 83 #[c1, c2] one g S d (o + 1) St K) (w : World) (x : α) (p : Nat) (h : St w x p) :
    Calls Try.prog 81 #[.pointer (some ⟨g, 0, none⟩), .int .u8 C, .func (.func 83) #[] #[c1, c2]] w fun e w' => RowRes g o S St K (rowR one E x (S.drop p)) w e w' := by
  have HS := Lib.hid h
  have HO := Lib.hid hone
  have H0 := Lib.hid h0
  have HC := Lib.hid hC
  have hp := (hone.rdr w x p h).le
  have HR : Hid (rowR one E x (S.drop p) = rowS one E true (S.length - p + 1) x (S.drop p)) := Lib.hid (by unfold rowR rowS; simp only [true_and, List.length_drop])
  clear h hone h0 hC
  go_enter Try.func81, Try.ntmps81
  go_wp2_with fail
  go_loopg [6] (S.length - p + 1) (fun k bv wr => ∃ (b : Bool) (q : Nat) (y : α), bv = .bool b ∧ S.length < q + k ∧ Hid (rowR one E x (S.drop p) = rowS one E b k y (S.drop q)) ∧ Hid (St wr y q) ∧ Hid (K w wr))
  case atStart => exact ⟨true, p, x, rfl, by omega, HR, HS, Lib.hid (HO.out.refl w)⟩
  case round =>
    obtain ⟨b, q, y, rfl, hqk, hres, hst, hk⟩ := hrel
    have hr := HO.out.rdr _ _ _ hst.out
    have hql := hr.le
    obtain ⟨k, rfl⟩ : ∃ k, gk = k + 1 := ⟨gk - 1, by omega⟩
    by_cases hend : b = true ∧ peekL (S.drop q) = E
    · obtain ⟨rfl, hpe⟩ := hend
      have HH := head_yes H0.out hpe
      have HE : Hid (rowR one E x (S.drop p) = .ok y (S.drop (q + 1))) := Lib.hid (by
        rw [hres.out]
        unfold rowS
        rw [if_pos ⟨rfl, HH.1⟩, HH.2])
      have HN := Lib.hid (jnext_hit g S q d (o + 1) E C wr hr hl hpe H0.out HC.out)
      clear hr hpe HH
      go_wp2_with fail
      refine HN.out.mono ?_
      rintro e w1 ⟨rfl, hr1, hb1⟩
      have HS1 := Lib.hid (HO.out.mv _ _ _ _ _ hst.out hb1 hr1 (Nat.le_succ q))
      have HK1 := Lib.hid (HO.out.trans _ _ _ hk.out (HO.out.but _ _ _ _ hst.out hb1))
      have c3 := hr1.c3
      have f3 := hr1.fz 3
      have hsub : (((o + 1 : Nat) : Int) - 1) = ((o : Nat) : Int) := by omega
      have hex : Hid (∃ x' q' w'', Hid (rowR one E x (S.drop p) = .ok x' (S.drop q')) ∧ Hid (St w'' x' q') ∧ Hid (K w w'') ∧ w1 = w'') := Lib.hid ⟨y, q + 1, w1, HE, HS1, HK1, rfl⟩
      clear hr1 hb1 HN hst hk hres
      go_wp2_with fail
      go_end0
      obtain ⟨x', q', w'', k1, k2, k3, rfl⟩ := hex.out
      exact .inl ⟨x', q', _, k1, rfl, k2, k3, rfl⟩
    · have HE : Hid (rowR one E x (S.drop p) = rowN one E (k + 1) y (S.drop q)) := Lib.hid (by
        rw [hres.out]
        unfold rowS
        rw [if_neg]
        rintro ⟨e1, e2⟩
        exact hend ⟨e1, (head_peek H0.out).1 e2⟩)
      clear hres
      have HOUT : Hid (∀ w', K w w' → K w w') := Lib.hid fun _ h => h
      cases b with
      | true =>
        have hne : peekL (S.drop q) ≠ E := fun e => hend ⟨rfl, e⟩
        have HN := Lib.hid (jnext_miss g S q d (o + 1) E C wr hr hl hne HC.out)
        clear hr hne hend
        go_wp2_with fail
        refine HN.out.mono ?_
        rintro e wn ⟨rfl, hrn, hbn⟩
        have HSn := Lib.hid (HO.out.mv _ _ _ _ _ hst.out hbn hrn (Nat.le_refl q))
        have HKn := Lib.hid (HO.out.trans _ _ _ hk.out (HO.out.but _ _ _ _ hst.out hbn))
        clear hrn hbn HN hst hk
        have HC1 := Lib.hid (HO.out.call wn y q HSn.out)
        go_wp2_with fail
        refine HC1.out.mono ?_
        rintro e w2 ⟨hk2, ⟨y2, q2, h2, rfl, hs2, hlt2⟩ | ⟨n, a, h2, rfl⟩⟩
        · have HK2 := Lib.hid (HO.out.trans _ _ _ HKn.out hk2.out)
          have hr2 := HO.out.rdr _ _ _ hs2.out
          have HB2 := Lib.hid (jblank_any g S q2 d (o + 1) w2 hr2 hl)
          have HE2 : Hid (rowR one E x (S.drop p) = if (blankL (S.drop q2)).head? = some E then .ok y2 (blankL (S.drop q2)).tail else (mustL 44 (blankL (S.drop q2))).bind fun _ r => rowN one E k y2 (blankL r)) := Lib.hid (by rw [HE.out, rowN_succ, h2.out]; rfl)
          clear hr2 hk2 HC1 HKn HSn HE h2
          go_wp2_with fail
          refine HB2.out.mono ?_
          rintro e w3 ⟨rfl, q3, hq3, hle3, hr3, hb3⟩
          rw [← hq3] at HE2
          have HS3 := Lib.hid (HO.out.mv _ _ _ _ _ hs2.out hb3 hr3 hle3)
          have HK3 := Lib.hid (HO.out.trans _ _ _ HK2.out (HO.out.but _ _ _ _ hs2.out hb3))
          have hql3 := hr3.le
          clear hq3 hb3 HB2 HK2 hs2
          by_cases he : peekL (S.drop q3) = E
          · have HH := head_yes H0.out he
            have HE3 : Hid (rowR one E x (S.drop p) = .ok y2 (S.drop (q3 + 1))) := Lib.hid (by rw [HE2.out, if_pos HH.1, HH.2])
            have HN := Lib.hid (jnext_hit g S q3 d (o + 1) E C w3 hr3 hl he H0.out HC.out)
            clear hr3 he HH HE2
            go_wp2_with fail
            refine HN.out.mono ?_
            rintro e w1 ⟨rfl, hr1, hb1⟩
            have HS1 := Lib.hid (HO.out.mv _ _ _ _ _ HS3.out hb1 hr1 (Nat.le_succ q3))
            have HK1 := Lib.hid (HO.out.trans _ _ _ HK3.out (HO.out.but _ _ _ _ HS3.out hb1))
            have c3 := hr1.c3
            have f3 := hr1.fz 3
            have hsub : (((o + 1 : Nat) : Int) - 1) = ((o : Nat) : Int) := by omega
            have hex : Hid (∃ x' q' w'', Hid (rowR one E x (S.drop p) = .ok x' (S.drop q')) ∧ Hid (St w'' x' q') ∧ Hid (K w w'') ∧ w1 = w'') := Lib.hid ⟨y2, q3 + 1, w1, HE3, HS1, HK1, rfl⟩
            clear hr1 hb1 HN HS3 HK3
            go_wp2_with fail
            go_end0
            obtain ⟨x', q', w'', k1, k2, k3, rfl⟩ := hex.out
            exact .inl ⟨x', q', _, k1, rfl, k2, k3, rfl⟩
          · have HE3 : Hid (rowR one E x (S.drop p) = (mustL 44 (S.drop q3)).bind fun _ r => rowN one E k y2 (blankL r)) := Lib.hid (by rw [HE2.out, if_neg (head_not H0.out he)])
            have HN := Lib.hid (jnext_miss g S q3 d (o + 1) E C w3 hr3 hl he HC.out)
            clear hr3 he HE2
            go_wp2_with fail
            refine HN.out.mono ?_
            rintro e w4 ⟨rfl, hr4, hb4⟩
            have HS4 := Lib.hid (HO.out.mv _ _ _ _ _ HS3.out hb4 hr4 (Nat.le_refl q3))
            have HK4 := Lib.hid (HO.out.trans _ _ _ HK3.out (HO.out.but _ _ _ _ HS3.out hb4))
            have HM := Lib.hid (jmust_any g S q3 d (o + 1) 44 44 w4 hr4 hl (by decide) rfl)
            clear hr4 hb4 HN HS3 HK3
            go_wp2_with fail
            refine HM.out.mono ?_
            rintro e w5 ⟨hb5, ⟨q5, h5, rfl, hr5⟩ | ⟨n, a, h5, rfl⟩⟩
            · have hsh := must_short h5
              have hql5 := hr5.le
              simp only [List.length_drop] at hsh
              have HS5 := Lib.hid (HO.out.mv _ _ _ _ q5 HS4.out hb5 hr5 (by omega))
              have HK5 := Lib.hid (HO.out.trans _ _ _ HK4.out (HO.out.but _ _ _ _ HS4.out hb5))
              have HE5 : Hid (rowR one E x (S.drop p) = rowN one E k y2 (blankL (S.drop q5))) := Lib.hid (by rw [HE3.out, h5]; rfl)
              have HB5 := Lib.hid (jblank_any g S q5 d (o + 1) w5 hr5 hl)
              clear h5 hr5 hb5 HM HS4 HK4 HE3
              go_wp2_with fail
              refine HB5.out.mono ?_
              rintro e w6 ⟨rfl, q6, hq6, hle6, hr6, hb6⟩
              have HE6 : Hid (rowR one E x (S.drop p) = rowS one E false k y2 (S.drop q6)) := Lib.hid (by
                rw [HE5.out, ← hq6]
                unfold rowS
                rw [if_neg]
                rintro ⟨e1, _⟩
                cases e1)
              have HS6 := Lib.hid (HO.out.mv _ _ _ _ _ HS5.out hb6 hr6 hle6)
              have HK6 := Lib.hid (HO.out.trans _ _ _ HK5.out (HO.out.but _ _ _ _ HS5.out hb6))
              clear hr6 hb6 hq6 HB5 HS5 HK5
              go_wp2_with fail
              go_roundg k
              case measure => omega
              case rel => exact ⟨false, q6, y2, rfl, by omega, HE6, HS6, HK6⟩
            · have HE5 : Hid (rowR one E x (S.drop p) = .bad n) := Lib.hid (by rw [HE3.out, h5]; rfl)
              have HK5 := Lib.hid (HO.out.trans _ _ _ HK4.out (HO.out.but _ _ _ _ HS4.out hb5))
              clear h5 hb5 HM
              go_wp2_with fail
              exact ⟨rfl, .inr ⟨n, a, HE5, rfl, HK5⟩⟩
        · have HK2 := Lib.hid (HO.out.trans _ _ _ HKn.out hk2.out)
          have HE2 : Hid (rowR one E x (S.drop p) = .bad n) := Lib.hid (by rw [HE.out, rowN_succ, h2.out]; rfl)
          clear h2 hk2 HC1
          go_wp2_with fail
          exact ⟨rfl, .inr ⟨n, a, HE2, rfl, HK2⟩⟩
      | false =>
        obtain ⟨wn, rfl⟩ : ∃ x, x = wr := ⟨_, rfl⟩
        have HSn := hst
        have HKn := hk
        clear hr hend hst hk
        have HC1 := Lib.hid (HO.out.call wn y q HSn.out)
        go_wp2_with fail
        refine HC1.out.mono ?_
        rintro e w2 ⟨hk2, ⟨y2, q2, h2, rfl, hs2, hlt2⟩ | ⟨n, a, h2, rfl⟩⟩
        · have HK2 := Lib.hid (HO.out.trans _ _ _ HKn.out hk2.out)
          have hr2 := HO.out.rdr _ _ _ hs2.out
          have HB2 := Lib.hid (jblank_any g S q2 d (o + 1) w2 hr2 hl)
          have HE2 : Hid (rowR one E x (S.drop p) = if (blankL (S.drop q2)).head? = some E then .ok y2 (blankL (S.drop q2)).tail else (mustL 44 (blankL (S.drop q2))).bind fun _ r => rowN one E k y2 (blankL r)) := Lib.hid (by rw [HE.out, rowN_succ, h2.out]; rfl)
          clear hr2 hk2 HC1 HKn HSn HE h2
          go_wp2_with fail
          refine HB2.out.mono ?_
          rintro e w3 ⟨rfl, q3, hq3, hle3, hr3, hb3⟩
          rw [← hq3] at HE2
          have HS3 := Lib.hid (HO.out.mv _ _ _ _ _ hs2.out hb3 hr3 hle3)
          have HK3 := Lib.hid (HO.out.trans _ _ _ HK2.out (HO.out.but _ _ _ _ hs2.out hb3))
          have hql3 := hr3.le
          clear hq3 hb3 HB2 HK2 hs2
          by_cases he : peekL (S.drop q3) = E
          · have HH := head_yes H0.out he
            have HE3 : Hid (rowR one E x (S.drop p) = .ok y2 (S.drop (q3 + 1))) := Lib.hid (by rw [HE2.out, if_pos HH.1, HH.2])
            have HN := Lib.hid (jnext_hit g S q3 d (o + 1) E C w3 hr3 hl he H0.out HC.out)
            clear hr3 he HH HE2
            go_wp2_with fail
            refine HN.out.mono ?_
            rintro e w1 ⟨rfl, hr1, hb1⟩
            have HS1 := Lib.hid (HO.out.mv _ _ _ _ _ HS3.out hb1 hr1 (Nat.le_succ q3))
            have HK1 := Lib.hid (HO.out.trans _ _ _ HK3.out (HO.out.but _ _ _ _ HS3.out hb1))
            have c3 := hr1.c3
            have f3 := hr1.fz 3
            have hsub : (((o + 1 : Nat) : Int) - 1) = ((o : Nat) : Int) := by omega
            have hex : Hid (∃ x' q' w'', Hid (rowR one E x (S.drop p) = .ok x' (S.drop q')) ∧ Hid (St w'' x' q') ∧ Hid (K w w'') ∧ w1 = w'') := Lib.hid ⟨y2, q3 + 1, w1, HE3, HS1, HK1, rfl⟩
            clear hr1 hb1 HN HS3 HK3
            go_wp2_with fail
            go_end0
            obtain ⟨x', q', w'', k1, k2, k3, rfl⟩ := hex.out
            exact .inl ⟨x', q', _, k1, rfl, k2, k3, rfl⟩
          · have HE3 : Hid (rowR one E x (S.drop p) = (mustL 44 (S.drop q3)).bind fun _ r => rowN one E k y2 (blankL r)) := Lib.hid (by rw [HE2.out, if_neg (head_not H0.out he)])
            have HN := Lib.hid (jnext_miss g S q3 d (o + 1) E C w3 hr3 hl he HC.out)
            clear hr3 he HE2
            go_wp2_with fail
            refine HN.out.mono ?_
            rintro e w4 ⟨rfl, hr4, hb4⟩
            have HS4 := Lib.hid (HO.out.mv _ _ _ _ _ HS3.out hb4 hr4 (Nat.le_refl q3))
            have HK4 := Lib.hid (HO.out.trans _ _ _ HK3.out (HO.out.but _ _ _ _ HS3.out hb4))
            have HM := Lib.hid (jmust_any g S q3 d (o + 1) 44 44 w4 hr4 hl (by decide) rfl)
            clear hr4 hb4 HN HS3 HK3
            go_wp2_with fail
            refine HM.out.mono ?_
            rintro e w5 ⟨hb5, ⟨q5, h5, rfl, hr5⟩ | ⟨n, a, h5, rfl⟩⟩
            · have hsh := must_short h5
              have hql5 := hr5.le
              simp only [List.length_drop] at hsh
              have HS5 := Lib.hid (HO.out.mv _ _ _ _ q5 HS4.out hb5 hr5 (by omega))
              have HK5 := Lib.hid (HO.out.trans _ _ _ HK4.out (HO.out.but _ _ _ _ HS4.out hb5))
              have HE5 : Hid (rowR one E x (S.drop p) = rowN one E k y2 (blankL (S.drop q5))) := Lib.hid (by rw [HE3.out, h5]; rfl)
              have HB5 := Lib.hid (jblank_any g S q5 d (o + 1) w5 hr5 hl)
              clear h5 hr5 hb5 HM HS4 HK4 HE3
              go_wp2_with fail
              refine HB5.out.mono ?_
              rintro e w6 ⟨rfl, q6, hq6, hle6, hr6, hb6⟩
              have HE6 : Hid (rowR one E x (S.drop p) = rowS one E false k y2 (S.drop q6)) := Lib.hid (by
                rw [HE5.out, ← hq6]
                unfold rowS
                rw [if_neg]
                rintro ⟨e1, _⟩
                cases e1)
              have HS6 := Lib.hid (HO.out.mv _ _ _ _ _ HS5.out hb6 hr6 hle6)
              have HK6 := Lib.hid (HO.out.trans _ _ _ HK5.out (HO.out.but _ _ _ _ HS5.out hb6))
              clear hr6 hb6 hq6 HB5 HS5 HK5
              go_wp2_with fail
              go_roundg k
              case measure => omega
              case rel => exact ⟨false, q6, y2, rfl, by omega, HE6, HS6, HK6⟩
            · have HE5 : Hid (rowR one E x (S.drop p) = .bad n) := Lib.hid (by rw [HE3.out, h5]; rfl)
              have HK5 := Lib.hid (HO.out.trans _ _ _ HK4.out (HO.out.but _ _ _ _ HS4.out hb5))
              clear h5 hb5 HM
              go_wp2_with fail
              exact ⟨rfl, .inr ⟨n, a, HE5, rfl, HK5⟩⟩
        · have HK2 := Lib.hid (HO.out.trans _ _ _ HKn.out hk2.out)
          have HE2 : Hid (rowR one E x (S.drop p) = .bad n) := Lib.hid (by rw [HE.out, rowN_succ, h2.out]; rfl)
          clear h2 hk2 HC1
          go_wp2_with fail
          exact ⟨rfl, .inr ⟨n, a, HE2, rfl, HK2⟩⟩
end Go.Proofs.Ytfcokdkbjajohaa
/- json's values: Get, Bool, Str. -/
set_option linter.unusedVariables false
namespace Go.Proofs.Ytfcokdkbjajohaa
open Go.RowKit

theorem zero_stored {w0 w : World} {gv : Nat} (hb : Below w0.heap.size w0 w) (hg : w0.heap.size ≤ gv) (a b c d e : Value) :
    Below w0.heap.size w0 (((((w.setCell ⟨gv, 0, none⟩ a).setCell ⟨gv, 1, none⟩ b).setCell ⟨gv, 2, none⟩ c).setCell ⟨gv, 3, none⟩ d).setCell ⟨gv, 4, none⟩ e) := by
  have s1 : ∀ (w : World) (i : Nat) (v : Value), Below w0.heap.size w0 w → Below w0.heap.size w0 (w.setCell ⟨gv, i, none⟩ v) := fun w i v h => h.setCell hg _
  exact s1 _ _ _ (s1 _ _ _ (s1 _ _ _ (s1 _ _ _ (s1 _ _ _ hb))))
theorem mem_cells {ok : Nat → Prop} {w : World} {a' : Option Addr} {m : List (List UInt8 × JV)} {cm : List (List Value)} (h3 : RdO ok w a' (memCells m cm)) (h4 : RepsM ok w cm m) (j : Nat) (hj : j < m.length) :
    ∃ b off x0 x1 x2 x3 x4, a' = some ⟨b, off, none⟩ ∧ Rep ok w [x0, x1, x2, x3, x4] m[j].2 ∧ w.cell? ⟨b, off + j * 6, none⟩ = some (strV m[j].1) ∧ w.cell? ⟨b, off + j * 6 + 1, none⟩ = some x0 ∧ w.cell? ⟨b, off + j * 6 + 2, none⟩ = some x1 ∧ w.cell? ⟨b, off + j * 6 + 3, none⟩ = some x2 ∧ w.cell? ⟨b, off + j * 6 + 4, none⟩ = some x3 ∧ w.cell? ⟨b, off + j * 6 + 5, none⟩ = some x4 := by
  have hjc : j < cm.length := by rw [h4.1]; exact hj
  have hr := h4.2 j hjc hj
  have hlen := hr.len
  obtain ⟨x0, x1, x2, x3, x4, hcs⟩ : ∃ x0 x1 x2 x3 x4, cm[j] = [x0, x1, x2, x3, x4] := by
    generalize cm[j] = cs at hlen
    match cs, hlen with
    | [x0, x1, x2, x3, x4], _ => exact ⟨_, _, _, _, _, rfl⟩
  rw [hcs] at hr
  have hg := fun i hi => mem6_get h4 j hjc hj i hi
  rw [hcs] at hg
  rcases h3 with h | ⟨b, off, e, _, hc⟩
  · have := mem6_len h4
    rw [h] at this
    simp only [List.length_nil] at this
    omega
  · refine ⟨b, off, x0, x1, x2, x3, x4, e, hr, ?_, ?_, ?_, ?_, ?_, ?_⟩
    · exact hc _ _ (hg 0 (by decide))
    · exact hc _ _ (hg 1 (by decide))
    · exact hc _ _ (hg 2 (by decide))
    · exact hc _ _ (hg 3 (by decide))
    · exact hc _ _ (hg 4 (by decide))
    · exact hc _ _ (hg 5 (by decide))
theorem mem_cells' {ok : Nat → Prop} {w : World} {a' : Option Addr} {m : List (List UInt8 × JV)} {cm : List (List Value)} (h3 : RdO ok w a' (memCells m cm)) (h4 : RepsM ok w cm m) (j : Nat) (hj : j < m.length) :
    ∃ b off k2 y2 t2 a2 l2 c2 a3 l3 c3, a' = some ⟨b, off, none⟩ ∧ Rep ok w [.int .i64 k2, .bool y2, .string ⟨t2⟩, .slice a2 l2 c2, .slice a3 l3 c3] m[j].2 ∧ w.cell? ⟨b, off + j * 6, none⟩ = some (.string ⟨m[j].1.toArray⟩) ∧ w.cell? ⟨b, off + j * 6 + 1, none⟩ = some (.int .i64 k2) ∧ w.cell? ⟨b, off + j * 6 + 2, none⟩ = some (.bool y2) ∧ w.cell? ⟨b, off + j * 6 + 3, none⟩ = some (.string ⟨t2⟩) ∧ w.cell? ⟨b, off + j * 6 + 4, none⟩ = some (.slice a2 l2 c2) ∧ w.cell? ⟨b, off + j * 6 + 5, none⟩ = some (.slice a3 l3 c3) := by
  obtain ⟨b, off, x0, x1, x2, x3, x4, e, hr, c0, c1, c2, c3, c4, c5⟩ := mem_cells h3 h4 j hj
  obtain ⟨a, c, a', c', cl, cm, hcs, _⟩ := hr.parts
  unfold strV at hcs c0
  simp only [List.cons.injEq, and_true] at hcs
  obtain ⟨rfl, rfl, rfl, rfl, rfl⟩ := hcs
  exact ⟨b, off, _, _, _, _, _, _, _, _, _, e, hr, c0, c1, c2, c3, c4, c5⟩
theorem getM_drop {n : List UInt8} {m : List (List UInt8 × JV)} {j : Nat} (hj : j < m.length) : getM n (m.drop j) = if m[j].1 = n then some m[j].2 else getM n (m.drop (j + 1)) := by
  rw [List.drop_eq_getElem_cons hj]
  rfl
theorem str_eq_iff (a b : List UInt8) : ((⟨a.toArray⟩ : ByteArray) = ⟨b.toArray⟩) ↔ a = b := by
  constructor
  · intro h
    have := congrArg (fun x : ByteArray => x.data.toList) h
    simpa using this
  · intro h
    rw [h]
set_option maxRecDepth 100000 in
set_option maxHeartbeats 8000000 in
theorem get_any (ok : Nat → Prop) (cs : List Value) (v : JV) (n : List UInt8) (w : World) (h : Rep ok w cs v) (hm : v.mem.length ≤ 10000000) :
    Calls Try.prog 10 #[.agg cs.toArray, .string ⟨n.toArray⟩] w fun e w' => Below w.heap.size w w' ∧ ∃ cs', e = .returned (.tuple #[.agg cs'.toArray, .bool (getJ n v).isSome]) ∧ Rep ok w' cs' ((getJ n v).getD .zero) := by
  obtain ⟨a, c, a', c', cl, cm, rfl, h1, h2, h3, h4, hc, hc'⟩ := h.parts
  obtain ⟨ki, y, t, l, m⟩ := v
  simp only [JV.kind, JV.yes, JV.text, JV.list, JV.mem, strV] at *
  have H3 := Lib.hid h3.lt
  have H4 := Lib.hid (RepsM.mono h4.lt fun b hb => hb)
  clear h h1 h2 h3 h4 hc hc'
  by_cases hk : ki = 6
  · have q6 : (ki != 6) = false := by simp [hk]
    have HG : Hid (getJ n (.mk ki y t l m) = getM n m) := Lib.hid (by unfold getJ; rw [if_pos (by exact hk)]; rfl)
    clear hk
    go_enter Try.func10, Try.ntmps10
    go_wp2_with fail
    have hs1 : w.heap.size ≤ w.heap.size + 1 := Nat.le_succ _
    go_loopg [15] m.length (fun k iv wr => ∃ j : Nat, iv = .int .i64 (j : Int) ∧ j + k = m.length ∧ Hid (getM n (m.drop j) = getM n m) ∧ Hid (wr.heap[w.heap.size + 1]? = some (.cells zero5.toArray 28 (0, 0))) ∧ Hid (Below w.heap.size w wr))
    case atStart => exact ⟨0, rfl, by omega, Lib.hid rfl, Lib.hid (by rw [show w.heap.size + 1 = (w.alloc (.cells #[.int .i64 ki, .bool y, .string ⟨t.toArray⟩, .slice a l.length c, .slice a' m.length c'] 28)).heap.size by simp]; exact heap_alloc_new _ _), Lib.hid (((Below.refl _ _).alloc (Nat.le_refl _) _).alloc (by simp) _)⟩
    case round =>
      obtain ⟨j, rfl, hj, hd, HZ, HB⟩ := hrel
      by_cases hlt : j < m.length
      · have hltI : (j : Int) < (m.length : Int) := by omega
        obtain ⟨b, off, k2, y2, t2, a2, l2, c2, a3, l3, c3, ea, hrep, i0, i1, i2, i3, i4, i5⟩ := mem_cells' (RdO.keep H3.out fun b _ hb => HB.out.block b hb) (H4.out.under HB.out) j hlt
        subst ea
        have HREP := Lib.hid hrep
        clear hrep
        have HGD := Lib.hid (getM_drop (n := n) hlt)
        obtain ⟨nm, hnm⟩ : ∃ x, m[j].1 = x := ⟨_, rfl⟩
        rw [hnm] at i0 HGD
        clear hnm
        by_cases hn : nm = n
        · have HE : Hid (getM n m = some m[j].2) := Lib.hid (by rw [← hd.out, HGD.out, if_pos hn])
          subst hn
          go_upto_region 7 with (fail)
          have HB7 : Hid (Below wr.heap.size wr (wr.alloc (.cells #[.string ⟨nm.toArray⟩, .int .i64 k2, .bool y2, .string ⟨t2⟩, .slice a2 l2 c2, .slice a3 l3 c3] 38))) := Lib.hid ((Below.refl _ _).alloc (Nat.le_refl _) _)
          have HM7 : Hid ((wr.alloc (.cells #[.string ⟨nm.toArray⟩, .int .i64 k2, .bool y2, .string ⟨t2⟩, .slice a2 l2 c2, .slice a3 l3 c3] 38)).heap[wr.heap.size]? = some (.cells #[.string ⟨nm.toArray⟩, .int .i64 k2, .bool y2, .string ⟨t2⟩, .slice a2 l2 c2, .slice a3 l3 c3] 38 (0, 0))) := Lib.hid (heap_alloc_new _ _)
          generalize hw7 : wr.alloc (.cells #[.string ⟨nm.toArray⟩, .int .i64 k2, .bool y2, .string ⟨t2⟩, .slice a2 l2 c2, .slice a3 l3 c3] 38) = w7 at *
          clear hw7
          have hzl : w.heap.size + 1 < wr.heap.size := (Array.getElem?_eq_some_iff.1 HZ.out).1
          have HZ7 : Hid (w7.heap[w.heap.size + 1]? = some (.cells zero5.toArray 28 (0, 0))) := Lib.hid ((HB7.out.block _ hzl).trans HZ.out)
          have HREP7 := Lib.hid (HREP.out.under HB7.out)
          have HBB := Lib.hid (HB.out.trans (HB7.out.mono HB.out.size))
          have g1 : w7.cell? ⟨wr.heap.size, 1, none⟩ = some (.int .i64 k2) := by rw [Lib.cell_of_heap HM7.out]; rfl
          have g2 : w7.cell? ⟨wr.heap.size, 2, none⟩ = some (.bool y2) := by rw [Lib.cell_of_heap HM7.out]; rfl
          have g3 : w7.cell? ⟨wr.heap.size, 3, none⟩ = some (.string ⟨t2⟩) := by rw [Lib.cell_of_heap HM7.out]; rfl
          have g4 : w7.cell? ⟨wr.heap.size, 4, none⟩ = some (.slice a2 l2 c2) := by rw [Lib.cell_of_heap HM7.out]; rfl
          have g5 : w7.cell? ⟨wr.heap.size, 5, none⟩ = some (.slice a3 l3 c3) := by rw [Lib.cell_of_heap HM7.out]; rfl
          have d0 : w7.cell? ⟨w.heap.size + 1, 0, none⟩ = some (.int .i64 0) := by rw [Lib.cell_of_heap HZ7.out]; rfl
          have d1 : w7.cell? ⟨w.heap.size + 1, 1, none⟩ = some (.bool false) := by rw [Lib.cell_of_heap HZ7.out]; rfl
          have d2 : w7.cell? ⟨w.heap.size + 1, 2, none⟩ = some (.string ⟨#[]⟩) := by rw [Lib.cell_of_heap HZ7.out]; rfl
          have d3 : w7.cell? ⟨w.heap.size + 1, 3, none⟩ = some (.slice none 0 0) := by rw [Lib.cell_of_heap HZ7.out]; rfl
          have d4 : w7.cell? ⟨w.heap.size + 1, 4, none⟩ = some (.slice none 0 0) := by rw [Lib.cell_of_heap HZ7.out]; rfl
          have f0 := Lib.frozen_of_heap HZ7.out 0
          have f1 := Lib.frozen_of_heap HZ7.out 1
          have f2 := Lib.frozen_of_heap HZ7.out 2
          have f3 := Lib.frozen_of_heap HZ7.out 3
          have f4 := Lib.frozen_of_heap HZ7.out 4
          clear i0 i1 i2 i3 i4 i5
          go_wp2_with fail
          have hst := value_stored HZ7.out (.int .i64 k2) (.bool y2) (.string ⟨t2⟩) (.slice a2 l2 c2) (.slice a3 l3 c3)
          have hbe := zero_stored HBB.out hs1 (.int .i64 k2) (.bool y2) (.string ⟨t2⟩) (.slice a2 l2 c2) (.slice a3 l3 c3)
          have e0 := Lib.cell_of_heap hst 0
          have e1 := Lib.cell_of_heap hst 1
          have e2 := Lib.cell_of_heap hst 2
          have e3 := Lib.cell_of_heap hst 3
          have e4 := Lib.cell_of_heap hst 4
          simp only [List.getElem?_toArray] at e0 e1 e2 e3 e4
          refine bodyPost_ret (v := .tuple #[.agg #[.int .i64 k2, .bool y2, .string ⟨t2⟩, .slice a2 l2 c2, .slice a3 l3 c3], .bool true]) (by simp [results, Try.results10, go_sem, e0, e1, e2, e3, e4]) rfl ?_
          exact ⟨hbe, [.int .i64 k2, .bool y2, .string ⟨t2⟩, .slice a2 l2 c2, .slice a3 l3 c3], by rw [HG.out, HE.out]; rfl, by
            rw [HG.out, HE.out]
            exact (HREP7.out.keep fun k hk _ => (hbe.block k hk.2).trans (HBB.out.block k hk.2).symm).mono fun k hk => hk.1⟩
        · have HE : Hid (getM n (m.drop (j + 1)) = getM n m) := Lib.hid (by rw [← hd.out, HGD.out, if_neg hn])
          have qn : (nm == n) = false := by simp [hn]
          clear hn
          go_wp2_with fail
          have HBA := Lib.hid (HB.out.trans (((Below.refl _ _).alloc (Nat.le_refl _) (.cells #[.string ⟨nm.toArray⟩, .int .i64 k2, .bool y2, .string ⟨t2⟩, .slice a2 l2 c2, .slice a3 l3 c3] 38)).mono HB.out.size))
          have hzl : w.heap.size + 1 < wr.heap.size := (Array.getElem?_eq_some_iff.1 HZ.out).1
          go_roundg (gk - 1)
          case measure => omega
          case rel => exact ⟨j + 1, by first | rfl | (congr 1), by omega, HE, Lib.hid (((World.grownBy_alloc wr _ none).block _ hzl (by simp)).trans HZ.out), HBA⟩
      · have hge : ¬ (j : Int) < (m.length : Int) := by omega
        have d0 : wr.cell? ⟨w.heap.size + 1, 0, none⟩ = some (.int .i64 0) := by rw [Lib.cell_of_heap HZ.out]; rfl
        have d1 : wr.cell? ⟨w.heap.size + 1, 1, none⟩ = some (.bool false) := by rw [Lib.cell_of_heap HZ.out]; rfl
        have d2 : wr.cell? ⟨w.heap.size + 1, 2, none⟩ = some (.string ⟨#[]⟩) := by rw [Lib.cell_of_heap HZ.out]; rfl
        have d3 : wr.cell? ⟨w.heap.size + 1, 3, none⟩ = some (.slice none 0 0) := by rw [Lib.cell_of_heap HZ.out]; rfl
        have d4 : wr.cell? ⟨w.heap.size + 1, 4, none⟩ = some (.slice none 0 0) := by rw [Lib.cell_of_heap HZ.out]; rfl
        have f0 := Lib.frozen_of_heap HZ.out 0
        have f1 := Lib.frozen_of_heap HZ.out 1
        have f2 := Lib.frozen_of_heap HZ.out 2
        have f3 := Lib.frozen_of_heap HZ.out 3
        have f4 := Lib.frozen_of_heap HZ.out 4
        have HE : Hid (getM n m = none) := Lib.hid (by rw [← hd.out, List.drop_eq_nil_of_le (by omega)]; rfl)
        go_wp2_with fail
        have hst := value_stored HZ.out (.int .i64 0) (.bool false) (.string ⟨#[]⟩) (.slice none 0 0) (.slice none 0 0)
        have hbe := zero_stored HB.out hs1 (.int .i64 0) (.bool false) (.string ⟨#[]⟩) (.slice none 0 0) (.slice none 0 0)
        have e0 := Lib.cell_of_heap hst 0
        have e1 := Lib.cell_of_heap hst 1
        have e2 := Lib.cell_of_heap hst 2
        have e3 := Lib.cell_of_heap hst 3
        have e4 := Lib.cell_of_heap hst 4
        simp only [List.getElem?_toArray] at e0 e1 e2 e3 e4
        refine bodyPost_ret (v := .tuple #[.agg #[.int .i64 0, .bool false, .string ⟨#[]⟩, .slice none 0 0, .slice none 0 0], .bool false]) (by simp [results, Try.results10, go_sem, e0, e1, e2, e3, e4]) rfl ?_
        exact ⟨hbe, zero5, by rw [HG.out, HE.out]; rfl, by rw [HG.out, HE.out]; exact Rep.leaf _ _ 0 false []⟩
  · have q6 : (ki != 6) = true := by simp [hk]
    have HG : Hid (getJ n (.mk ki y t l m) = none) := Lib.hid (by unfold getJ; rw [if_neg (by exact hk)])
    clear hk
    go_enter Try.func10, Try.ntmps10
    go_wp2_with fail
    refine bodyPost_ret (v := .tuple #[.agg zero5.toArray, .bool false]) (by simp [zero5, results, Try.results10, go_sem]) rfl ?_
    exact ⟨((Below.refl _ _).alloc (Nat.le_refl _) _).alloc (by simp) _, zero5, by rw [HG.out]; rfl, by rw [HG.out]; exact Rep.leaf _ _ 0 false []⟩
end Go.Proofs.Ytfcokdkbjajohaa
/- json's reader: a member. -/
set_option linter.unusedVariables false
namespace Go.Proofs.Ytfcokdkbjajohaa
open Go.RowKit

/-- An object that is read: its value at block gv. -/
structure MemIs (g gv gb B : Nat) (S : List UInt8) (d o : Nat) (w : World) (m : List (List UInt8 × JV)) (p : Nat) (V : Value) (cm : List (List Value)) : Prop where
  rdr : Rdr w g S p d o
  box : w.cell? ⟨gb, 0, none⟩ = some (.pointer (some ⟨g, 0, none⟩))
  blk : w.heap[gv]? = some (.cells #[.int .i64 6, .bool false, .string ⟨#[]⟩, .slice none 0 0, V] 28 (0, 0))
  own : w.ownsRow B 38 6 V m.length (memCells m cm)
  reps : RepsM (fun k => B ≤ k ∧ V.ownBlock ≠ some k) w cm m
  size : B ≤ w.heap.size
  len : m.length ≤ p
def zero6 : List Value := [.string ⟨#[]⟩, .int .i64 0, .bool false, .string ⟨#[]⟩, .slice none 0 0, .slice none 0 0]
theorem ArrIs.mv {g gv gb B : Nat} {S : List UInt8} {d o : Nat} {w w' : World} {l : List JV} {p p' : Nat} {V : Value} {cl : List (List Value)} (h : ArrIs g gv gb B S d o w l p V cl) (hb : But g w w') (hr : Rdr w' g S p' d o) (hp : p ≤ p') (hg : g < B) (hv : gv < B) (h1 : g ≠ gv) (h2 : g ≠ gb) (hbB : gb < B) : ArrIs g gv gb B S d o w' l p' V cl := by
  refine ⟨hr, ?_, (hb.block gv (Nat.lt_of_lt_of_le hv h.size) (Ne.symm h1)).trans h.blk, own_butg h.own hb hg, h.reps.keep fun k hk hlt => hb.block k hlt (by have := hk.1; omega), Nat.le_trans h.size hb.size, Nat.le_trans h.len hp⟩
  rw [← h.box]
  unfold World.cell?
  rw [hb.block gb (Nat.lt_of_lt_of_le hbB h.size) (Ne.symm h2)]
theorem MemIs.mv {g gv gb B : Nat} {S : List UInt8} {d o : Nat} {w w' : World} {l : List (List UInt8 × JV)} {p p' : Nat} {V : Value} {cl : List (List Value)} (h : MemIs g gv gb B S d o w l p V cl) (hb : But g w w') (hr : Rdr w' g S p' d o) (hp : p ≤ p') (hg : g < B) (hv : gv < B) (h1 : g ≠ gv) (h2 : g ≠ gb) (hbB : gb < B) : MemIs g gv gb B S d o w' l p' V cl := by
  refine ⟨hr, ?_, (hb.block gv (Nat.lt_of_lt_of_le hv h.size) (Ne.symm h1)).trans h.blk, own_butg h.own hb hg, h.reps.keep fun k hk hlt => hb.block k hlt (by have := hk.1; omega), Nat.le_trans h.size hb.size, Nat.le_trans h.len hp⟩
  rw [← h.box]
  unfold World.cell?
  rw [hb.block gb (Nat.lt_of_lt_of_le hbB h.size) (Ne.symm h2)]
/-- Ahead of the append. -/
structure MJ (g gv : Nat) (S : List UInt8) (d o p : Nat) (val : List UInt8 → PR JV) (V : Value) (nm : List UInt8) (n : Nat) (a0 : Act) (w0 : World) (b : Nat → Bool) (a : Act) (w : World) : Prop where
  fr : Fr [32, 33, 34, 35, 36, 37, 38, 39, 40, 41, 42, 43, 44, 45] a0 a
  but : But g w0 w
  late : ∀ i, 10 < i → b i = false
  b0 : b 0 = true → a.tmps.getD 32 undef = .pointer (some ⟨gv, 0, none⟩)
  b1 : b 1 = true → a.tmps.getD 33 undef = .pointer (some ⟨gv, 0, none⟩)
  b2 : b 2 = true → a.tmps.getD 34 undef = .pointer (some ⟨gv, 4, none⟩)
  b3 : b 3 = true → a.tmps.getD 35 undef = V
  b4 : b 4 = true → a.tmps.getD 36 undef = strV nm
  b5 : b 5 = true → a.tmps.getD 37 undef = .pointer (some ⟨g, 0, none⟩)
  b6 : b 6 = true → ∃ cs v q, val (S.drop p) = .ok v (S.drop q) ∧ a.tmps.getD 38 undef = .agg cs.toArray ∧ Rep (w0.heap.size ≤ ·) w cs v ∧ Rdr w g S q d o ∧ (b 7 = true → a.tmps.getD 39 undef = .agg (strV nm :: cs).toArray)
  n6 : b 6 = false → Rdr w g S p d o ∧ b 7 = false
  b8 : b 8 = true → a.tmps.getD 40 undef = .int .i64 (n : Nat)
  b9 : b 9 = true → ∃ h, a.tmps.getD 41 undef = .slice (some ⟨h, 0, none⟩) 1 1 ∧ w0.heap.size ≤ h ∧ w.heap[h]? = some (.cells zero6.toArray 38 (0, 0))
/-- Behind it. -/
structure MK (g gv B : Nat) (S : List UInt8) (d o q : Nat) (V : Value) (nm : List UInt8) (m : List (List UInt8 × JV)) (cm : List (List Value)) (cs : List Value) (v : JV) (k cap : Nat) (a0 : Act) (w0 : World) (b : Nat → Bool) (a : Act) (w : World) : Prop where
  fr : Fr [32, 33, 34, 35, 36, 37, 38, 39, 40, 41, 42, 43, 44, 45] a0 a
  but : ButV B g gv w0 w
  all : ∀ i, i < 11 → b i = true
  e32 : a.tmps.getD 32 undef = .pointer (some ⟨gv, 0, none⟩)
  e39 : a.tmps.getD 39 undef = .agg (strV nm :: cs).toArray
  e40 : a.tmps.getD 40 undef = .int .i64 (m.length : Nat)
  e42 : a.tmps.getD 42 undef = .slice (some ⟨k, 0, none⟩) (m.length + 1) cap
  own : w.ownsRow B 38 6 (.slice (some ⟨k, 0, none⟩) (m.length + 1) cap) (m.length + 1) (memCells m cm ++ (if b 12 then strV nm :: cs else zero6))
  reps : RepsM (fun j => B ≤ j ∧ j ≠ k) w cm m
  rep : Rep (fun j => B ≤ j ∧ j ≠ k) w cs v
  rdr : Rdr w g S q d o
  blk : w.heap[gv]? = some (.cells #[.int .i64 6, .bool false, .string ⟨#[]⟩, .slice none 0 0, if b 15 then .slice (some ⟨k, 0, none⟩) (m.length + 1) cap else V] 28 (0, 0))
  b11 : b 11 = true → a.tmps.getD 43 undef = .pointer (some ⟨k, m.length * 6, none⟩)
  b13 : b 13 = true → a.tmps.getD 44 undef = .pointer (some ⟨gv, 0, none⟩)
  b14 : b 14 = true → a.tmps.getD 45 undef = .pointer (some ⟨gv, 4, none⟩)
theorem MJ.step {g gv : Nat} {S : List UInt8} {d o p : Nat} {val : List UInt8 → PR JV} {V : Value} {nm : List UInt8} {n : Nat} {a0 : Act} {w0 : World} {b : Nat → Bool} {a : Act} {w : World} (h : MJ g gv S d o p val V nm n a0 w0 b a w) (hs : a0.tmps.size = 46) (hg : g < w0.heap.size)
    (i : Nat) (hi : i < 10) (x : Value) (w' : World) (hb : But g w w') (n0 : i = 0 → x = .pointer (some ⟨gv, 0, none⟩)) (n1 : i = 1 → x = .pointer (some ⟨gv, 0, none⟩)) (n2 : i = 2 → x = .pointer (some ⟨gv, 4, none⟩)) (n3 : i = 3 → x = V) (n4 : i = 4 → x = strV nm) (n5 : i = 5 → x = .pointer (some ⟨g, 0, none⟩))
    (n6 : i = 6 → b 6 = false ∧ ∃ cs v q, val (S.drop p) = .ok v (S.drop q) ∧ x = .agg cs.toArray ∧ Rep (w0.heap.size ≤ ·) w' cs v ∧ Rdr w' g S q d o) (k6 : i ≠ 6 → w'.heap[g]? = w.heap[g]?) (n7 : i = 7 → b 6 = true ∧ ∃ cs : List Value, a.tmps.getD 38 undef = .agg cs.toArray ∧ x = .agg (strV nm :: cs).toArray) (n8 : i = 8 → x = .int .i64 (n : Nat))
    (n9 : i = 9 → ∃ h, x = .slice (some ⟨h, 0, none⟩) 1 1 ∧ w0.heap.size ≤ h ∧ w'.heap[h]? = some (.cells zero6.toArray 38 (0, 0))) :
    MJ g gv S d o p val V nm n a0 w0 (fun j => if j = i then true else b j) (a.put (some (i + 32)) x) w' := by
  have hmem : i + 32 ∈ [32, 33, 34, 35, 36, 37, 38, 39, 40, 41, 42, 43, 44, 45] := by
    simp only [List.mem_cons, List.mem_nil_iff, or_false]
    omega
  have hsz : i + 32 < a.tmps.size := by rw [h.fr.size, hs]; omega
  have hat := put_at a (i + 32) x hsz
  have hot : ∀ k, k ≠ i + 32 → (a.put (some (i + 32)) x).tmps.getD k undef = a.tmps.getD k undef := fun k hk => put_other a (i + 32) k x hk
  refine ⟨h.fr.put hmem x, h.but.trans hb, (fun j hj => (if_neg (by omega)).trans (h.late j hj)), fun e => ?_, fun e => ?_, fun e => ?_, fun e => ?_, fun e => ?_, fun e => ?_, fun e => ?_, fun e => ?_, fun e => ?_, fun e => ?_⟩
  · by_cases ei : i = 0
    · subst ei; rw [hat]; exact n0 rfl
    · rw [hot 32 (by omega)]
      exact h.b0 (by simpa [show (0 : Nat) ≠ i by omega] using e)
  · by_cases ei : i = 1
    · subst ei; rw [hat]; exact n1 rfl
    · rw [hot 33 (by omega)]
      exact h.b1 (by simpa [show (1 : Nat) ≠ i by omega] using e)
  · by_cases ei : i = 2
    · subst ei; rw [hat]; exact n2 rfl
    · rw [hot 34 (by omega)]
      exact h.b2 (by simpa [show (2 : Nat) ≠ i by omega] using e)
  · by_cases ei : i = 3
    · subst ei; rw [hat]; exact n3 rfl
    · rw [hot 35 (by omega)]
      exact h.b3 (by simpa [show (3 : Nat) ≠ i by omega] using e)
  · by_cases ei : i = 4
    · subst ei; rw [hat]; exact n4 rfl
    · rw [hot 36 (by omega)]
      exact h.b4 (by simpa [show (4 : Nat) ≠ i by omega] using e)
  · by_cases ei : i = 5
    · subst ei; rw [hat]; exact n5 rfl
    · rw [hot 37 (by omega)]
      exact h.b5 (by simpa [show (5 : Nat) ≠ i by omega] using e)
  · by_cases ei : i = 6
    · subst ei
      obtain ⟨hb6, cs, v, q, h1, h2, h3, h4⟩ := n6 rfl
      rw [hat]
      refine ⟨cs, v, q, h1, h2, h3, h4, fun e7 => ?_⟩
      have := (h.n6 hb6).2
      simp [this] at e7
    · have e6 : b 6 = true := by simpa [show (6 : Nat) ≠ i by omega] using e
      obtain ⟨cs, v, q, h1, h2, h3, h4, h5⟩ := h.b6 e6
      rw [hot 38 (by omega)]
      refine ⟨cs, v, q, h1, h2, h3.keep fun k hk hlt => hb.block k hlt (by omega), ⟨(k6 ei).trans h4.heap, h4.le⟩, fun e7 => ?_⟩
      by_cases ej : i = 7
      · subst ej
        obtain ⟨_, cs', h6, h7⟩ := n7 rfl
        rw [hat]
        rw [h2] at h6
        have hc : cs = cs' := by simpa using h6
        rw [hc]
        exact h7
      · rw [hot 39 (by omega)]
        exact h5 (by simpa [show (7 : Nat) ≠ i by omega] using e7)
  · by_cases ei : i = 6
    · subst ei; simp at e
    · have e6 : b 6 = false := by simpa [show (6 : Nat) ≠ i by omega] using e
      have h4 := h.n6 e6
      refine ⟨⟨(k6 ei).trans h4.1.heap, h4.1.le⟩, ?_⟩
      by_cases ej : i = 7
      · have := (n7 ej).1
        rw [e6] at this
        cases this
      · exact (if_neg (by omega)).trans h4.2
  · by_cases ei : i = 8
    · subst ei; rw [hat]; exact n8 rfl
    · rw [hot 40 (by omega)]
      exact h.b8 (by simpa [show (8 : Nat) ≠ i by omega] using e)
  · by_cases ei : i = 9
    · subst ei; rw [hat]; exact n9 rfl
    · rw [hot 41 (by omega)]
      obtain ⟨k, h1, h2, h3⟩ := h.b9 (by simpa [show (9 : Nat) ≠ i by omega] using e)
      exact ⟨k, h1, h2, (hb.block k (Array.getElem?_eq_some_iff.1 h3).1 (by omega)).trans h3⟩
theorem wp_frame_gen {P : Program} {c : Code} {Q : Exit → Act → World → Prop} {a : Act} {w : World} (h : ∀ a0 : Act, a0.tmps.size = a.tmps.size → a0.defers = a.defers → (∀ k, a0.tmps.getD k undef = a.tmps.getD k undef) → c.wp P Q a0 w) : c.wp P Q a w := h a rfl rfl fun _ => rfl
theorem own_shape {B : Nat} {E : TypeId} {sz : Nat} {w : World} {v : Value} {n : Nat} {xs : List Value} (h : w.ownsRow B E sz v n xs) : ∃ a c, v = .slice a n c ∧ RdO (B ≤ ·) w a xs ∧ n ≤ c := by
  rcases h with ⟨h1, ⟨rfl, hn⟩ | ⟨g, cap, cur, rfl, hb, hg, hn, hc, hs, ht⟩⟩
  · subst hn
    exact ⟨none, 0, rfl, .inl (List.eq_nil_of_length_eq_zero (by omega)), Nat.le_refl _⟩
  · refine ⟨_, _, rfl, .inr ⟨g, 0, rfl, hb, fun i u hu => ?_⟩, hn⟩
    rw [Lib.cell_of_heap hg]
    rw [← ht, List.getElem?_take] at hu
    split at hu
    · simpa using hu
    · cases hu
set_option maxRecDepth 100000 in
set_option maxHeartbeats 16000000 in
theorem jmem_any (val : List UInt8 → PR JV) (hsh : ∀ v r r', val r = .ok v r' → r'.length < r.length) (g gv gb B : Nat) (S : List UInt8) (d o : Nat) (hV : ValC val g S d o) (hl : S.length ≤ 1000000) (hgv : g < B) (hvv : gv < B) (hbv : gb < B) (h1 : g ≠ gv) (h2 : g ≠ gb) (hbg : gb ≠ gv)
    (wI : World) (m : List (List UInt8 × JV)) (pI : Nat) (V : Value) (cm : List (List Value)) (h : MemIs g gv gb B S d o wI m pI V cm) :
    Calls Try.prog 84 #[.pointer (some ⟨g, 0, none⟩), .pointer (some ⟨gv, 0, none⟩)] wI fun e wI' => ButV B g gv wI wI' ∧
      ((∃ m' q V' cm', memR val m (S.drop pI) = .ok m' (S.drop q) ∧ e = .returned (.tuple #[]) ∧ MemIs g gv gb B S d o wI' m' q V' cm') ∨ ∃ n a, memR val m (S.drop pI) = .bad n ∧ e = .panicked (thrown n a)) := by
  have hB0 := h.size
  have hlp0 := h.len
  have hple0 := h.rdr.le
  have H0 := Lib.hid h
  have HV := Lib.hid hV
  have HS := Lib.hid hsh
  have hk1 := h.rdr.c1
  have HT := Lib.hid (jtext_any g S pI d o wI h.rdr hl)
  have HM : Hid (∀ nm r, textR (S.drop pI) = .ok nm r → memR val m (S.drop pI) = if (getM nm m).isSome then .bad 15 else (mustL 58 (blankL r)).bind fun _ r => (val (blankL r)).bind fun v r => .ok (m ++ [(nm, v)]) r) := Lib.hid fun nm r e => by unfold memR; rw [e]; rfl
  have HM0 : Hid (∀ n, textR (S.drop pI) = .bad n → memR val m (S.drop pI) = .bad n) := Lib.hid fun n e => by unfold memR; rw [e]; rfl
  clear h hV hsh
  go_enter Try.func84, Try.ntmps84
  go_wp2_with fail
  refine HT.out.mono ?_
  rintro e w1 ⟨hb1, ⟨nm, q1, ht, rfl, hr1⟩ | ⟨n, a, ht, rfl⟩⟩
  · have hq1 := hr1.out.le
    have hpq1 : pI ≤ q1 := by
      have := text_short ht.out
      simp only [List.length_drop] at this
      omega
    have H1 := Lib.hid (H0.out.mv hb1.out hr1.out hpq1 hgv hvv h1 h2 hbv)
    have HM1 := Lib.hid (HM.out nm _ ht.out)
    have HB1 := Lib.hid hb1.out
    have hB1 := H1.out.size
    obtain ⟨xa, xc, hVe, hrdo, hxc⟩ := own_shape H1.out.own
    have hrep1 : Rep (fun _ => True) w1 [.int .i64 6, .bool false, .string ⟨#[]⟩, .slice none 0 0, .slice xa m.length xc] (jobj m) :=
      rep_of (k := 6) (y := false) (t := []) (l := []) (cl := []) (.inl rfl) (Reps.nil _ _) (hrdo.mono fun _ _ => trivial) (H1.out.reps.mono fun _ _ => trivial) (Nat.le_refl 0) hxc
    have HGET := Lib.hid (get_any (fun _ => True) _ (jobj m) nm w1 hrep1 (by show m.length ≤ _; omega))
    have v0 : w1.cell? ⟨gv, 0, none⟩ = some (.int .i64 6) := by rw [Lib.cell_of_heap H1.out.blk]; rfl
    have v1 : w1.cell? ⟨gv, 1, none⟩ = some (.bool false) := by rw [Lib.cell_of_heap H1.out.blk]; rfl
    have v2 : w1.cell? ⟨gv, 2, none⟩ = some (.string ⟨#[]⟩) := by rw [Lib.cell_of_heap H1.out.blk]; rfl
    have v3 : w1.cell? ⟨gv, 3, none⟩ = some (.slice none 0 0) := by rw [Lib.cell_of_heap H1.out.blk]; rfl
    have v4 : w1.cell? ⟨gv, 4, none⟩ = some (.slice xa m.length xc) := by rw [Lib.cell_of_heap H1.out.blk, ← hVe]; rfl
    have HgJ : Hid (getJ nm (jobj m) = getM nm m) := Lib.hid rfl
    clear hb1 hr1 ht hrep1 hrdo HM HM0 HT hk1 H0
    go_wp2_with fail
    refine HGET.out.mono ?_
    rintro e w2 ⟨hbel, cs', rfl, hrep'⟩
    rw [HgJ.out] at hrep'
    obtain ⟨pa, pc, pa', pc', _, _, rfl, _⟩ := hrep'.parts
    rw [HgJ.out]
    have hs2 : w1.heap.size ≤ w2.heap.size := hbel.size
    have HB2 : Hid (∀ ob, But g wI (w2.alloc ob)) := Lib.hid fun ob => HB1.out.trans ⟨hbel.os, hbel.tape, hbel.output, by simp; omega, fun k hk _ => ((World.grownBy_alloc w2 ob none).block k (by omega) (by simp)).trans (hbel.block k hk)⟩
    have HBa : Hid (∀ ob, But g w1 (w2.alloc ob)) := Lib.hid fun ob => ⟨hbel.os, hbel.tape, hbel.output, by simp; omega, fun k hk _ => ((World.grownBy_alloc w2 ob none).block k (by omega) (by simp)).trans (hbel.block k hk)⟩
    have hgw1 : g < w1.heap.size := by omega
    have HRa : Hid (∀ ob, Rdr (w2.alloc ob) g S q1 d o) := Lib.hid fun ob => ⟨((World.grownBy_alloc w2 ob none).block g (by omega) (by simp)).trans ((hbel.block g hgw1).trans H1.out.rdr.heap), hq1⟩
    clear hbel hrep' HGET HgJ v0 v1 v2 v3 v4
    unfold strV
    cases hgm : (getM nm m).isSome with
    | true =>
      have HE : Hid (memR val m (S.drop pI) = .bad 15) := Lib.hid (by rw [HM1.out, if_pos hgm])
      clear hgm
      go_wp2_with fail
      refine (jfail_any g 15 pI _).mono ?_
      rintro e w3 ⟨rfl, rfl⟩
      go_wp2_with fail
      exact ⟨rfl, ButV.of_but (HB2.out _) hB0, .inr ⟨15, pI, HE.out, rfl⟩⟩
    | false =>
      have HE : Hid (memR val m (S.drop pI) = (mustL 58 (blankL (S.drop q1))).bind fun _ r => (val (blankL r)).bind fun v r => .ok (m ++ [(nm, v)]) r) := Lib.hid (by rw [HM1.out, if_neg (by simp [hgm])])
      clear hgm HM1
      go_upto_region 5 with (fail)
      generalize hw3 : w2.alloc _ = w3
      have HB3 : Hid (But g wI w3) := Lib.hid (by rw [← hw3]; exact HB2.out _)
      have H3 := Lib.hid (H1.out.mv (w' := w3) (by rw [← hw3]; exact HBa.out _) (by rw [← hw3]; exact HRa.out _) (Nat.le_refl q1) hgv hvv h1 h2 hbv)
      have hr3 := H3.out.rdr
      have HBL := Lib.hid (jblank_any g S q1 d o w3 hr3 hl)
      clear hw3 HB2 HBa HRa hs2 hr3 H1 HB1 hB1
      go_wp2_with fail
      refine HBL.out.mono ?_
      rintro e w4 ⟨rfl, q4, hq4, hle4, hr4, hb4⟩
      rw [← hq4] at HE
      have H4 := Lib.hid (H3.out.mv hb4 hr4 hle4 hgv hvv h1 h2 hbv)
      have HB4 := Lib.hid (HB3.out.trans hb4)
      have HMU := Lib.hid (jmust_any g S q4 d o 58 58 w4 hr4 hl (by decide) rfl)
      clear hr4 hb4 hq4 H3 HB3 HBL
      go_wp2_with fail
      refine HMU.out.mono ?_
      rintro e w5 ⟨hb5, ⟨q5, h5, rfl, hr5⟩ | ⟨n, a, h5, rfl⟩⟩
      · have hle5 : q4 ≤ q5 := by
          have := must_short h5
          have := hr5.le
          simp only [List.length_drop] at *
          omega
        have HE5 : Hid (memR val m (S.drop pI) = (val (blankL (S.drop q5))).bind fun v r => .ok (m ++ [(nm, v)]) r) := Lib.hid (by rw [HE.out, h5]; rfl)
        have H5 := Lib.hid (H4.out.mv hb5 hr5 hle5 hgv hvv h1 h2 hbv)
        have HB5 := Lib.hid (HB4.out.trans hb5)
        have HBL := Lib.hid (jblank_any g S q5 d o w5 hr5 hl)
        clear hr5 hb5 h5 H4 HB4 HMU HE
        go_wp2_with fail
        refine HBL.out.mono ?_
        rintro e w ⟨rfl, p, hq6, hle6, hr6, hb6⟩
        rw [← hq6] at HE5
        have H := Lib.hid (H5.out.mv hb6 hr6 hle6 hgv hvv h1 h2 hbv)
        have HB6 := Lib.hid (HB5.out.trans hb6)
        clear hr6 hb6 hq6 H5 HB5 HBL hpq1 hle4 hle5 hle6
        have hB := H.out.size
        have hfl := mem6_len H.out.reps
        have hlp := H.out.len
        have hple := H.out.rdr.le
        go_upto_region 8 with (fail)
        have hok : ∀ v q V' cm' wI', val (S.drop p) = .ok v (S.drop q) → ButV B g gv w wI' → MemIs g gv gb B S d o wI' (m ++ [(nm, v)]) q V' cm' → ButV B g gv wI wI' ∧ ((∃ m' q V' cm', memR val m (S.drop pI) = .ok m' (S.drop q) ∧ Ending.returned (.tuple #[]) = .returned (.tuple #[]) ∧ MemIs g gv gb B S d o wI' m' q V' cm') ∨ ∃ n a, memR val m (S.drop pI) = .bad n ∧ Ending.returned (.tuple #[]) = .panicked (thrown n a)) := fun v q V' cm' wI' hv hb hm => ⟨(ButV.of_but HB6.out hB0).trans hb, .inl ⟨_, q, V', cm', by rw [HE5.out, hv]; rfl, rfl, hm⟩⟩
        have hbad : ∀ n a wI', val (S.drop p) = .bad n → ButV B g gv w wI' → ButV B g gv wI wI' ∧ ((∃ m' q V' cm', memR val m (S.drop pI) = .ok m' (S.drop q) ∧ Ending.panicked (thrown n a) = .returned (.tuple #[]) ∧ MemIs g gv gb B S d o wI' m' q V' cm') ∨ ∃ n' a', memR val m (S.drop pI) = .bad n' ∧ Ending.panicked (thrown n a) = .panicked (thrown n' a')) := fun n a wI' hv hb => ⟨(ButV.of_but HB6.out hB0).trans hb, .inr ⟨n, a, by rw [HE5.out, hv]; rfl, rfl⟩⟩
        have HOK := Lib.hid hok
        have HBAD := Lib.hid hbad
        clear HE5 hok hbad
        refine wp_frame_gen fun a0 hs0 hd0 hz => ?_
        have hs0 : a0.tmps.size = 46 := hs0
        have hd0 : a0.defers = [] := hd0
        have z0 : a0.tmps.getD 0 undef = .pointer (some ⟨g, 0, none⟩) := hz 0
        have z1 : a0.tmps.getD 1 undef = .pointer (some ⟨gv, 0, none⟩) := hz 1
        have z5 : a0.tmps.getD 5 undef = strV nm := hz 5
        clear hz
        refine wp_region_inv (by kernel_rfl) (by kernel_rfl) (fun b a' w' => (b 10 = false ∧ MJ g gv S d o p val V nm m.length a0 w b a' w') ∨ ∃ cs v q k cap, val (S.drop p) = .ok v (S.drop q) ∧ MK g gv B S d o q V nm m cm cs v k cap a0 w b a' w') ?_ ?_ ?_
        · exact .inl ⟨rfl, Fr.refl _ _, ⟨rfl, rfl, rfl, Nat.le_refl _, fun _ _ _ => rfl⟩, (fun _ _ => rfl), (fun e => by cases e), (fun e => by cases e), (fun e => by cases e), (fun e => by cases e), (fun e => by cases e), (fun e => by cases e), (fun e => by cases e), fun _ => ⟨⟨H.out.rdr.heap, H.out.rdr.le⟩, rfl⟩, (fun e => by cases e), (fun e => by cases e)⟩
        · rintro b a' w' (⟨hb6, hJ⟩ | ⟨cs, v, q, k, cap, hokv, hK⟩) i op ho hbi hdep
          · have t0 : a'.tmps.getD 0 undef = .pointer (some ⟨g, 0, none⟩) := (hJ.fr.same 0 (by decide)).trans z0
            have t1 : a'.tmps.getD 1 undef = .pointer (some ⟨gv, 0, none⟩) := (hJ.fr.same 1 (by decide)).trans z1
            have t5 : a'.tmps.getD 5 undef = strV nm := (hJ.fr.same 5 (by decide)).trans z5
            have hgl : g < w.heap.size := by omega
            rcases i with _ | _ | _ | _ | _ | _ | _ | _ | _ | _ | _ | _ | _ | _ | _ | _ | i
            · cases ho
              refine op_step rfl rfl (op_value (v := .pointer (some ⟨gv, 0, none⟩)) (w' := w') ?_ (.inl ⟨by simpa using hb6, hJ.step hs0 hgl 0 (by decide) _ w' (But.refl g w') (fun _ => rfl) (fun e => absurd e (by decide)) (fun e => absurd e (by decide)) (fun e => absurd e (by decide)) (fun e => absurd e (by decide)) (fun e => absurd e (by decide)) (fun e => absurd e (by decide)) (fun _ => rfl) (fun e => absurd e (by decide)) (fun e => absurd e (by decide)) (fun e => absurd e (by decide))⟩))
              simp only [execOp, Act.eval, t1]
              go_simp
            · cases ho
              have e0 := hJ.b0 (dep_of hdep 0 (by kernel_rfl))
              refine op_step rfl rfl (op_value (v := .pointer (some ⟨gv, 0, none⟩)) (w' := w') ?_ (.inl ⟨by simpa using hb6, hJ.step hs0 hgl 1 (by decide) _ w' (But.refl g w') (fun e => absurd e (by decide)) (fun _ => rfl) (fun e => absurd e (by decide)) (fun e => absurd e (by decide)) (fun e => absurd e (by decide)) (fun e => absurd e (by decide)) (fun e => absurd e (by decide)) (fun _ => rfl) (fun e => absurd e (by decide)) (fun e => absurd e (by decide)) (fun e => absurd e (by decide))⟩))
              simp only [execOp, Act.eval, e0]
              go_simp
            · cases ho
              have e0 := hJ.b1 (dep_of hdep 1 (by kernel_rfl))
              refine op_step rfl rfl (op_value (v := .pointer (some ⟨gv, 4, none⟩)) (w' := w') ?_ (.inl ⟨by simpa using hb6, hJ.step hs0 hgl 2 (by decide) _ w' (But.refl g w') (fun e => absurd e (by decide)) (fun e => absurd e (by decide)) (fun _ => rfl) (fun e => absurd e (by decide)) (fun e => absurd e (by decide)) (fun e => absurd e (by decide)) (fun e => absurd e (by decide)) (fun _ => rfl) (fun e => absurd e (by decide)) (fun e => absurd e (by decide)) (fun e => absurd e (by decide))⟩))
              simp only [execOp, Act.eval, e0]
              go_simp
            · cases ho
              have e0 := hJ.b2 (dep_of hdep 2 (by kernel_rfl))
              have c3 : w'.cell? ⟨gv, 4, none⟩ = some V := by rw [Lib.cell_of_heap ((hJ.but.block gv (by omega) (Ne.symm h1)).trans H.out.blk)]; rfl
              refine op_step rfl rfl (op_value (v := V) (w' := w') ?_ (.inl ⟨by simpa using hb6, hJ.step hs0 hgl 3 (by decide) _ w' (But.refl g w') (fun e => absurd e (by decide)) (fun e => absurd e (by decide)) (fun e => absurd e (by decide)) (fun _ => rfl) (fun e => absurd e (by decide)) (fun e => absurd e (by decide)) (fun e => absurd e (by decide)) (fun _ => rfl) (fun e => absurd e (by decide)) (fun e => absurd e (by decide)) (fun e => absurd e (by decide))⟩))
              simp only [execOp, Act.eval, e0]
              go_simp
            · cases ho
              refine op_step rfl rfl (op_value (v := strV nm) (w' := w') ?_ (.inl ⟨by simpa using hb6, hJ.step hs0 hgl 4 (by decide) _ w' (But.refl g w') (fun e => absurd e (by decide)) (fun e => absurd e (by decide)) (fun e => absurd e (by decide)) (fun e => absurd e (by decide)) (fun _ => rfl) (fun e => absurd e (by decide)) (fun e => absurd e (by decide)) (fun _ => rfl) (fun e => absurd e (by decide)) (fun e => absurd e (by decide)) (fun e => absurd e (by decide))⟩))
              simp only [execOp, Act.eval, t5]
              go_simp
            · cases ho
              refine op_step rfl rfl (op_value (v := .pointer (some ⟨g, 0, none⟩)) (w' := w') ?_ (.inl ⟨by simpa using hb6, hJ.step hs0 hgl 5 (by decide) _ w' (But.refl g w') (fun e => absurd e (by decide)) (fun e => absurd e (by decide)) (fun e => absurd e (by decide)) (fun e => absurd e (by decide)) (fun e => absurd e (by decide)) (fun _ => rfl) (fun e => absurd e (by decide)) (fun _ => rfl) (fun e => absurd e (by decide)) (fun e => absurd e (by decide)) (fun e => absurd e (by decide))⟩))
              simp only [execOp, Act.eval, t0]
              go_simp
            · cases ho
              have e2 := hJ.b5 (dep_of hdep 5 (by kernel_rfl))
              refine op_step rfl rfl (op_call ent_value rfl (by simp only [List.map_toArray, List.map_cons, List.map_nil, Act.eval, e2]) ((HV.out p w' (hJ.n6 hbi).1).mono ?_))
              rintro e w'' ⟨hbu, ⟨cs, v, q, hokc, rfl, hrep, hrd⟩ | ⟨n, at', hbadc, rfl⟩⟩
              · refine .inl ⟨_, rfl, .inl ⟨by simpa using hb6, hJ.step hs0 hgl 6 (by decide) _ w'' hbu.out (fun e => absurd e (by decide)) (fun e => absurd e (by decide)) (fun e => absurd e (by decide)) (fun e => absurd e (by decide)) (fun e => absurd e (by decide)) (fun e => absurd e (by decide)) (fun _ => ⟨hbi, cs, v, q, hokc.out, rfl, hrep.out.mono fun k hk => Nat.le_trans hJ.but.size hk, hrd.out⟩) (fun e => absurd rfl e) (fun e => absurd e (by decide)) (fun e => absurd e (by decide)) (fun e => absurd e (by decide))⟩⟩
              · refine .inr ⟨_, rfl, ?_⟩
                exact ⟨hJ.fr.defers.trans hd0, HBAD.out n at' _ hbadc.out (ButV.of_but (gv := gv) (hJ.but.trans hbu.out) hB)⟩
            · cases ho
              have e4 := hJ.b4 (dep_of hdep 4 (by kernel_rfl))
              have hb6t := dep_of hdep 6 (by kernel_rfl)
              obtain ⟨cs, v, q, hokc, e6, hrep, hrd, _⟩ := hJ.b6 hb6t
              obtain ⟨pa, pc, pa', pc', _, _, hcs, _⟩ := hrep.parts
              refine op_step rfl rfl (op_value (v := .agg (strV nm :: cs).toArray) (w' := w') ?_ (.inl ⟨by simpa using hb6, hJ.step hs0 hgl 7 (by decide) _ w' (But.refl g w') (fun e => absurd e (by decide)) (fun e => absurd e (by decide)) (fun e => absurd e (by decide)) (fun e => absurd e (by decide)) (fun e => absurd e (by decide)) (fun e => absurd e (by decide)) (fun e => absurd e (by decide)) (fun _ => rfl) (fun _ => ⟨hb6t, cs, e6, rfl⟩) (fun e => absurd e (by decide)) (fun e => absurd e (by decide))⟩))
              have x4 : a'.eval (.tmp 36) = .string ⟨nm.toArray⟩ := e4
              have x6 : a'.eval (.tmp 38) = .agg #[.int .i64 v.kind, .bool v.yes, .string ⟨v.text.toArray⟩, .slice pa v.list.length pc, .slice pa' v.mem.length pc'] := by
                refine e6.trans ?_
                rw [hcs]
                rfl
              rw [hcs]
              unfold strV
              simp only [execOp, List.map_toArray, List.map_cons, List.map_nil, x4, x6]
              go_simp
            · cases ho
              have e1 := hJ.b3 (dep_of hdep 3 (by kernel_rfl))
              obtain ⟨xa, xc, hVe, _⟩ : ∃ xa xc, V = .slice xa m.length xc ∧ True := by
                rcases H.out.own.2 with ⟨rfl, hn⟩ | ⟨x1, x2, x3, rfl, _⟩
                · exact ⟨_, _, by rw [hn], trivial⟩
                · exact ⟨_, _, rfl, trivial⟩
              refine op_step rfl rfl (op_value (v := .int .i64 (m.length : Nat)) (w' := w') ?_ (.inl ⟨by simpa using hb6, hJ.step hs0 hgl 8 (by decide) _ w' (But.refl g w') (fun e => absurd e (by decide)) (fun e => absurd e (by decide)) (fun e => absurd e (by decide)) (fun e => absurd e (by decide)) (fun e => absurd e (by decide)) (fun e => absurd e (by decide)) (fun e => absurd e (by decide)) (fun _ => rfl) (fun e => absurd e (by decide)) (fun _ => rfl) (fun e => absurd e (by decide))⟩))
              simp only [execOp, resolve, invoke, builtin]
              go_simp
            · cases ho
              refine op_step rfl rfl (op_value (v := .slice (some ⟨w'.heap.size, 0, none⟩) 1 1) (w' := (w'.alloc (.cells zero6.toArray 38))) ?_ (.inl ⟨by simpa using hb6, hJ.step hs0 hgl 9 (by decide) _ (w'.alloc (.cells zero6.toArray 38)) ⟨rfl, rfl, rfl, by simp, fun k hk _ => (World.grownBy_alloc w' _ none).block k hk (by simp)⟩ (fun e => absurd e (by decide)) (fun e => absurd e (by decide)) (fun e => absurd e (by decide)) (fun e => absurd e (by decide)) (fun e => absurd e (by decide)) (fun e => absurd e (by decide)) (fun e => absurd e (by decide)) (fun _ => (World.grownBy_alloc w' _ none).block g (Nat.lt_of_lt_of_le hgl hJ.but.size) (by simp)) (fun e => absurd e (by decide)) (fun e => absurd e (by decide)) (fun _ => ⟨_, rfl, hJ.but.size, heap_alloc_new w' _⟩)⟩))
              simp only [execOp, Act.eval]
              go_simp
              rfl
            · cases ho
              have e0 := hJ.b0 (dep_of hdep 0 (by kernel_rfl))
              have e1 := hJ.b3 (dep_of hdep 3 (by kernel_rfl))
              obtain ⟨cs, v, q, hokc, _, hrep, hrd, e7'⟩ := hJ.b6 (dep_of hdep 6 (by kernel_rfl))
              have e7 := e7' (dep_of hdep 7 (by kernel_rfl))
              have e8 := hJ.b8 (dep_of hdep 8 (by kernel_rfl))
              obtain ⟨kz, e9, hkz, hz⟩ := hJ.b9 (dep_of hdep 9 (by kernel_rfl))
              have hown := own_butg H.out.own hJ.but hgv
              have hBw : B ≤ w'.heap.size := Nat.le_trans hB hJ.but.size
              refine op_step rfl rfl (op_append (.tmp 35) (.tmp 41) _ rfl B 38 6 96 rfl (by kernel_rfl) (by decide) V m.length (memCells m cm) e1 hown ⟨kz, 0, none⟩ 1 1 zero6 e9 rfl ?_ (by decide) (by simp only [maxLen]; omega) (by omega) hBw ?_)
              · intro j u hu
                rw [Addr.add_lit]
                rw [Lib.cell_of_heap hz]
                simpa using hu
              · intro v' w'' hown' hgr hat
                obtain ⟨k, cap, hve, hBk⟩ : ∃ k cap, v' = .slice (some ⟨k, 0, none⟩) (m.length + 1) cap ∧ B ≤ k := by
                  rcases hown'.2 with ⟨_, hn⟩ | ⟨k, cap, cur, rfl, hk, _⟩
                  · omega
                  · exact ⟨k, cap, rfl, hk⟩
                have hk : V.ownBlock = some k ∨ k = w'.heap.size := by
                  rw [hve] at hat
                  simp only [Value.ownBlock, Option.some.injEq] at hat
                  rcases hat with h | h
                  · exact .inl h.symm
                  · exact .inr h
                have hlow : ∀ j, V.ownBlock = some j → B ≤ j ∧ j < w.heap.size := H.out.own.lt
                subst hve
                have hwb : ∀ j, j < w'.heap.size → V.ownBlock ≠ some j → w''.heap[j]? = w'.heap[j]? := fun j hj hne => hgr.block j hj (fun e => hne e.symm)
                have hnoB : ∀ j, j < B → V.ownBlock ≠ some j := fun j hj e => by have := (hlow j e).1; omega
                refine .inr ⟨cs, v, q, k, cap, hokc, ?_⟩
                refine ⟨hJ.fr.put (by decide) _, ?_, ?_, ?_, ?_, ?_, ?_, ?_, ?_, ?_, ?_, ?_, ?_, ?_, ?_⟩
                · exact (ButV.of_but hJ.but hB).trans ⟨hgr.os, hgr.tape, hgr.output, hgr.size, fun j hj _ _ => hwb j (by omega) (hnoB j hj)⟩
                · intro j hj
                  by_cases ej : j = 10
                  · simp [ej]
                  · simp only [ej, if_false]
                    have : j = 0 ∨ j = 1 ∨ j = 2 ∨ j = 3 ∨ j = 4 ∨ j = 5 ∨ j = 6 ∨ j = 7 ∨ j = 8 ∨ j = 9 := by omega
                    rcases this with rfl | rfl | rfl | rfl | rfl | rfl | rfl | rfl | rfl | rfl <;> exact dep_of hdep _ (by kernel_rfl)
                · exact (put_other _ _ _ _ (by decide)).trans e0
                · exact (put_other _ _ _ _ (by decide)).trans e7
                · exact (put_other _ _ _ _ (by decide)).trans e8
                · exact put_at _ _ _ (by rw [hJ.fr.size, hs0]; decide)
                · have hb8 : b 12 = false := hJ.late 12 (by decide)
                  simpa [hb8] using hown'
                · refine (RepsM.keep H.out.reps.lt fun j hj hjl => ?_).mono fun j hj => ⟨hj.1.1, ?_⟩
                  · rw [hwb j (Nat.lt_of_lt_of_le hj.2 hJ.but.size) hj.1.2]
                    exact hJ.but.block j hj.2 (by have := hj.1.1; omega)
                  · rintro rfl
                    rcases hk with hk | hk
                    · exact hj.1.2 hk
                    · have := hj.2; have := hJ.but.size; omega
                · refine (hrep.lt.keep fun j hj hjl => ?_).mono fun j hj => ⟨by have := hj.1; omega, ?_⟩
                  · exact hwb j hj.2 (fun e => by have := (hlow j e).2; have := hj.1; omega)
                  · rintro rfl
                    rcases hk with hk | hk
                    · have := (hlow _ hk).2; have := hj.1; omega
                    · have := hj.2; omega
                · exact ⟨(hwb g (by omega) (hnoB g hgv)).trans hrd.heap, hrd.le⟩
                · have hb10 : b 15 = false := hJ.late 15 (by decide)
                  rw [if_neg (by simp [hb10])]
                  exact (hwb gv (by omega) (hnoB gv hvv)).trans ((hJ.but.block gv (by omega) (Ne.symm h1)).trans H.out.blk)
                · intro e
                  exact absurd e (by simp [hJ.late 11 (by decide)])
                · intro e
                  exact absurd e (by simp [hJ.late 13 (by decide)])
                · intro e
                  exact absurd e (by simp [hJ.late 14 (by decide)])
            all_goals first | (cases ho; done) | (cases ho; have := dep_of hdep 10 (by kernel_rfl); rw [hb6] at this; cases this)
          · have t1 : a'.tmps.getD 1 undef = .pointer (some ⟨gv, 0, none⟩) := (hK.fr.same 1 (by decide)).trans z1
            have hBk : B ≤ k := (hK.own.lt k rfl).1
            have hkl : k < w'.heap.size := (hK.own.lt k rfl).2
            have hi4 : i = 11 ∨ i = 12 ∨ i = 13 ∨ i = 14 ∨ i = 15 := by
              have hlt : i < 16 := (List.getElem?_eq_some_iff.1 ho).1
              rcases Nat.lt_or_ge i 11 with h | h
              · exact absurd (hK.all i h) (by simp [hbi])
              · omega
            rcases hi4 with rfl | rfl | rfl | rfl | rfl
            · cases ho
              refine op_step rfl rfl (op_value (v := .pointer (some ⟨k, m.length * 6, none⟩)) (w' := w') ?_ (.inr ⟨cs, v, q, k, cap, hokv, ?_⟩))
              · have hix : (m.length : Int) < ((m.length + 1 : Nat) : Int) := by omega
                simp only [execOp, Act.eval, hK.e42, hK.e40]
                go_simp
                intro hx
                omega
              · refine ⟨hK.fr.put (by decide) _, hK.but, (fun j hj => (if_neg (by omega)).trans (hK.all j hj)), (put_other _ _ _ _ (by decide)).trans hK.e32, (put_other _ _ _ _ (by decide)).trans hK.e39, (put_other _ _ _ _ (by decide)).trans hK.e40, (put_other _ _ _ _ (by decide)).trans hK.e42, by simpa using hK.own, hK.reps, hK.rep, hK.rdr, by simpa using hK.blk, ?_, ?_, ?_⟩
                · intro _
                  exact put_at _ _ _ (by rw [hK.fr.size, hs0]; decide)
                · intro e
                  exact (put_other _ _ _ _ (by decide)).trans (hK.b13 (by simpa using e))
                · intro e
                  exact (put_other _ _ _ _ (by decide)).trans (hK.b14 (by simpa using e))
            · cases ho
              have e9 := hK.b11 (dep_of hdep 11 (by kernel_rfl))
              have hb8 : b 12 = false := hbi
              have hown := hK.own
              rw [if_neg (by simp [hb8])] at hown
              obtain ⟨cur, hcur, hsz, hown'⟩ := own_put hown (cs := strV nm :: cs) (by rw [List.length_cons, hK.rep.len]; rfl)
              rw [hfl] at hsz hown'
              refine op_step rfl rfl (op_store _ (.tmp 43) (.tmp 39) rfl rfl k (m.length * 6) (strV nm :: cs) e9 hK.e39 _ cur hcur (by rw [List.length_cons, hK.rep.len]; kernel_rfl) hsz (fun u hu => by
                rcases List.mem_cons.1 hu with rfl | hu
                · rfl
                · exact rep_cells hK.rep u hu) (.inr ⟨cs, v, q, k, cap, hokv, ?_⟩))
              refine ⟨hK.fr, hK.but.trans ⟨rfl, rfl, rfl, by simp [World.setRow], fun j hj _ _ => setRow_other w' k j _ (by omega)⟩, (fun j hj => (if_neg (by omega)).trans (hK.all j hj)), hK.e32, hK.e39, hK.e40, hK.e42, ?_, ?_, ?_, ?_, ?_, ?_, ?_, ?_⟩
              · simpa using hown'
              · exact hK.reps.keep fun j hj _ => setRow_other w' k j _ hj.2
              · exact hK.rep.keep fun j hj _ => setRow_other w' k j _ hj.2
              · exact ⟨(setRow_other w' k g _ (by omega)).trans hK.rdr.heap, hK.rdr.le⟩
              · simpa using (setRow_other w' k gv _ (by omega)).trans hK.blk
              · intro e
                exact e9
              · intro e
                exact hK.b13 (by simpa using e)
              · intro e
                exact hK.b14 (by simpa using e)
            · cases ho
              refine op_step rfl rfl (op_value (v := .pointer (some ⟨gv, 0, none⟩)) (w' := w') ?_ (.inr ⟨cs, v, q, k, cap, hokv, ?_⟩))
              · simp only [execOp, Act.eval, hK.e32]
                go_simp
              · refine ⟨hK.fr.put (by decide) _, hK.but, (fun j hj => (if_neg (by omega)).trans (hK.all j hj)), (put_other _ _ _ _ (by decide)).trans hK.e32, (put_other _ _ _ _ (by decide)).trans hK.e39, (put_other _ _ _ _ (by decide)).trans hK.e40, (put_other _ _ _ _ (by decide)).trans hK.e42, by simpa using hK.own, hK.reps, hK.rep, hK.rdr, by simpa using hK.blk, ?_, ?_, ?_⟩
                · intro e
                  exact (put_other _ _ _ _ (by decide)).trans (hK.b11 (by simpa using e))
                · intro _
                  exact put_at _ _ _ (by rw [hK.fr.size, hs0]; decide)
                · intro e
                  exact (put_other _ _ _ _ (by decide)).trans (hK.b14 (by simpa using e))
            · cases ho
              have e13 := hK.b13 (dep_of hdep 13 (by kernel_rfl))
              refine op_step rfl rfl (op_value (v := .pointer (some ⟨gv, 4, none⟩)) (w' := w') ?_ (.inr ⟨cs, v, q, k, cap, hokv, ?_⟩))
              · simp only [execOp, Act.eval, e13]
                go_simp
              · refine ⟨hK.fr.put (by decide) _, hK.but, (fun j hj => (if_neg (by omega)).trans (hK.all j hj)), (put_other _ _ _ _ (by decide)).trans hK.e32, (put_other _ _ _ _ (by decide)).trans hK.e39, (put_other _ _ _ _ (by decide)).trans hK.e40, (put_other _ _ _ _ (by decide)).trans hK.e42, by simpa using hK.own, hK.reps, hK.rep, hK.rdr, by simpa using hK.blk, ?_, ?_, ?_⟩
                · intro e
                  exact (put_other _ _ _ _ (by decide)).trans (hK.b11 (by simpa using e))
                · intro e
                  exact (put_other _ _ _ _ (by decide)).trans e13
                · intro _
                  exact put_at _ _ _ (by rw [hK.fr.size, hs0]; decide)
            · cases ho
              have e10 := hK.b14 (dep_of hdep 14 (by kernel_rfl))
              have hb10 : b 15 = false := hbi
              have hblk := hK.blk
              have hset : ∀ j, j ≠ gv → (w'.setCell ⟨gv, 4, none⟩ (.slice (some ⟨k, 0, none⟩) (m.length + 1) cap)).heap[j]? = w'.heap[j]? := fun j hj => Below.heap_setCell _ _ _ _ hj
              have c3 : w'.cell? ⟨gv, 4, none⟩ = some V := by rw [Lib.cell_of_heap hblk]; simp [hb10]
              have f3 : w'.frozen? ⟨gv, 4, none⟩ = false := Lib.frozen_of_heap hblk 4
              refine op_step rfl rfl ?_
              refine op_skip (w' := w'.setCell ⟨gv, 4, none⟩ (.slice (some ⟨k, 0, none⟩) (m.length + 1) cap)) ?_ rfl (Or.inr ⟨cs, v, q, k, cap, hokv, ?_⟩)
              · simp only [execOp, Act.eval, e10, hK.e42]
                go_simp
              refine ⟨hK.fr, hK.but.trans ⟨rfl, rfl, rfl, by simp [World.setCell], fun j hj _ hne => hset j hne⟩, (fun j hj => (if_neg (by omega)).trans (hK.all j hj)), hK.e32, hK.e39, hK.e40, hK.e42, ?_, ?_, ?_, ?_, ?_, ?_, ?_, ?_⟩
              · refine World.ownsRow.kept (w := w') (row := some gv) (by simpa using hK.own) ⟨rfl, rfl, rfl, by simp [World.setCell], fun j hj hne => hset j (fun e => hne (by rw [e]))⟩ (.inr ?_)
                simp only [Value.ownBlock, ne_eq, Option.some.injEq]
                omega
              · exact hK.reps.keep fun j hj _ => hset j (by omega)
              · exact hK.rep.keep fun j hj _ => hset j (by omega)
              · exact ⟨(hset g h1).trans hK.rdr.heap, hK.rdr.le⟩
              · rw [setCell_block hblk]
                simp
              · intro e
                exact hK.b11 (by simpa using e)
              · intro e
                exact hK.b13 (by simpa using e)
              · intro e
                exact e10
        · rintro b a' w' (⟨hb6, hJ⟩ | ⟨cs, v, q, k, cap, hokv, hK⟩) hdone
          · rw [hdone 10 (by decide)] at hb6
            cases hb6
          · have hown := hK.own
            have hblk := hK.blk
            rw [if_pos (hdone 12 (by decide))] at hown
            rw [if_pos (hdone 15 (by decide))] at hblk
            have hsh := HS.out v _ _ hokv
            have hqle := hK.rdr.le
            simp only [List.length_drop] at hsh
            refine ⟨hK.fr.defers.trans hd0, .tuple #[], by simp [results, go_sem], HOK.out v q _ (cm ++ [cs]) w' hokv hK.but ⟨hK.rdr, ?_, hblk, ?_, ?_, Nat.le_trans hB hK.but.size, ?_⟩⟩
            · rw [← H.out.box]
              unfold World.cell?
              rw [hK.but.block gb (by omega) (Ne.symm h2) hbg]
            · rw [memCells_snoc m cm nm v cs H.out.reps.1]
              simpa using hown
            · refine (RepsM.snoc hK.reps hK.rep).mono fun j hj => ⟨hj.1, ?_⟩
              simp only [Value.ownBlock, ne_eq, Option.some.injEq]
              exact fun e => hj.2 e.symm
            · simp only [List.length_append, List.length_cons, List.length_nil]
              omega
      · have HE5 : Hid (memR val m (S.drop pI) = .bad n) := Lib.hid (by rw [HE.out, h5]; rfl)
        have HB5 := Lib.hid (HB4.out.trans hb5)
        clear h5 hb5 HMU
        go_wp2_with fail
        exact ⟨rfl, ButV.of_but HB5.out hB0, .inr ⟨n, a, HE5.out, rfl⟩⟩
  · have HE := Lib.hid (HM0.out n ht.out)
    have HB1 := Lib.hid hb1.out
    clear ht hb1 HT
    go_wp2_with fail
    exact ⟨rfl, ButV.of_but HB1.out hB0, .inr ⟨n, a, HE.out, rfl⟩⟩
end Go.Proofs.Ytfcokdkbjajohaa
/- json's reader: enter; an object's member. -/
set_option linter.unusedVariables false
namespace Go.Proofs.Ytfcokdkbjajohaa
open Go.RowKit

set_option maxRecDepth 100000 in
set_option maxHeartbeats 8000000 in
theorem jenter_deep (g : Nat) (S : List UInt8) (p d : Nat) (C : Int) (w : World) (h : Rdr w g S p d d) :
    Calls Try.prog 80 #[.pointer (some ⟨g, 0, none⟩), .int .u8 C] w fun e w' => But g w w' ∧ ∃ a, e = .panicked (thrown 32 a) := by
  have h1 := h.c1
  have h2 := h.c2
  have h3 := h.c3
  have HB : Hid (∀ n, But g w (w.drewN n)) := Lib.hid fun n => (But.refl g w).drewN n
  clear h
  go_enter Try.func80, Try.ntmps80
  go_wp2_with fail
  go_quiet (fail)
  go_wp2_with fail
  refine (jfail_any g 32 p _).mono ?_
  rintro e w' ⟨rfl, rfl⟩
  go_wp2_with fail
  exact ⟨rfl, HB.out _, p, rfl⟩
set_option maxRecDepth 100000 in
set_option maxHeartbeats 8000000 in
theorem jenter_ok (g : Nat) (S : List UInt8) (p d o : Nat) (E : UInt8) (C : Int) (w : World) (h : Rdr w g S p d o) (hl : S.length ≤ 1000000) (ho : o < d) (hd : d ≤ 1000) (hp : peekL (S.drop p) = E) (h0 : E ≠ 0) (hC : C = (E.toNat : Int)) :
    Calls Try.prog 80 #[.pointer (some ⟨g, 0, none⟩), .int .u8 C] w fun e w' => e = .returned (.tuple #[]) ∧ ∃ q, S.drop q = blankL (S.drop (p + 1)) ∧ p + 1 ≤ q ∧ Rdr w' g S q d (o + 1) ∧ But g w w' := by
  have h1 := h.c1
  have h2 := h.c2
  have h3 := h.c3
  have hne : (((o : Nat) : Int) == ((d : Nat) : Int)) = false := by
    simp only [beq_eq_false_iff_ne, ne_eq]
    omega
  have HB : Hid (∀ n, But g w (w.drewN n)) := Lib.hid fun n => (But.refl g w).drewN n
  have HR : Hid (∀ n, Rdr (w.drewN n) g S p d o) := Lib.hid fun n => ⟨h.heap, h.le⟩
  have H0 := Lib.hid h0
  have HC := Lib.hid hC
  have HP := Lib.hid hp
  clear h h0 hC hp
  go_enter Try.func80, Try.ntmps80
  go_wp2_with fail
  go_quiet (fail)
  go_wp2_with fail
  refine (jmust_hit_any g S p d o E C _ (HR.out _) hl HP.out H0.out HC.out).mono ?_
  rintro e w1 ⟨rfl, hr1, hb1⟩
  have k3 := hr1.c3
  have f3 := hr1.fz 3
  have HR1 := Lib.hid (hr1.op (o + 1))
  have HB1 := Lib.hid (((HB.out _).trans hb1).trans (But.setCell w1 g 3 (.int .i64 ((o + 1 : Nat) : Int))))
  have hcast : (((o + 1 : Nat) : Int)) = (o : Int) + 1 := by omega
  rw [hcast] at HR1 HB1
  clear hr1 hb1 h1 h2 h3
  go_wp2_with fail
  refine (jblank_any g S (p + 1) d (o + 1) _ HR1.out hl).mono ?_
  rintro e w2 ⟨rfl, q, hq, hle, hr2, hb2⟩
  have HR2 := Lib.hid hr2
  have HB2 := Lib.hid (HB1.out.trans hb2)
  have HQ := Lib.hid hq
  clear hr2 hb2 hq
  go_wp2_with fail
  go_end0
  exact ⟨rfl, q, HQ.out, hle, HR2.out, HB2.out⟩
set_option maxRecDepth 100000 in
set_option maxHeartbeats 8000000 in
theorem jobj1_any (g gv gb : Nat) (w : World) (hb : w.cell? ⟨gb, 0, none⟩ = some (.pointer (some ⟨g, 0, none⟩))) (R : Ending → World → Prop) (h : Calls Try.prog 84 #[.pointer (some ⟨g, 0, none⟩), .pointer (some ⟨gv, 0, none⟩)] w fun e w' => (e = .returned (.tuple #[]) ∧ R (.returned (.tuple #[])) w') ∨ ∃ ps, e = .panicked ps ∧ R (.panicked ps) w') :
    Calls Try.prog 83 #[.pointer (some ⟨gb, 0, none⟩), .pointer (some ⟨gv, 0, none⟩)] w R := by
  have H := Lib.hid h
  clear h
  go_enter Try.func83, Try.ntmps83
  go_wp2_with fail
  refine H.out.mono ?_
  rintro e w' (⟨rfl, hr⟩ | ⟨ps, rfl, hr⟩)
  · have HR := Lib.hid hr
    clear hr
    go_wp2_with fail
    go_end0
    exact HR.out
  · have HR := Lib.hid hr
    clear hr
    go_wp2_with fail
    exact ⟨rfl, HR.out⟩
theorem strV_nil : strV [] = .string ⟨#[]⟩ := rfl
def ArrSt (g gv gb B : Nat) (S : List UInt8) (d o : Nat) (w : World) (l : List JV) (p : Nat) : Prop := ∃ V cl, ArrIs g gv gb B S d o w l p V cl
def MemSt (g gv gb B : Nat) (S : List UInt8) (d o : Nat) (w : World) (l : List (List UInt8 × JV)) (p : Nat) : Prop := ∃ V cl, MemIs g gv gb B S d o w l p V cl
theorem arr_one (val : List UInt8 → PR JV) (hsh : ∀ v r r', val r = .ok v r' → r'.length < r.length) (g gv gb B : Nat) (S : List UInt8) (d o : Nat) (hV : ValC val g S d o) (hl : S.length ≤ 1000000) (hgv : g < B) (hvv : gv < B) (hbv : gb < B) (h1 : g ≠ gv) (h2 : g ≠ gb) (hbg : gb ≠ gv) :
    OneC 82 #[.pointer (some ⟨gv, 0, none⟩), .pointer (some ⟨gb, 0, none⟩)] (arrR val) g S d o (ArrSt g gv gb B S d o) (ButV B g gv) := by
  refine ⟨?_, ?_, ?_, ?_, fun a b c h k => h.trans k, fun a => ButV.refl B g gv a⟩
  · rintro w x q ⟨V, cl, h⟩
    have hq := h.rdr.le
    refine (jelem_any val hsh g gv gb B S d o hV hl hgv hvv hbv h1 h2 hbg w x q V cl h).mono ?_
    rintro e w' ⟨hb, ⟨v, q', V', cl', h3, h4, h5⟩ | ⟨n, a, h3, h4⟩⟩
    · refine ⟨Lib.hid hb, .inl ⟨_, q', Lib.hid ?_, h4, Lib.hid ⟨V', cl', h5⟩, ?_⟩⟩
      · unfold arrR; rw [h3]; rfl
      · have e1 := hsh _ _ _ h3
        have e2 := h5.rdr.le
        simp only [List.length_drop] at e1
        omega
    · exact ⟨Lib.hid hb, .inr ⟨n, a, Lib.hid (by unfold arrR; rw [h3]; rfl), h4⟩⟩
  · rintro w x q ⟨V, cl, h⟩
    exact h.rdr
  · rintro w w' x q q' ⟨V, cl, h⟩ hb hr hq
    exact ⟨V, cl, h.mv hb hr hq hgv hvv h1 h2 hbv⟩
  · rintro w w' x q ⟨V, cl, h⟩ hb
    exact ButV.of_but hb h.size
theorem mem_one (val : List UInt8 → PR JV) (hsh : ∀ v r r', val r = .ok v r' → r'.length < r.length) (g gv gb B : Nat) (S : List UInt8) (d o : Nat) (hV : ValC val g S d o) (hl : S.length ≤ 1000000) (hgv : g < B) (hvv : gv < B) (hbv : gb < B) (h1 : g ≠ gv) (h2 : g ≠ gb) (hbg : gb ≠ gv) :
    OneC 83 #[.pointer (some ⟨gb, 0, none⟩), .pointer (some ⟨gv, 0, none⟩)] (memR val) g S d o (MemSt g gv gb B S d o) (ButV B g gv) := by
  refine ⟨?_, ?_, ?_, ?_, fun a b c h k => h.trans k, fun a => ButV.refl B g gv a⟩
  · rintro w x q ⟨V, cl, h⟩
    have hq := h.rdr.le
    refine jobj1_any g gv gb w h.box _ ((jmem_any val hsh g gv gb B S d o hV hl hgv hvv hbv h1 h2 hbg w x q V cl h).mono ?_)
    rintro e w' ⟨hb, ⟨v, q', V', cl', h3, h4, h5⟩ | ⟨n, a, h3, h4⟩⟩
    · refine .inl ⟨h4, Lib.hid hb, .inl ⟨_, q', Lib.hid h3, rfl, Lib.hid ⟨V', cl', h5⟩, ?_⟩⟩
      have e1 := mem_short hsh _ _ _ _ h3
      have e2 := h5.rdr.le
      simp only [List.length_drop] at e1
      omega
    · exact .inr ⟨_, h4, Lib.hid hb, .inr ⟨n, a, Lib.hid h3, rfl⟩⟩
  · rintro w x q ⟨V, cl, h⟩
    exact h.rdr
  · rintro w w' x q q' ⟨V, cl, h⟩ hb hr hq
    exact ⟨V, cl, h.mv hb hr hq hgv hvv h1 h2 hbv⟩
  · rintro w w' x q ⟨V, cl, h⟩ hb
    exact ButV.of_but hb h.size
theorem alloc3 (w : World) (a b c : Obj) : (((w.alloc a).alloc b).alloc c).heap[w.heap.size]? = some a ∧ (((w.alloc a).alloc b).alloc c).heap[w.heap.size + 1]? = some b ∧ (((w.alloc a).alloc b).alloc c).heap[w.heap.size + 1 + 1]? = some c ∧ (((w.alloc a).alloc b).alloc c).heap.size = w.heap.size + 3 ∧ Below w.heap.size w (((w.alloc a).alloc b).alloc c) := by
  have e1 : (w.alloc a).heap.size = w.heap.size + 1 := by simp
  have e2 : ((w.alloc a).alloc b).heap.size = w.heap.size + 1 + 1 := by simp
  have k1 := (World.grownBy_alloc (w.alloc a) b none).block
  have k2 := (World.grownBy_alloc ((w.alloc a).alloc b) c none).block
  refine ⟨?_, ?_, ?_, by simp, (((Below.refl _ _).alloc (Nat.le_refl _) _).alloc (by simp) _).alloc (by simp; omega) _⟩
  · rw [k2 _ (by omega) (by simp), k1 _ (by omega) (by simp)]
    exact heap_alloc_new w a
  · rw [k2 _ (by omega) (by simp), ← e1]
    exact heap_alloc_new (w.alloc a) b
  · rw [← e2]
    exact heap_alloc_new ((w.alloc a).alloc b) c
end Go.Proofs.Ytfcokdkbjajohaa
/- json's reader: arrays, objects. -/
set_option linter.unusedVariables false
namespace Go.Proofs.Ytfcokdkbjajohaa
open Go.RowKit

theorem but_v {g gv B : Nat} {w w4 w5 : World} (h : But g w w4) (hv : ButV B g gv w4 w5) (hgv : w.heap.size ≤ gv) (hB : w.heap.size ≤ B) : But g w w5 :=
  ⟨hv.os.trans h.os, hv.tape.trans h.tape, hv.output.trans h.output, Nat.le_trans h.size hv.size, fun k hk hg => (hv.block k (by omega) hg (by omega)).trans (h.block k hk hg)⟩
theorem five_other (w : World) (gr : Nat) (a b c d e : Value) : ∀ k, k ≠ gr → (((((w.setCell ⟨gr, 0, none⟩ a).setCell ⟨gr, 1, none⟩ b).setCell ⟨gr, 2, none⟩ c).setCell ⟨gr, 3, none⟩ d).setCell ⟨gr, 4, none⟩ e).heap[k]? = w.heap[k]? := by
  intro k hk
  rw [Below.heap_setCell _ _ _ _ hk, Below.heap_setCell _ _ _ _ hk, Below.heap_setCell _ _ _ _ hk, Below.heap_setCell _ _ _ _ hk, Below.heap_setCell _ _ _ _ hk]
set_option maxRecDepth 100000 in
set_option maxHeartbeats 8000000 in
theorem jarray_any (val : List UInt8 → PR JV) (hsh : ∀ v r r', val r = .ok v r' → r'.length < r.length) (g : Nat) (S : List UInt8) (p d o : Nat) (hV : ValC val g S d (o + 1)) (hl : S.length ≤ 1000000) (ho : o < d) (hd : d ≤ 1000) (w : World) (h : Rdr w g S p d o) (hp : peekL (S.drop p) = 91) :
    Calls Try.prog 60 #[.pointer (some ⟨g, 0, none⟩)] w fun e w' => ValRes (fun r => (rowR (arrR val) 93 [] (blankL r.tail)).bind fun l r => .ok (jarr l) r) g S p d o w e w' := by
  have hgl := h.lt
  have HR := Lib.hid h
  have HP := Lib.hid hp
  have HV := Lib.hid hV
  have HS := Lib.hid hsh
  have hmf : ∀ (fn : Fn) (first cap : Array Value) (w : World), (Instr.makeFunc fn first cap).run Try.prog w = .ok (.func fn first cap) w := fun _ _ _ _ => rfl
  clear h hp hV hsh
  go_enter Try.func60, Try.ntmps60
  go_upto_region 2 with (fail)
  obtain ⟨k0, k1, k2, hs3, hb3⟩ := alloc3 w (.cells #[.pointer (some ⟨g, 0, none⟩)] 59) (.cells #[.int .i64 0, .bool false, .string ⟨#[]⟩, .slice none 0 0, .slice none 0 0] 28) (.cells #[.int .i64 5, .bool false, .string ⟨#[]⟩, .slice none 0 0, .slice none 0 0] 28)
  generalize ((w.alloc _).alloc _).alloc _ = w3 at *
  have HB3 : Hid (But g w w3) := Lib.hid ⟨hb3.os, hb3.tape, hb3.output, hb3.size, fun k hk _ => hb3.block k hk⟩
  have HR3 : Hid (Rdr w3 g S p d o) := Lib.hid ⟨(hb3.block g hgl).trans HR.out.heap, HR.out.le⟩
  have K0 := Lib.hid k0
  have K1 := Lib.hid k1
  have K2 := Lib.hid k2
  have b0 : w3.cell? ⟨w.heap.size, 0, none⟩ = some (.pointer (some ⟨g, 0, none⟩)) := by rw [Lib.cell_of_heap k0]; rfl
  clear k0 k1 k2 hb3 HR
  have hplt : p < S.length := peek_lt HR3.out.le (by rw [HP.out]; decide)
  have HT : Hid ((S.drop p).tail = S.drop (p + 1)) := Lib.hid List.tail_drop
  go_wp2_with fail
  refine (jenter_ok g S p d o 91 91 w3 HR3.out hl ho hd HP.out (by decide) rfl).mono ?_
  rintro e w4 ⟨rfl, q, hq, hle, hr4, hb4⟩
  have HQ := Lib.hid hq
  have HB4 := Lib.hid hb4
  have hs4 := hb4.size
  have hst : ArrSt g (w.heap.size + 1 + 1) w.heap.size (w.heap.size + 3) S d (o + 1) w4 [] q := by
    refine ⟨.slice none 0 0, [], hr4, ?_, (hb4.block _ (by omega) (by omega)).trans K2.out, ⟨rfl, .inl ⟨rfl, rfl⟩⟩, Reps.nil _ _, by omega, Nat.zero_le _⟩
    rw [Lib.cell_of_heap ((hb4.block _ (by omega) (by omega)).trans K0.out)]
    rfl
  have HST := Lib.hid hst
  have K1' : Hid (w4.heap[w.heap.size + 1]? = some (.cells #[.int .i64 0, .bool false, .string ⟨#[]⟩, .slice none 0 0, .slice none 0 0] 28 (0, 0))) := Lib.hid ((hb4.block _ (by omega) (by omega)).trans K1.out)
  have b4 : w4.cell? ⟨w.heap.size, 0, none⟩ = some (.pointer (some ⟨g, 0, none⟩)) := by rw [Lib.cell_of_heap ((hb4.block _ (by omega) (by omega)).trans K0.out)]; rfl
  have HarrR := Lib.hid (arr_one val HS.out g (w.heap.size + 1 + 1) w.heap.size (w.heap.size + 3) S d (o + 1) HV.out hl (by omega) (by omega) (by omega) (by omega) (by omega) (by omega))
  clear hst hq hb4 hr4 b0 HR3 K0 K2
  go_wp2_with fail
  refine (jrow_arr _ _ (arrR val) g S d o _ _ 93 93 (by decide) rfl hl (by omega) HarrR.out w4 [] q HST.out).mono ?_
  rintro e w6 (⟨l, q', w5, hok, rfl, hst5, hk5, rfl⟩ | ⟨n, a, hbad, rfl, hk5⟩)
  · obtain ⟨V, cl, h5⟩ := hst5.out
    obtain ⟨xa, xc, rfl, hrdo, hxc⟩ := own_shape h5.own
    have K15 := (hk5.out.block (w.heap.size + 1) (by omega) (by omega) (by omega)).trans K1'.out
    have hset : ∀ j, j ≠ g → (w5.setCell ⟨g, 3, none⟩ (.int .i64 ((o : Nat) : Int))).heap[j]? = w5.heap[j]? := fun j hj => Below.heap_setCell _ _ _ _ hj
    have HGV : Hid ((w5.setCell ⟨g, 3, none⟩ (.int .i64 ((o : Nat) : Int))).heap[w.heap.size + 1 + 1]? = some (.cells #[.int .i64 5, .bool false, .string ⟨#[]⟩, .slice xa l.length xc, .slice none 0 0] 28 (0, 0))) := Lib.hid ((hset _ (by omega)).trans h5.blk)
    have HGR : Hid ((w5.setCell ⟨g, 3, none⟩ (.int .i64 ((o : Nat) : Int))).heap[w.heap.size + 1]? = some (.cells #[.int .i64 0, .bool false, .string ⟨#[]⟩, .slice none 0 0, .slice none 0 0] 28 (0, 0))) := Lib.hid ((hset _ (by omega)).trans K15)
    have HR6 := Lib.hid (h5.rdr.op o)
    have HB6 : Hid (But g w (w5.setCell ⟨g, 3, none⟩ (.int .i64 ((o : Nat) : Int)))) := Lib.hid ((but_v (HB3.out.trans HB4.out) hk5.out (by omega) (by omega)).trans (But.setCell w5 g 3 _))
    have HREP : Hid (Rep (w.heap.size + 3 ≤ ·) (w5.setCell ⟨g, 3, none⟩ (.int .i64 ((o : Nat) : Int))) [.int .i64 5, .bool false, .string ⟨#[]⟩, .slice xa l.length xc, .slice none 0 0] (jarr l)) := Lib.hid ((show Rep (w.heap.size + 3 ≤ ·) w5 [.int .i64 5, .bool false, .string ⟨#[]⟩, .slice xa l.length xc, .slice none 0 0] (jarr l) from rep_of (k := 5) (y := false) (t := []) (m := []) (cm := []) hrdo (h5.reps.mono fun _ h => h.1) (.inl rfl) (RepsM.nil _ _) hxc (Nat.le_refl 0)).keep fun k hk _ => hset k (by omega))
    have HE : Hid ((rowR (arrR val) 93 [] (blankL (S.drop p).tail)).bind (fun l r => PR.ok (jarr l) r) = .ok (jarr l) (S.drop q')) := Lib.hid (by rw [HT.out, ← HQ.out, hok.out]; rfl)
    clear hset K15 h5 hrdo hok hst5 hk5 HST HarrR HB3 HB4 K1' b4
    generalize w5.setCell ⟨g, 3, none⟩ (.int .i64 ((o : Nat) : Int)) = w6 at *
    have v0 : w6.cell? ⟨w.heap.size + 1 + 1, 0, none⟩ = some (.int .i64 5) := by rw [Lib.cell_of_heap HGV.out]; rfl
    have v1 : w6.cell? ⟨w.heap.size + 1 + 1, 1, none⟩ = some (.bool false) := by rw [Lib.cell_of_heap HGV.out]; rfl
    have v2 : w6.cell? ⟨w.heap.size + 1 + 1, 2, none⟩ = some (.string ⟨#[]⟩) := by rw [Lib.cell_of_heap HGV.out]; rfl
    have v3 : w6.cell? ⟨w.heap.size + 1 + 1, 3, none⟩ = some (.slice xa l.length xc) := by rw [Lib.cell_of_heap HGV.out]; rfl
    have v4 : w6.cell? ⟨w.heap.size + 1 + 1, 4, none⟩ = some (.slice none 0 0) := by rw [Lib.cell_of_heap HGV.out]; rfl
    have d0 : w6.cell? ⟨w.heap.size + 1, 0, none⟩ = some (.int .i64 0) := by rw [Lib.cell_of_heap HGR.out]; rfl
    have f0 := Lib.frozen_of_heap HGR.out 0
    have d1 : w6.cell? ⟨w.heap.size + 1, 1, none⟩ = some (.bool false) := by rw [Lib.cell_of_heap HGR.out]; rfl
    have f1 := Lib.frozen_of_heap HGR.out 1
    have d2 : w6.cell? ⟨w.heap.size + 1, 2, none⟩ = some (.string ⟨#[]⟩) := by rw [Lib.cell_of_heap HGR.out]; rfl
    have f2 := Lib.frozen_of_heap HGR.out 2
    have d3 : w6.cell? ⟨w.heap.size + 1, 3, none⟩ = some (.slice none 0 0) := by rw [Lib.cell_of_heap HGR.out]; rfl
    have f3 := Lib.frozen_of_heap HGR.out 3
    have d4 : w6.cell? ⟨w.heap.size + 1, 4, none⟩ = some (.slice none 0 0) := by rw [Lib.cell_of_heap HGR.out]; rfl
    have f4 := Lib.frozen_of_heap HGR.out 4
    go_wp2_with fail
    have hst := value_stored HGR.out (.int .i64 5) (.bool false) (.string ⟨#[]⟩) (.slice xa l.length xc) (.slice none 0 0)
    have HRE := Lib.hid (HR6.out.stored (gv := w.heap.size + 1) (by omega) (.int .i64 5) (.bool false) (.string ⟨#[]⟩) (.slice xa l.length xc) (.slice none 0 0))
    have HBE := Lib.hid (but_stored (gv := w.heap.size + 1) HB6.out (by omega) (.int .i64 5) (.bool false) (.string ⟨#[]⟩) (.slice xa l.length xc) (.slice none 0 0))
    have HZ := Lib.hid (five_other w6 (w.heap.size + 1) (.int .i64 5) (.bool false) (.string ⟨#[]⟩) (.slice xa l.length xc) (.slice none 0 0))
    have e0 := Lib.cell_of_heap hst 0
    have e1 := Lib.cell_of_heap hst 1
    have e2 := Lib.cell_of_heap hst 2
    have e3 := Lib.cell_of_heap hst 3
    have e4 := Lib.cell_of_heap hst 4
    simp only [List.getElem?_toArray] at e0 e1 e2 e3 e4
    refine bodyPost_ret (v := .agg #[.int .i64 5, .bool false, .string ⟨#[]⟩, .slice xa l.length xc, .slice none 0 0]) (by simp [results, Try.results60, go_sem, e0, e1, e2, e3, e4]) rfl ?_
    exact ⟨HBE, .inl ⟨_, _, q', HE, rfl, Lib.hid ((HREP.out.keep fun k hk _ => HZ.out k (by omega)).mono fun k hk => by omega), HRE⟩⟩
  · have HE : Hid ((rowR (arrR val) 93 [] (blankL (S.drop p).tail)).bind (fun l r => PR.ok (jarr l) r) = .bad n) := Lib.hid (by rw [HT.out, ← HQ.out, hbad.out]; rfl)
    have HB6 : Hid (But g w w6) := Lib.hid (but_v (HB3.out.trans HB4.out) hk5.out (by omega) (by omega))
    clear hbad hk5 HarrR HST
    go_wp2_with fail
    exact ⟨rfl, HB6, .inr ⟨n, a, HE, rfl⟩⟩
set_option maxRecDepth 100000 in
set_option maxHeartbeats 8000000 in
theorem jobject_any (val : List UInt8 → PR JV) (hsh : ∀ v r r', val r = .ok v r' → r'.length < r.length) (g : Nat) (S : List UInt8) (p d o : Nat) (hV : ValC val g S d (o + 1)) (hl : S.length ≤ 1000000) (ho : o < d) (hd : d ≤ 1000) (w : World) (h : Rdr w g S p d o) (hp : peekL (S.drop p) = 123) :
    Calls Try.prog 61 #[.pointer (some ⟨g, 0, none⟩)] w fun e w' => ValRes (fun r => (rowR (memR val) 125 [] (blankL r.tail)).bind fun l r => .ok (jobj l) r) g S p d o w e w' := by
  have hgl := h.lt
  have HR := Lib.hid h
  have HP := Lib.hid hp
  have HV := Lib.hid hV
  have HS := Lib.hid hsh
  have hmf : ∀ (fn : Fn) (first cap : Array Value) (w : World), (Instr.makeFunc fn first cap).run Try.prog w = .ok (.func fn first cap) w := fun _ _ _ _ => rfl
  clear h hp hV hsh
  go_enter Try.func61, Try.ntmps61
  go_upto_region 2 with (fail)
  obtain ⟨k0, k1, k2, hs3, hb3⟩ := alloc3 w (.cells #[.pointer (some ⟨g, 0, none⟩)] 59) (.cells #[.int .i64 0, .bool false, .string ⟨#[]⟩, .slice none 0 0, .slice none 0 0] 28) (.cells #[.int .i64 6, .bool false, .string ⟨#[]⟩, .slice none 0 0, .slice none 0 0] 28)
  generalize ((w.alloc _).alloc _).alloc _ = w3 at *
  have HB3 : Hid (But g w w3) := Lib.hid ⟨hb3.os, hb3.tape, hb3.output, hb3.size, fun k hk _ => hb3.block k hk⟩
  have HR3 : Hid (Rdr w3 g S p d o) := Lib.hid ⟨(hb3.block g hgl).trans HR.out.heap, HR.out.le⟩
  have K0 := Lib.hid k0
  have K1 := Lib.hid k1
  have K2 := Lib.hid k2
  have b0 : w3.cell? ⟨w.heap.size, 0, none⟩ = some (.pointer (some ⟨g, 0, none⟩)) := by rw [Lib.cell_of_heap k0]; rfl
  clear k0 k1 k2 hb3 HR
  have hplt : p < S.length := peek_lt HR3.out.le (by rw [HP.out]; decide)
  have HT : Hid ((S.drop p).tail = S.drop (p + 1)) := Lib.hid List.tail_drop
  go_wp2_with fail
  refine (jenter_ok g S p d o 123 123 w3 HR3.out hl ho hd HP.out (by decide) rfl).mono ?_
  rintro e w4 ⟨rfl, q, hq, hle, hr4, hb4⟩
  have HQ := Lib.hid hq
  have HB4 := Lib.hid hb4
  have hs4 := hb4.size
  have hst : MemSt g (w.heap.size + 1 + 1) w.heap.size (w.heap.size + 3) S d (o + 1) w4 [] q := by
    refine ⟨.slice none 0 0, [], hr4, ?_, (hb4.block _ (by omega) (by omega)).trans K2.out, ⟨rfl, .inl ⟨rfl, rfl⟩⟩, RepsM.nil _ _, by omega, Nat.zero_le _⟩
    rw [Lib.cell_of_heap ((hb4.block _ (by omega) (by omega)).trans K0.out)]
    rfl
  have HST := Lib.hid hst
  have K1' : Hid (w4.heap[w.heap.size + 1]? = some (.cells #[.int .i64 0, .bool false, .string ⟨#[]⟩, .slice none 0 0, .slice none 0 0] 28 (0, 0))) := Lib.hid ((hb4.block _ (by omega) (by omega)).trans K1.out)
  have b4 : w4.cell? ⟨w.heap.size, 0, none⟩ = some (.pointer (some ⟨g, 0, none⟩)) := by rw [Lib.cell_of_heap ((hb4.block _ (by omega) (by omega)).trans K0.out)]; rfl
  have HmemR := Lib.hid (mem_one val HS.out g (w.heap.size + 1 + 1) w.heap.size (w.heap.size + 3) S d (o + 1) HV.out hl (by omega) (by omega) (by omega) (by omega) (by omega) (by omega))
  clear hst hq hb4 hr4 b0 HR3 K0 K2
  go_wp2_with fail
  refine (jrow_obj _ _ (memR val) g S d o _ _ 125 125 (by decide) rfl hl (by omega) HmemR.out w4 [] q HST.out).mono ?_
  rintro e w6 (⟨l, q', w5, hok, rfl, hst5, hk5, rfl⟩ | ⟨n, a, hbad, rfl, hk5⟩)
  · obtain ⟨V, cl, h5⟩ := hst5.out
    obtain ⟨xa, xc, rfl, hrdo, hxc⟩ := own_shape h5.own
    have K15 := (hk5.out.block (w.heap.size + 1) (by omega) (by omega) (by omega)).trans K1'.out
    have hset : ∀ j, j ≠ g → (w5.setCell ⟨g, 3, none⟩ (.int .i64 ((o : Nat) : Int))).heap[j]? = w5.heap[j]? := fun j hj => Below.heap_setCell _ _ _ _ hj
    have HGV : Hid ((w5.setCell ⟨g, 3, none⟩ (.int .i64 ((o : Nat) : Int))).heap[w.heap.size + 1 + 1]? = some (.cells #[.int .i64 6, .bool false, .string ⟨#[]⟩, .slice none 0 0, .slice xa l.length xc] 28 (0, 0))) := Lib.hid ((hset _ (by omega)).trans h5.blk)
    have HGR : Hid ((w5.setCell ⟨g, 3, none⟩ (.int .i64 ((o : Nat) : Int))).heap[w.heap.size + 1]? = some (.cells #[.int .i64 0, .bool false, .string ⟨#[]⟩, .slice none 0 0, .slice none 0 0] 28 (0, 0))) := Lib.hid ((hset _ (by omega)).trans K15)
    have HR6 := Lib.hid (h5.rdr.op o)
    have HB6 : Hid (But g w (w5.setCell ⟨g, 3, none⟩ (.int .i64 ((o : Nat) : Int)))) := Lib.hid ((but_v (HB3.out.trans HB4.out) hk5.out (by omega) (by omega)).trans (But.setCell w5 g 3 _))
    have HREP : Hid (Rep (w.heap.size + 3 ≤ ·) (w5.setCell ⟨g, 3, none⟩ (.int .i64 ((o : Nat) : Int))) [.int .i64 6, .bool false, .string ⟨#[]⟩, .slice none 0 0, .slice xa l.length xc] (jobj l)) := Lib.hid ((show Rep (w.heap.size + 3 ≤ ·) w5 [.int .i64 6, .bool false, .string ⟨#[]⟩, .slice none 0 0, .slice xa l.length xc] (jobj l) from rep_of (k := 6) (y := false) (t := []) (l := []) (cl := []) (.inl rfl) (Reps.nil _ _) hrdo (h5.reps.mono fun _ h => h.1) (Nat.le_refl 0) hxc).keep fun k hk _ => hset k (by omega))
    have HE : Hid ((rowR (memR val) 125 [] (blankL (S.drop p).tail)).bind (fun l r => PR.ok (jobj l) r) = .ok (jobj l) (S.drop q')) := Lib.hid (by rw [HT.out, ← HQ.out, hok.out]; rfl)
    clear hset K15 h5 hrdo hok hst5 hk5 HST HmemR HB3 HB4 K1' b4
    generalize w5.setCell ⟨g, 3, none⟩ (.int .i64 ((o : Nat) : Int)) = w6 at *
    have v0 : w6.cell? ⟨w.heap.size + 1 + 1, 0, none⟩ = some (.int .i64 6) := by rw [Lib.cell_of_heap HGV.out]; rfl
    have v1 : w6.cell? ⟨w.heap.size + 1 + 1, 1, none⟩ = some (.bool false) := by rw [Lib.cell_of_heap HGV.out]; rfl
    have v2 : w6.cell? ⟨w.heap.size + 1 + 1, 2, none⟩ = some (.string ⟨#[]⟩) := by rw [Lib.cell_of_heap HGV.out]; rfl
    have v3 : w6.cell? ⟨w.heap.size + 1 + 1, 3, none⟩ = some (.slice none 0 0) := by rw [Lib.cell_of_heap HGV.out]; rfl
    have v4 : w6.cell? ⟨w.heap.size + 1 + 1, 4, none⟩ = some (.slice xa l.length xc) := by rw [Lib.cell_of_heap HGV.out]; rfl
    have d0 : w6.cell? ⟨w.heap.size + 1, 0, none⟩ = some (.int .i64 0) := by rw [Lib.cell_of_heap HGR.out]; rfl
    have f0 := Lib.frozen_of_heap HGR.out 0
    have d1 : w6.cell? ⟨w.heap.size + 1, 1, none⟩ = some (.bool false) := by rw [Lib.cell_of_heap HGR.out]; rfl
    have f1 := Lib.frozen_of_heap HGR.out 1
    have d2 : w6.cell? ⟨w.heap.size + 1, 2, none⟩ = some (.string ⟨#[]⟩) := by rw [Lib.cell_of_heap HGR.out]; rfl
    have f2 := Lib.frozen_of_heap HGR.out 2
    have d3 : w6.cell? ⟨w.heap.size + 1, 3, none⟩ = some (.slice none 0 0) := by rw [Lib.cell_of_heap HGR.out]; rfl
    have f3 := Lib.frozen_of_heap HGR.out 3
    have d4 : w6.cell? ⟨w.heap.size + 1, 4, none⟩ = some (.slice none 0 0) := by rw [Lib.cell_of_heap HGR.out]; rfl
    have f4 := Lib.frozen_of_heap HGR.out 4
    go_wp2_with fail
    have hst := value_stored HGR.out (.int .i64 6) (.bool false) (.string ⟨#[]⟩) (.slice none 0 0) (.slice xa l.length xc)
    have HRE := Lib.hid (HR6.out.stored (gv := w.heap.size + 1) (by omega) (.int .i64 6) (.bool false) (.string ⟨#[]⟩) (.slice none 0 0) (.slice xa l.length xc))
    have HBE := Lib.hid (but_stored (gv := w.heap.size + 1) HB6.out (by omega) (.int .i64 6) (.bool false) (.string ⟨#[]⟩) (.slice none 0 0) (.slice xa l.length xc))
    have HZ := Lib.hid (five_other w6 (w.heap.size + 1) (.int .i64 6) (.bool false) (.string ⟨#[]⟩) (.slice none 0 0) (.slice xa l.length xc))
    have e0 := Lib.cell_of_heap hst 0
    have e1 := Lib.cell_of_heap hst 1
    have e2 := Lib.cell_of_heap hst 2
    have e3 := Lib.cell_of_heap hst 3
    have e4 := Lib.cell_of_heap hst 4
    simp only [List.getElem?_toArray] at e0 e1 e2 e3 e4
    refine bodyPost_ret (v := .agg #[.int .i64 6, .bool false, .string ⟨#[]⟩, .slice none 0 0, .slice xa l.length xc]) (by simp [results, Try.results61, go_sem, e0, e1, e2, e3, e4]) rfl ?_
    exact ⟨HBE, .inl ⟨_, _, q', HE, rfl, Lib.hid ((HREP.out.keep fun k hk _ => HZ.out k (by omega)).mono fun k hk => by omega), HRE⟩⟩
  · have HE : Hid ((rowR (memR val) 125 [] (blankL (S.drop p).tail)).bind (fun l r => PR.ok (jobj l) r) = .bad n) := Lib.hid (by rw [HT.out, ← HQ.out, hbad.out]; rfl)
    have HB6 : Hid (But g w w6) := Lib.hid (but_v (HB3.out.trans HB4.out) hk5.out (by omega) (by omega))
    clear hbad hk5 HmemR HST
    go_wp2_with fail
    exact ⟨rfl, HB6, .inr ⟨n, a, HE, rfl⟩⟩
end Go.Proofs.Ytfcokdkbjajohaa
/- json's reader: a value. -/
set_option linter.unusedVariables false
namespace Go.Proofs.Ytfcokdkbjajohaa
open Go.RowKit

set_option maxRecDepth 100000 in
theorem jbool_fn (b : Bool) (w : World) : Calls Try.prog 57 #[.bool b] w fun e w' => e = .returned (.agg #[.int .i64 2, .bool b, .string ⟨#[]⟩, .slice none 0 0, .slice none 0 0]) ∧ Below w.heap.size w w' := by
  go_enter Try.func57, Try.ntmps57
  go_wp2_with fail
  refine bodyPost_ret (v := .agg #[.int .i64 2, .bool b, .string ⟨#[]⟩, .slice none 0 0, .slice none 0 0]) (by simp [results, Try.results57, go_sem]) rfl ?_
  exact ⟨rfl, (Below.refl _ _).alloc (Nat.le_refl _) _⟩
set_option maxRecDepth 100000 in
theorem jstr_fn (t : List UInt8) (w : World) : Calls Try.prog 58 #[.string ⟨t.toArray⟩] w fun e w' => e = .returned (.agg #[.int .i64 4, .bool false, .string ⟨t.toArray⟩, .slice none 0 0, .slice none 0 0]) ∧ Below w.heap.size w w' := by
  go_enter Try.func58, Try.ntmps58
  go_wp2_with fail
  refine bodyPost_ret (v := .agg #[.int .i64 4, .bool false, .string ⟨t.toArray⟩, .slice none 0 0, .slice none 0 0]) (by simp [results, Try.results58, go_sem]) rfl ?_
  exact ⟨rfl, (Below.refl _ _).alloc (Nat.le_refl _) _⟩
set_option maxRecDepth 100000 in
set_option maxHeartbeats 8000000 in
theorem jarray_deep (g : Nat) (S : List UInt8) (p d : Nat) (w : World) (h : Rdr w g S p d d) :
    Calls Try.prog 60 #[.pointer (some ⟨g, 0, none⟩)] w fun e w' => But g w w' ∧ ∃ a, e = .panicked (thrown 32 a) := by
  have hgl := h.lt
  have HR := Lib.hid h
  clear h
  go_enter Try.func60, Try.ntmps60
  go_upto_region 2 with (fail)
  obtain ⟨k0, k1, k2, hs3, hb3⟩ := alloc3 w (.cells #[.pointer (some ⟨g, 0, none⟩)] 59) (.cells #[.int .i64 0, .bool false, .string ⟨#[]⟩, .slice none 0 0, .slice none 0 0] 28) (.cells #[.int .i64 5, .bool false, .string ⟨#[]⟩, .slice none 0 0, .slice none 0 0] 28)
  generalize ((w.alloc _).alloc _).alloc _ = w3 at *
  have HB3 : Hid (But g w w3) := Lib.hid ⟨hb3.os, hb3.tape, hb3.output, hb3.size, fun k hk _ => hb3.block k hk⟩
  have HR3 : Hid (Rdr w3 g S p d d) := Lib.hid ⟨(hb3.block g hgl).trans HR.out.heap, HR.out.le⟩
  have b0 : w3.cell? ⟨w.heap.size, 0, none⟩ = some (.pointer (some ⟨g, 0, none⟩)) := by rw [Lib.cell_of_heap k0]; rfl
  clear k0 k1 k2 hb3 HR
  go_wp2_with fail
  refine (jenter_deep g S p d 91 w3 HR3.out).mono ?_
  rintro e w4 ⟨hb4, a, rfl⟩
  have HB4 := Lib.hid (HB3.out.trans hb4)
  clear hb4
  go_wp2_with fail
  exact ⟨rfl, HB4.out, a, rfl⟩
set_option maxRecDepth 100000 in
set_option maxHeartbeats 8000000 in
theorem jobject_deep (g : Nat) (S : List UInt8) (p d : Nat) (w : World) (h : Rdr w g S p d d) :
    Calls Try.prog 61 #[.pointer (some ⟨g, 0, none⟩)] w fun e w' => But g w w' ∧ ∃ a, e = .panicked (thrown 32 a) := by
  have hgl := h.lt
  have HR := Lib.hid h
  clear h
  go_enter Try.func61, Try.ntmps61
  go_upto_region 2 with (fail)
  obtain ⟨k0, k1, k2, hs3, hb3⟩ := alloc3 w (.cells #[.pointer (some ⟨g, 0, none⟩)] 59) (.cells #[.int .i64 0, .bool false, .string ⟨#[]⟩, .slice none 0 0, .slice none 0 0] 28) (.cells #[.int .i64 6, .bool false, .string ⟨#[]⟩, .slice none 0 0, .slice none 0 0] 28)
  generalize ((w.alloc _).alloc _).alloc _ = w3 at *
  have HB3 : Hid (But g w w3) := Lib.hid ⟨hb3.os, hb3.tape, hb3.output, hb3.size, fun k hk _ => hb3.block k hk⟩
  have HR3 : Hid (Rdr w3 g S p d d) := Lib.hid ⟨(hb3.block g hgl).trans HR.out.heap, HR.out.le⟩
  have b0 : w3.cell? ⟨w.heap.size, 0, none⟩ = some (.pointer (some ⟨g, 0, none⟩)) := by rw [Lib.cell_of_heap k0]; rfl
  clear k0 k1 k2 hb3 HR
  go_wp2_with fail
  refine (jenter_deep g S p d 123 w3 HR3.out).mono ?_
  rintro e w4 ⟨hb4, a, rfl⟩
  have HB4 := Lib.hid (HB3.out.trans hb4)
  clear hb4
  go_wp2_with fail
  exact ⟨rfl, HB4.out, a, rfl⟩
theorem valA0 {r : List UInt8} (h : peekL r = 91) : valR 0 r = .bad 32 := by
  unfold valR
  rw [h]
  rfl
theorem valA {dd : Nat} {r : List UInt8} (h : peekL r = 91) : valR (dd + 1) r = (rowR (arrR (valR dd)) 93 [] (blankL r.tail)).bind fun l r => .ok (jarr l) r := by
  rw [valR]
  rw [h]
  rfl
theorem valO0 {r : List UInt8} (h : peekL r = 123) : valR 0 r = .bad 32 := by
  unfold valR
  rw [h]
  rfl
theorem valO {dd : Nat} {r : List UInt8} (h : peekL r = 123) : valR (dd + 1) r = (rowR (memR (valR dd)) 125 [] (blankL r.tail)).bind fun l r => .ok (jobj l) r := by
  rw [valR]
  rw [h]
  rfl
set_option maxRecDepth 100000 in
set_option maxHeartbeats 32000000 in
theorem jvalue_any (g : Nat) (S : List UInt8) (d : Nat) (hl : S.length ≤ 1000000) (hd : d ≤ 1000) : ∀ dd o, o + dd = d → ValC (valR dd) g S d o := by
  intro dd
  induction dd using Nat.strongRecOn with
  | _ dd ih =>
    intro o ho p w h
    have hgl := h.lt
    obtain ⟨c, hc⟩ : ∃ c, peekL (S.drop p) = c := ⟨_, rfl⟩
    have HR := Lib.hid h
    have HC := Lib.hid hc
    have hval : valR dd (S.drop p) = valR dd (S.drop p) := rfl
    conv at hval => rhs; unfold valR
    rw [hc] at hval
    have HV0 := Lib.hid hval
    clear h hc hval
    go_enter Try.func44, Try.ntmps44
    go_upto_region 1 with (fail)
    have hb1 : Below w.heap.size w (w.alloc (.cells #[.int .i64 0, .bool false, .string ⟨#[]⟩, .slice none 0 0, .slice none 0 0] 28)) := (Below.refl _ _).alloc (Nat.le_refl _) _
    have hg1 := heap_alloc_new w (.cells #[.int .i64 0, .bool false, .string ⟨#[]⟩, .slice none 0 0, .slice none 0 0] 28)
    generalize w.alloc _ = w1 at *
    have HB1 : Hid (But g w w1) := Lib.hid ⟨hb1.os, hb1.tape, hb1.output, hb1.size, fun k hk _ => hb1.block k hk⟩
    have HR1 : Hid (Rdr w1 g S p d o) := Lib.hid ⟨(hb1.block g hgl).trans HR.out.heap, HR.out.le⟩
    have HG1 := Lib.hid hg1
    have hgrl : w.heap.size < w1.heap.size := (Array.getElem?_eq_some_iff.1 hg1).1
    have hgne : w.heap.size ≠ g := by omega
    have HPK := Lib.hid (jpeek_any g S p d o c w1 HR1.out hl HC.out)
    clear hb1 hg1 HR
    by_cases h110 : c = 110
    · have hci : c = 110 := h110
      have HE : Hid (valR dd (S.drop p) = (wordR [110, 117, 108, 108] (S.drop p)).bind fun _ r => PR.ok jnull r) := Lib.hid (HV0.out.trans (by rw [hci]; rfl))
      clear HV0 h110
      have t110 : (((c.toNat : Nat) : Int) == 110) = true := by rw [hci]; rfl
      clear hci
      go_wp2_with fail
      refine HPK.out.mono ?_
      rintro e w2 ⟨rfl, hr2, hb2⟩
      have HR2 := Lib.hid hr2
      have HB2 := Lib.hid (HB1.out.trans hb2)
      have HG2 := Lib.hid ((hb2.block _ hgrl hgne).trans HG1.out)
      have hs2 : w.heap.size < w2.heap.size := Nat.lt_of_lt_of_le hgrl hb2.size
      have hpl2 := hr2.le
      clear hr2 hb2 HPK
      have HW := Lib.hid (jword_any g S [110, 117, 108, 108] p d o w2 HR2.out hl (by decide) (by decide))
      go_wp2_with fail
      refine HW.out.mono ?_
      rintro e w3 ⟨hb3, ⟨q, h3, rfl, hr3⟩ | ⟨n, a, h3, rfl⟩⟩
      · have HEY : Hid (valR dd (S.drop p) = .ok jnull (S.drop q)) := Lib.hid (by rw [HE.out, h3]; rfl)
        have HRZ := Lib.hid hr3
        have HBZ := Lib.hid (HB2.out.trans hb3)
        have HGZ := Lib.hid ((hb3.block _ hs2 hgne).trans HG2.out)
        clear h3 hb3 hr3 HW
        have d0 : w3.cell? ⟨w.heap.size, 0, none⟩ = some (.int .i64 0) := by rw [Lib.cell_of_heap HGZ.out]; rfl
        have f0 := Lib.frozen_of_heap HGZ.out 0
        have d1 : w3.cell? ⟨w.heap.size, 1, none⟩ = some (.bool false) := by rw [Lib.cell_of_heap HGZ.out]; rfl
        have f1 := Lib.frozen_of_heap HGZ.out 1
        have d2 : w3.cell? ⟨w.heap.size, 2, none⟩ = some (.string ⟨#[]⟩) := by rw [Lib.cell_of_heap HGZ.out]; rfl
        have f2 := Lib.frozen_of_heap HGZ.out 2
        have d3 : w3.cell? ⟨w.heap.size, 3, none⟩ = some (.slice none 0 0) := by rw [Lib.cell_of_heap HGZ.out]; rfl
        have f3 := Lib.frozen_of_heap HGZ.out 3
        have d4 : w3.cell? ⟨w.heap.size, 4, none⟩ = some (.slice none 0 0) := by rw [Lib.cell_of_heap HGZ.out]; rfl
        have f4 := Lib.frozen_of_heap HGZ.out 4
        go_wp2_with fail
        have hst := value_stored HGZ.out (.int .i64 1) (.bool false) (.string ⟨#[]⟩) (.slice none 0 0) (.slice none 0 0)
        have HRE := Lib.hid (HRZ.out.stored (gv := w.heap.size) (by omega) (.int .i64 1) (.bool false) (.string ⟨#[]⟩) (.slice none 0 0) (.slice none 0 0))
        have HBE := Lib.hid (but_stored (gv := w.heap.size) HBZ.out (Nat.le_refl _) (.int .i64 1) (.bool false) (.string ⟨#[]⟩) (.slice none 0 0) (.slice none 0 0))
        have HOT := Lib.hid (five_other w3 w.heap.size (.int .i64 1) (.bool false) (.string ⟨#[]⟩) (.slice none 0 0) (.slice none 0 0))
        have e0 := Lib.cell_of_heap hst 0
        have e1 := Lib.cell_of_heap hst 1
        have e2 := Lib.cell_of_heap hst 2
        have e3 := Lib.cell_of_heap hst 3
        have e4 := Lib.cell_of_heap hst 4
        simp only [List.getElem?_toArray] at e0 e1 e2 e3 e4
        refine bodyPost_ret (v := .agg #[.int .i64 1, .bool false, .string ⟨#[]⟩, .slice none 0 0, .slice none 0 0]) (by simp [results, Try.results44, go_sem, e0, e1, e2, e3, e4]) rfl ?_
        exact ⟨HBE, .inl ⟨_, jnull, q, HEY, rfl, Lib.hid (Rep.leaf _ _ 1 false []), HRE⟩⟩
      · have HEY : Hid (valR dd (S.drop p) = .bad n) := Lib.hid (by rw [HE.out, h3]; rfl)
        have HBY := Lib.hid (HB2.out.trans hb3)
        clear h3 hb3 HW
        go_wp2_with fail
        exact ⟨rfl, HBY, .inr ⟨n, a, HEY, rfl⟩⟩
    by_cases h116 : c = 116
    · have hci : c = 116 := h116
      have HE : Hid (valR dd (S.drop p) = (wordR [116, 114, 117, 101] (S.drop p)).bind fun _ r => PR.ok (jbool true) r) := Lib.hid (HV0.out.trans (by rw [hci]; rfl))
      clear HV0 h110 h116
      have t110 : (((c.toNat : Nat) : Int) == 110) = false := by rw [hci]; rfl
      have t116 : (((c.toNat : Nat) : Int) == 116) = true := by rw [hci]; rfl
      clear hci
      go_wp2_with fail
      refine HPK.out.mono ?_
      rintro e w2 ⟨rfl, hr2, hb2⟩
      have HR2 := Lib.hid hr2
      have HB2 := Lib.hid (HB1.out.trans hb2)
      have HG2 := Lib.hid ((hb2.block _ hgrl hgne).trans HG1.out)
      have hs2 : w.heap.size < w2.heap.size := Nat.lt_of_lt_of_le hgrl hb2.size
      have hpl2 := hr2.le
      clear hr2 hb2 HPK
      have HW := Lib.hid (jword_any g S [116, 114, 117, 101] p d o w2 HR2.out hl (by decide) (by decide))
      go_wp2_with fail
      refine HW.out.mono ?_
      rintro e w3 ⟨hb3, ⟨q, h3, rfl, hr3⟩ | ⟨n, a, h3, rfl⟩⟩
      · have HEY : Hid (valR dd (S.drop p) = .ok (jbool true) (S.drop q)) := Lib.hid (by rw [HE.out, h3]; rfl)
        have HRZ := Lib.hid hr3
        have HBZ := Lib.hid (HB2.out.trans hb3)
        have HGZ := Lib.hid ((hb3.block _ hs2 hgne).trans HG2.out)
        clear h3 hb3 hr3 HW
        go_wp2_with fail
        refine (jbool_fn true w3).mono ?_
        rintro e w4 ⟨rfl, hb4⟩
        have HRY := Lib.hid (show Rdr w4 g S q d o from ⟨(hb4.block g (by have := HBZ.out.size; omega)).trans HRZ.out.heap, HRZ.out.le⟩)
        have HBY := Lib.hid (HBZ.out.trans ⟨hb4.os, hb4.tape, hb4.output, hb4.size, fun k hk _ => hb4.block k hk⟩)
        have HGY := Lib.hid ((hb4.block _ (by have := HBZ.out.size; have := (Array.getElem?_eq_some_iff.1 HGZ.out).1; omega)).trans HGZ.out)
        clear hb4
        have d0 : w4.cell? ⟨w.heap.size, 0, none⟩ = some (.int .i64 0) := by rw [Lib.cell_of_heap HGY.out]; rfl
        have f0 := Lib.frozen_of_heap HGY.out 0
        have d1 : w4.cell? ⟨w.heap.size, 1, none⟩ = some (.bool false) := by rw [Lib.cell_of_heap HGY.out]; rfl
        have f1 := Lib.frozen_of_heap HGY.out 1
        have d2 : w4.cell? ⟨w.heap.size, 2, none⟩ = some (.string ⟨#[]⟩) := by rw [Lib.cell_of_heap HGY.out]; rfl
        have f2 := Lib.frozen_of_heap HGY.out 2
        have d3 : w4.cell? ⟨w.heap.size, 3, none⟩ = some (.slice none 0 0) := by rw [Lib.cell_of_heap HGY.out]; rfl
        have f3 := Lib.frozen_of_heap HGY.out 3
        have d4 : w4.cell? ⟨w.heap.size, 4, none⟩ = some (.slice none 0 0) := by rw [Lib.cell_of_heap HGY.out]; rfl
        have f4 := Lib.frozen_of_heap HGY.out 4
        go_wp2_with fail
        have hst := value_stored HGY.out (.int .i64 2) (.bool true) (.string ⟨#[]⟩) (.slice none 0 0) (.slice none 0 0)
        have HRE := Lib.hid (HRY.out.stored (gv := w.heap.size) (by omega) (.int .i64 2) (.bool true) (.string ⟨#[]⟩) (.slice none 0 0) (.slice none 0 0))
        have HBE := Lib.hid (but_stored (gv := w.heap.size) HBY.out (Nat.le_refl _) (.int .i64 2) (.bool true) (.string ⟨#[]⟩) (.slice none 0 0) (.slice none 0 0))
        have HOT := Lib.hid (five_other w4 w.heap.size (.int .i64 2) (.bool true) (.string ⟨#[]⟩) (.slice none 0 0) (.slice none 0 0))
        have e0 := Lib.cell_of_heap hst 0
        have e1 := Lib.cell_of_heap hst 1
        have e2 := Lib.cell_of_heap hst 2
        have e3 := Lib.cell_of_heap hst 3
        have e4 := Lib.cell_of_heap hst 4
        simp only [List.getElem?_toArray] at e0 e1 e2 e3 e4
        refine bodyPost_ret (v := .agg #[.int .i64 2, .bool true, .string ⟨#[]⟩, .slice none 0 0, .slice none 0 0]) (by simp [results, Try.results44, go_sem, e0, e1, e2, e3, e4]) rfl ?_
        exact ⟨HBE, .inl ⟨_, (jbool true), q, HEY, rfl, Lib.hid (Rep.leaf _ _ 2 true []), HRE⟩⟩
      · have HEY : Hid (valR dd (S.drop p) = .bad n) := Lib.hid (by rw [HE.out, h3]; rfl)
        have HBY := Lib.hid (HB2.out.trans hb3)
        clear h3 hb3 HW
        go_wp2_with fail
        exact ⟨rfl, HBY, .inr ⟨n, a, HEY, rfl⟩⟩
    by_cases h102 : c = 102
    · have hci : c = 102 := h102
      have HE : Hid (valR dd (S.drop p) = (wordR [102, 97, 108, 115, 101] (S.drop p)).bind fun _ r => PR.ok (jbool false) r) := Lib.hid (HV0.out.trans (by rw [hci]; rfl))
      clear HV0 h110 h116 h102
      have t110 : (((c.toNat : Nat) : Int) == 110) = false := by rw [hci]; rfl
      have t116 : (((c.toNat : Nat) : Int) == 116) = false := by rw [hci]; rfl
      have t102 : (((c.toNat : Nat) : Int) == 102) = true := by rw [hci]; rfl
      clear hci
      go_wp2_with fail
      refine HPK.out.mono ?_
      rintro e w2 ⟨rfl, hr2, hb2⟩
      have HR2 := Lib.hid hr2
      have HB2 := Lib.hid (HB1.out.trans hb2)
      have HG2 := Lib.hid ((hb2.block _ hgrl hgne).trans HG1.out)
      have hs2 : w.heap.size < w2.heap.size := Nat.lt_of_lt_of_le hgrl hb2.size
      have hpl2 := hr2.le
      clear hr2 hb2 HPK
      have HW := Lib.hid (jword_any g S [102, 97, 108, 115, 101] p d o w2 HR2.out hl (by decide) (by decide))
      go_wp2_with fail
      refine HW.out.mono ?_
      rintro e w3 ⟨hb3, ⟨q, h3, rfl, hr3⟩ | ⟨n, a, h3, rfl⟩⟩
      · have HEY : Hid (valR dd (S.drop p) = .ok (jbool false) (S.drop q)) := Lib.hid (by rw [HE.out, h3]; rfl)
        have HRZ := Lib.hid hr3
        have HBZ := Lib.hid (HB2.out.trans hb3)
        have HGZ := Lib.hid ((hb3.block _ hs2 hgne).trans HG2.out)
        clear h3 hb3 hr3 HW
        go_wp2_with fail
        refine (jbool_fn false w3).mono ?_
        rintro e w4 ⟨rfl, hb4⟩
        have HRY := Lib.hid (show Rdr w4 g S q d o from ⟨(hb4.block g (by have := HBZ.out.size; omega)).trans HRZ.out.heap, HRZ.out.le⟩)
        have HBY := Lib.hid (HBZ.out.trans ⟨hb4.os, hb4.tape, hb4.output, hb4.size, fun k hk _ => hb4.block k hk⟩)
        have HGY := Lib.hid ((hb4.block _ (by have := HBZ.out.size; have := (Array.getElem?_eq_some_iff.1 HGZ.out).1; omega)).trans HGZ.out)
        clear hb4
        have d0 : w4.cell? ⟨w.heap.size, 0, none⟩ = some (.int .i64 0) := by rw [Lib.cell_of_heap HGY.out]; rfl
        have f0 := Lib.frozen_of_heap HGY.out 0
        have d1 : w4.cell? ⟨w.heap.size, 1, none⟩ = some (.bool false) := by rw [Lib.cell_of_heap HGY.out]; rfl
        have f1 := Lib.frozen_of_heap HGY.out 1
        have d2 : w4.cell? ⟨w.heap.size, 2, none⟩ = some (.string ⟨#[]⟩) := by rw [Lib.cell_of_heap HGY.out]; rfl
        have f2 := Lib.frozen_of_heap HGY.out 2
        have d3 : w4.cell? ⟨w.heap.size, 3, none⟩ = some (.slice none 0 0) := by rw [Lib.cell_of_heap HGY.out]; rfl
        have f3 := Lib.frozen_of_heap HGY.out 3
        have d4 : w4.cell? ⟨w.heap.size, 4, none⟩ = some (.slice none 0 0) := by rw [Lib.cell_of_heap HGY.out]; rfl
        have f4 := Lib.frozen_of_heap HGY.out 4
        go_wp2_with fail
        have hst := value_stored HGY.out (.int .i64 2) (.bool false) (.string ⟨#[]⟩) (.slice none 0 0) (.slice none 0 0)
        have HRE := Lib.hid (HRY.out.stored (gv := w.heap.size) (by omega) (.int .i64 2) (.bool false) (.string ⟨#[]⟩) (.slice none 0 0) (.slice none 0 0))
        have HBE := Lib.hid (but_stored (gv := w.heap.size) HBY.out (Nat.le_refl _) (.int .i64 2) (.bool false) (.string ⟨#[]⟩) (.slice none 0 0) (.slice none 0 0))
        have HOT := Lib.hid (five_other w4 w.heap.size (.int .i64 2) (.bool false) (.string ⟨#[]⟩) (.slice none 0 0) (.slice none 0 0))
        have e0 := Lib.cell_of_heap hst 0
        have e1 := Lib.cell_of_heap hst 1
        have e2 := Lib.cell_of_heap hst 2
        have e3 := Lib.cell_of_heap hst 3
        have e4 := Lib.cell_of_heap hst 4
        simp only [List.getElem?_toArray] at e0 e1 e2 e3 e4
        refine bodyPost_ret (v := .agg #[.int .i64 2, .bool false, .string ⟨#[]⟩, .slice none 0 0, .slice none 0 0]) (by simp [results, Try.results44, go_sem, e0, e1, e2, e3, e4]) rfl ?_
        exact ⟨HBE, .inl ⟨_, (jbool false), q, HEY, rfl, Lib.hid (Rep.leaf _ _ 2 false []), HRE⟩⟩
      · have HEY : Hid (valR dd (S.drop p) = .bad n) := Lib.hid (by rw [HE.out, h3]; rfl)
        have HBY := Lib.hid (HB2.out.trans hb3)
        clear h3 hb3 HW
        go_wp2_with fail
        exact ⟨rfl, HBY, .inr ⟨n, a, HEY, rfl⟩⟩
    by_cases h34 : c = 34
    · have hci : c = 34 := h34
      have HE : Hid (valR dd (S.drop p) = (textR (S.drop p)).bind fun t r => PR.ok (jstr t) r) := Lib.hid (HV0.out.trans (by rw [hci]; rfl))
      clear HV0 h110 h116 h102 h34
      have t110 : (((c.toNat : Nat) : Int) == 110) = false := by rw [hci]; rfl
      have t116 : (((c.toNat : Nat) : Int) == 116) = false := by rw [hci]; rfl
      have t102 : (((c.toNat : Nat) : Int) == 102) = false := by rw [hci]; rfl
      have t34 : (((c.toNat : Nat) : Int) == 34) = true := by rw [hci]; rfl
      clear hci
      go_wp2_with fail
      refine HPK.out.mono ?_
      rintro e w2 ⟨rfl, hr2, hb2⟩
      have HR2 := Lib.hid hr2
      have HB2 := Lib.hid (HB1.out.trans hb2)
      have HG2 := Lib.hid ((hb2.block _ hgrl hgne).trans HG1.out)
      have hs2 : w.heap.size < w2.heap.size := Nat.lt_of_lt_of_le hgrl hb2.size
      have hpl2 := hr2.le
      clear hr2 hb2 HPK
      have HW := Lib.hid (jtext_any g S p d o w2 HR2.out hl)
      go_wp2_with fail
      refine HW.out.mono ?_
      rintro e w3 ⟨hb3, ⟨t, q, h3, rfl, hr3⟩ | ⟨n, a, h3, rfl⟩⟩
      · have HEY : Hid (valR dd (S.drop p) = .ok (jstr t) (S.drop q)) := Lib.hid (by rw [HE.out, h3.out]; rfl)
        have HRZ := hr3
        have HBZ := Lib.hid (HB2.out.trans hb3.out)
        have HGZ := Lib.hid ((hb3.out.block _ hs2 hgne).trans HG2.out)
        clear h3 hb3 hr3 HW
        go_wp2_with fail
        refine (jstr_fn t w3).mono ?_
        rintro e w4 ⟨rfl, hb4⟩
        have HRY := Lib.hid (show Rdr w4 g S q d o from ⟨(hb4.block g (by have := HBZ.out.size; omega)).trans HRZ.out.heap, HRZ.out.le⟩)
        have HBY := Lib.hid (HBZ.out.trans ⟨hb4.os, hb4.tape, hb4.output, hb4.size, fun k hk _ => hb4.block k hk⟩)
        have HGY := Lib.hid ((hb4.block _ (by have := HBZ.out.size; have := (Array.getElem?_eq_some_iff.1 HGZ.out).1; omega)).trans HGZ.out)
        clear hb4
        have d0 : w4.cell? ⟨w.heap.size, 0, none⟩ = some (.int .i64 0) := by rw [Lib.cell_of_heap HGY.out]; rfl
        have f0 := Lib.frozen_of_heap HGY.out 0
        have d1 : w4.cell? ⟨w.heap.size, 1, none⟩ = some (.bool false) := by rw [Lib.cell_of_heap HGY.out]; rfl
        have f1 := Lib.frozen_of_heap HGY.out 1
        have d2 : w4.cell? ⟨w.heap.size, 2, none⟩ = some (.string ⟨#[]⟩) := by rw [Lib.cell_of_heap HGY.out]; rfl
        have f2 := Lib.frozen_of_heap HGY.out 2
        have d3 : w4.cell? ⟨w.heap.size, 3, none⟩ = some (.slice none 0 0) := by rw [Lib.cell_of_heap HGY.out]; rfl
        have f3 := Lib.frozen_of_heap HGY.out 3
        have d4 : w4.cell? ⟨w.heap.size, 4, none⟩ = some (.slice none 0 0) := by rw [Lib.cell_of_heap HGY.out]; rfl
        have f4 := Lib.frozen_of_heap HGY.out 4
        go_wp2_with fail
        have hst := value_stored HGY.out (.int .i64 4) (.bool false) (.string ⟨t.toArray⟩) (.slice none 0 0) (.slice none 0 0)
        have HRE := Lib.hid (HRY.out.stored (gv := w.heap.size) (by omega) (.int .i64 4) (.bool false) (.string ⟨t.toArray⟩) (.slice none 0 0) (.slice none 0 0))
        have HBE := Lib.hid (but_stored (gv := w.heap.size) HBY.out (Nat.le_refl _) (.int .i64 4) (.bool false) (.string ⟨t.toArray⟩) (.slice none 0 0) (.slice none 0 0))
        have HOT := Lib.hid (five_other w4 w.heap.size (.int .i64 4) (.bool false) (.string ⟨t.toArray⟩) (.slice none 0 0) (.slice none 0 0))
        have e0 := Lib.cell_of_heap hst 0
        have e1 := Lib.cell_of_heap hst 1
        have e2 := Lib.cell_of_heap hst 2
        have e3 := Lib.cell_of_heap hst 3
        have e4 := Lib.cell_of_heap hst 4
        simp only [List.getElem?_toArray] at e0 e1 e2 e3 e4
        refine bodyPost_ret (v := .agg #[.int .i64 4, .bool false, .string ⟨t.toArray⟩, .slice none 0 0, .slice none 0 0]) (by simp [results, Try.results44, go_sem, e0, e1, e2, e3, e4]) rfl ?_
        exact ⟨HBE, .inl ⟨_, (jstr t), q, HEY, rfl, Lib.hid (Rep.leaf _ _ 4 false t), HRE⟩⟩
      · have HEY : Hid (valR dd (S.drop p) = .bad n) := Lib.hid (by rw [HE.out, h3.out]; rfl)
        have HBY := Lib.hid (HB2.out.trans hb3.out)
        clear h3 hb3 HW
        go_wp2_with fail
        exact ⟨rfl, HBY, .inr ⟨n, a, HEY, rfl⟩⟩
    by_cases h91 : c = 91
    · have hci : c = 91 := h91
      have HCI := Lib.hid hci
      clear HV0 h110 h116 h102 h34 h91
      have t110 : (((c.toNat : Nat) : Int) == 110) = false := by rw [hci]; rfl
      have t116 : (((c.toNat : Nat) : Int) == 116) = false := by rw [hci]; rfl
      have t102 : (((c.toNat : Nat) : Int) == 102) = false := by rw [hci]; rfl
      have t34 : (((c.toNat : Nat) : Int) == 34) = false := by rw [hci]; rfl
      have t91 : (((c.toNat : Nat) : Int) == 91) = true := by rw [hci]; rfl
      go_wp2_with fail
      refine HPK.out.mono ?_
      rintro e w2 ⟨rfl, hr2, hb2⟩
      have HR2 := Lib.hid hr2
      have HB2 := Lib.hid (HB1.out.trans hb2)
      have HG2 := Lib.hid ((hb2.block _ hgrl hgne).trans HG1.out)
      have hs2 : w.heap.size < w2.heap.size := Nat.lt_of_lt_of_le hgrl hb2.size
      have hpl2 := hr2.le
      clear hr2 hb2 HPK
      cases dd with
      | zero =>
        have hod : o = d := by omega
        subst hod
        have HW := Lib.hid (jarray_deep g S p o w2 HR2.out)
        clear hci
        go_wp2_with fail
        refine HW.out.mono ?_
        rintro e w3 ⟨hb3, a, rfl⟩
        have HEY : Hid (valR 0 (S.drop p) = .bad 32) := Lib.hid (valA0 (HC.out.trans HCI.out))
        have HBY := Lib.hid (HB2.out.trans hb3)
        clear hb3 HW
        go_wp2_with fail
        exact ⟨rfl, HBY, .inr ⟨32, a, HEY, rfl⟩⟩
      | succ dd =>
        have HW := Lib.hid (jarray_any (valR dd) (val_short dd) g S p d o (ih dd (by omega) (o + 1) (by omega)) hl (by omega) hd w2 HR2.out (HC.out.trans hci))
        clear hci
        go_wp2_with fail
        refine HW.out.mono ?_
        rintro e w3 ⟨hb3, ⟨cs, v, q, h3, rfl, hrep, hr3⟩ | ⟨n, a, h3, rfl⟩⟩
        · have HEY : Hid (valR (dd + 1) (S.drop p) = .ok v (S.drop q)) := Lib.hid (by rw [valA (HC.out.trans HCI.out)]; exact h3.out)
          obtain ⟨ya, yc, ya', yc', _, _, rfl, -⟩ := hrep.out.parts
          unfold strV at *
          have HRZ := hr3
          have HBZ := Lib.hid (HB2.out.trans hb3.out)
          have HGZ := Lib.hid ((hb3.out.block _ hs2 hgne).trans HG2.out)
          clear h3 hb3 hr3 HW
          have d0 : w3.cell? ⟨w.heap.size, 0, none⟩ = some (.int .i64 0) := by rw [Lib.cell_of_heap HGZ.out]; rfl
          have f0 := Lib.frozen_of_heap HGZ.out 0
          have d1 : w3.cell? ⟨w.heap.size, 1, none⟩ = some (.bool false) := by rw [Lib.cell_of_heap HGZ.out]; rfl
          have f1 := Lib.frozen_of_heap HGZ.out 1
          have d2 : w3.cell? ⟨w.heap.size, 2, none⟩ = some (.string ⟨#[]⟩) := by rw [Lib.cell_of_heap HGZ.out]; rfl
          have f2 := Lib.frozen_of_heap HGZ.out 2
          have d3 : w3.cell? ⟨w.heap.size, 3, none⟩ = some (.slice none 0 0) := by rw [Lib.cell_of_heap HGZ.out]; rfl
          have f3 := Lib.frozen_of_heap HGZ.out 3
          have d4 : w3.cell? ⟨w.heap.size, 4, none⟩ = some (.slice none 0 0) := by rw [Lib.cell_of_heap HGZ.out]; rfl
          have f4 := Lib.frozen_of_heap HGZ.out 4
          go_wp2_with fail
          have hst := value_stored HGZ.out (.int .i64 v.kind) (.bool v.yes) (.string ⟨v.text.toArray⟩) (.slice ya v.list.length yc) (.slice ya' v.mem.length yc')
          have HRE := Lib.hid (HRZ.out.stored (gv := w.heap.size) (by omega) (.int .i64 v.kind) (.bool v.yes) (.string ⟨v.text.toArray⟩) (.slice ya v.list.length yc) (.slice ya' v.mem.length yc'))
          have HBE := Lib.hid (but_stored (gv := w.heap.size) HBZ.out (Nat.le_refl _) (.int .i64 v.kind) (.bool v.yes) (.string ⟨v.text.toArray⟩) (.slice ya v.list.length yc) (.slice ya' v.mem.length yc'))
          have HOT := Lib.hid (five_other w3 w.heap.size (.int .i64 v.kind) (.bool v.yes) (.string ⟨v.text.toArray⟩) (.slice ya v.list.length yc) (.slice ya' v.mem.length yc'))
          have e0 := Lib.cell_of_heap hst 0
          have e1 := Lib.cell_of_heap hst 1
          have e2 := Lib.cell_of_heap hst 2
          have e3 := Lib.cell_of_heap hst 3
          have e4 := Lib.cell_of_heap hst 4
          simp only [List.getElem?_toArray] at e0 e1 e2 e3 e4
          refine bodyPost_ret (v := .agg #[.int .i64 v.kind, .bool v.yes, .string ⟨v.text.toArray⟩, .slice ya v.list.length yc, .slice ya' v.mem.length yc']) (by simp [results, Try.results44, go_sem, e0, e1, e2, e3, e4]) rfl ?_
          exact ⟨HBE, .inl ⟨_, v, q, HEY, rfl, Lib.hid ((hrep.out.keep fun k hk _ => HOT.out k (by omega)).mono fun k hk => by omega), HRE⟩⟩
        · have HEY : Hid (valR (dd + 1) (S.drop p) = .bad n) := Lib.hid (by rw [valA (HC.out.trans HCI.out)]; exact h3.out)
          have HBY := Lib.hid (HB2.out.trans hb3.out)
          clear h3 hb3 HW
          go_wp2_with fail
          exact ⟨rfl, HBY, .inr ⟨n, a, HEY, rfl⟩⟩
    by_cases h123 : c = 123
    · have hci : c = 123 := h123
      have HCI := Lib.hid hci
      clear HV0 h110 h116 h102 h34 h91 h123
      have t110 : (((c.toNat : Nat) : Int) == 110) = false := by rw [hci]; rfl
      have t116 : (((c.toNat : Nat) : Int) == 116) = false := by rw [hci]; rfl
      have t102 : (((c.toNat : Nat) : Int) == 102) = false := by rw [hci]; rfl
      have t34 : (((c.toNat : Nat) : Int) == 34) = false := by rw [hci]; rfl
      have t91 : (((c.toNat : Nat) : Int) == 91) = false := by rw [hci]; rfl
      have t123 : (((c.toNat : Nat) : Int) == 123) = true := by rw [hci]; rfl
      go_wp2_with fail
      refine HPK.out.mono ?_
      rintro e w2 ⟨rfl, hr2, hb2⟩
      have HR2 := Lib.hid hr2
      have HB2 := Lib.hid (HB1.out.trans hb2)
      have HG2 := Lib.hid ((hb2.block _ hgrl hgne).trans HG1.out)
      have hs2 : w.heap.size < w2.heap.size := Nat.lt_of_lt_of_le hgrl hb2.size
      have hpl2 := hr2.le
      clear hr2 hb2 HPK
      cases dd with
      | zero =>
        have hod : o = d := by omega
        subst hod
        have HW := Lib.hid (jobject_deep g S p o w2 HR2.out)
        clear hci
        go_wp2_with fail
        refine HW.out.mono ?_
        rintro e w3 ⟨hb3, a, rfl⟩
        have HEY : Hid (valR 0 (S.drop p) = .bad 32) := Lib.hid (valO0 (HC.out.trans HCI.out))
        have HBY := Lib.hid (HB2.out.trans hb3)
        clear hb3 HW
        go_wp2_with fail
        exact ⟨rfl, HBY, .inr ⟨32, a, HEY, rfl⟩⟩
      | succ dd =>
        have HW := Lib.hid (jobject_any (valR dd) (val_short dd) g S p d o (ih dd (by omega) (o + 1) (by omega)) hl (by omega) hd w2 HR2.out (HC.out.trans hci))
        clear hci
        go_wp2_with fail
        refine HW.out.mono ?_
        rintro e w3 ⟨hb3, ⟨cs, v, q, h3, rfl, hrep, hr3⟩ | ⟨n, a, h3, rfl⟩⟩
        · have HEY : Hid (valR (dd + 1) (S.drop p) = .ok v (S.drop q)) := Lib.hid (by rw [valO (HC.out.trans HCI.out)]; exact h3.out)
          obtain ⟨ya, yc, ya', yc', _, _, rfl, -⟩ := hrep.out.parts
          unfold strV at *
          have HRZ := hr3
          have HBZ := Lib.hid (HB2.out.trans hb3.out)
          have HGZ := Lib.hid ((hb3.out.block _ hs2 hgne).trans HG2.out)
          clear h3 hb3 hr3 HW
          have d0 : w3.cell? ⟨w.heap.size, 0, none⟩ = some (.int .i64 0) := by rw [Lib.cell_of_heap HGZ.out]; rfl
          have f0 := Lib.frozen_of_heap HGZ.out 0
          have d1 : w3.cell? ⟨w.heap.size, 1, none⟩ = some (.bool false) := by rw [Lib.cell_of_heap HGZ.out]; rfl
          have f1 := Lib.frozen_of_heap HGZ.out 1
          have d2 : w3.cell? ⟨w.heap.size, 2, none⟩ = some (.string ⟨#[]⟩) := by rw [Lib.cell_of_heap HGZ.out]; rfl
          have f2 := Lib.frozen_of_heap HGZ.out 2
          have d3 : w3.cell? ⟨w.heap.size, 3, none⟩ = some (.slice none 0 0) := by rw [Lib.cell_of_heap HGZ.out]; rfl
          have f3 := Lib.frozen_of_heap HGZ.out 3
          have d4 : w3.cell? ⟨w.heap.size, 4, none⟩ = some (.slice none 0 0) := by rw [Lib.cell_of_heap HGZ.out]; rfl
          have f4 := Lib.frozen_of_heap HGZ.out 4
          go_wp2_with fail
          have hst := value_stored HGZ.out (.int .i64 v.kind) (.bool v.yes) (.string ⟨v.text.toArray⟩) (.slice ya v.list.length yc) (.slice ya' v.mem.length yc')
          have HRE := Lib.hid (HRZ.out.stored (gv := w.heap.size) (by omega) (.int .i64 v.kind) (.bool v.yes) (.string ⟨v.text.toArray⟩) (.slice ya v.list.length yc) (.slice ya' v.mem.length yc'))
          have HBE := Lib.hid (but_stored (gv := w.heap.size) HBZ.out (Nat.le_refl _) (.int .i64 v.kind) (.bool v.yes) (.string ⟨v.text.toArray⟩) (.slice ya v.list.length yc) (.slice ya' v.mem.length yc'))
          have HOT := Lib.hid (five_other w3 w.heap.size (.int .i64 v.kind) (.bool v.yes) (.string ⟨v.text.toArray⟩) (.slice ya v.list.length yc) (.slice ya' v.mem.length yc'))
          have e0 := Lib.cell_of_heap hst 0
          have e1 := Lib.cell_of_heap hst 1
          have e2 := Lib.cell_of_heap hst 2
          have e3 := Lib.cell_of_heap hst 3
          have e4 := Lib.cell_of_heap hst 4
          simp only [List.getElem?_toArray] at e0 e1 e2 e3 e4
          refine bodyPost_ret (v := .agg #[.int .i64 v.kind, .bool v.yes, .string ⟨v.text.toArray⟩, .slice ya v.list.length yc, .slice ya' v.mem.length yc']) (by simp [results, Try.results44, go_sem, e0, e1, e2, e3, e4]) rfl ?_
          exact ⟨HBE, .inl ⟨_, v, q, HEY, rfl, Lib.hid ((hrep.out.keep fun k hk _ => HOT.out k (by omega)).mono fun k hk => by omega), HRE⟩⟩
        · have HEY : Hid (valR (dd + 1) (S.drop p) = .bad n) := Lib.hid (by rw [valO (HC.out.trans HCI.out)]; exact h3.out)
          have HBY := Lib.hid (HB2.out.trans hb3.out)
          clear h3 hb3 HW
          go_wp2_with fail
          exact ⟨rfl, HBY, .inr ⟨n, a, HEY, rfl⟩⟩
    by_cases h45 : c = 45
    · have hci : c = 45 := h45
      have HE : Hid (valR dd (S.drop p) = (numberL (S.drop p)).bind fun t r => PR.ok (jnum t) r) := Lib.hid (HV0.out.trans (by rw [hci]; rfl))
      clear HV0 h110 h116 h102 h34 h91 h123 h45
      have t110 : (((c.toNat : Nat) : Int) == 110) = false := by rw [hci]; rfl
      have t116 : (((c.toNat : Nat) : Int) == 116) = false := by rw [hci]; rfl
      have t102 : (((c.toNat : Nat) : Int) == 102) = false := by rw [hci]; rfl
      have t34 : (((c.toNat : Nat) : Int) == 34) = false := by rw [hci]; rfl
      have t91 : (((c.toNat : Nat) : Int) == 91) = false := by rw [hci]; rfl
      have t123 : (((c.toNat : Nat) : Int) == 123) = false := by rw [hci]; rfl
      have t45 : (((c.toNat : Nat) : Int) == 45) = true := by rw [hci]; rfl
      clear hci
      go_wp2_with fail
      refine HPK.out.mono ?_
      rintro e w2 ⟨rfl, hr2, hb2⟩
      have HR2 := Lib.hid hr2
      have HB2 := Lib.hid (HB1.out.trans hb2)
      have HG2 := Lib.hid ((hb2.block _ hgrl hgne).trans HG1.out)
      have hs2 : w.heap.size < w2.heap.size := Nat.lt_of_lt_of_le hgrl hb2.size
      have hpl2 := hr2.le
      clear hr2 hb2 HPK
      have HW := Lib.hid (jnumber_any g S p d o _ HR2.out hl)
      go_wp2_with fail
      refine HW.out.mono ?_
      rintro e w4 ⟨hb3, ⟨t, q, h3, rfl, hr3⟩ | ⟨n, a, h3, rfl⟩⟩
      · have HEY : Hid (valR dd (S.drop p) = .ok (jnum t) (S.drop q)) := Lib.hid (by rw [HE.out, h3]; rfl)
        unfold leafV
        have HRZ := Lib.hid hr3
        have HBZ := Lib.hid (HB2.out.trans hb3)
        have HGZ := Lib.hid ((hb3.block _ hs2 hgne).trans HG2.out)
        clear h3 hb3 hr3 HW
        have d0 : w4.cell? ⟨w.heap.size, 0, none⟩ = some (.int .i64 0) := by rw [Lib.cell_of_heap HGZ.out]; rfl
        have f0 := Lib.frozen_of_heap HGZ.out 0
        have d1 : w4.cell? ⟨w.heap.size, 1, none⟩ = some (.bool false) := by rw [Lib.cell_of_heap HGZ.out]; rfl
        have f1 := Lib.frozen_of_heap HGZ.out 1
        have d2 : w4.cell? ⟨w.heap.size, 2, none⟩ = some (.string ⟨#[]⟩) := by rw [Lib.cell_of_heap HGZ.out]; rfl
        have f2 := Lib.frozen_of_heap HGZ.out 2
        have d3 : w4.cell? ⟨w.heap.size, 3, none⟩ = some (.slice none 0 0) := by rw [Lib.cell_of_heap HGZ.out]; rfl
        have f3 := Lib.frozen_of_heap HGZ.out 3
        have d4 : w4.cell? ⟨w.heap.size, 4, none⟩ = some (.slice none 0 0) := by rw [Lib.cell_of_heap HGZ.out]; rfl
        have f4 := Lib.frozen_of_heap HGZ.out 4
        go_wp2_with fail
        have hst := value_stored HGZ.out (.int .i64 3) (.bool false) (.string ⟨t.toArray⟩) (.slice none 0 0) (.slice none 0 0)
        have HRE := Lib.hid (HRZ.out.stored (gv := w.heap.size) (by omega) (.int .i64 3) (.bool false) (.string ⟨t.toArray⟩) (.slice none 0 0) (.slice none 0 0))
        have HBE := Lib.hid (but_stored (gv := w.heap.size) HBZ.out (Nat.le_refl _) (.int .i64 3) (.bool false) (.string ⟨t.toArray⟩) (.slice none 0 0) (.slice none 0 0))
        have HOT := Lib.hid (five_other w4 w.heap.size (.int .i64 3) (.bool false) (.string ⟨t.toArray⟩) (.slice none 0 0) (.slice none 0 0))
        have e0 := Lib.cell_of_heap hst 0
        have e1 := Lib.cell_of_heap hst 1
        have e2 := Lib.cell_of_heap hst 2
        have e3 := Lib.cell_of_heap hst 3
        have e4 := Lib.cell_of_heap hst 4
        simp only [List.getElem?_toArray] at e0 e1 e2 e3 e4
        refine bodyPost_ret (v := .agg #[.int .i64 3, .bool false, .string ⟨t.toArray⟩, .slice none 0 0, .slice none 0 0]) (by simp [results, Try.results44, go_sem, e0, e1, e2, e3, e4]) rfl ?_
        exact ⟨HBE, .inl ⟨_, (jnum t), q, HEY, rfl, Lib.hid (Rep.leaf _ _ 3 false t), HRE⟩⟩
      · have HEY : Hid (valR dd (S.drop p) = .bad n) := Lib.hid (by rw [HE.out, h3]; rfl)
        have HBY := Lib.hid (HB2.out.trans hb3)
        clear h3 hb3 HW
        go_wp2_with fail
        exact ⟨rfl, HBY, .inr ⟨n, a, HEY, rfl⟩⟩
    cases hdg : digB c with
    | true =>
      have HE : Hid (valR dd (S.drop p) = (numberL (S.drop p)).bind fun t r => PR.ok (jnum t) r) := Lib.hid (HV0.out.trans (by rw [if_neg h110]; rw [if_neg h116]; rw [if_neg h102]; rw [if_neg h34]; rw [if_neg h91]; rw [if_neg h123]; rw [if_pos (.inr hdg)]))
      clear HV0
      have t110 : (((c.toNat : Nat) : Int) == 110) = false := by simp only [beq_eq_false_iff_ne, ne_eq]; intro e0; exact h110 (UInt8.toNat_inj.1 (by rw [show (110 : UInt8).toNat = 110 from rfl]; omega))
      have t116 : (((c.toNat : Nat) : Int) == 116) = false := by simp only [beq_eq_false_iff_ne, ne_eq]; intro e0; exact h116 (UInt8.toNat_inj.1 (by rw [show (116 : UInt8).toNat = 116 from rfl]; omega))
      have t102 : (((c.toNat : Nat) : Int) == 102) = false := by simp only [beq_eq_false_iff_ne, ne_eq]; intro e0; exact h102 (UInt8.toNat_inj.1 (by rw [show (102 : UInt8).toNat = 102 from rfl]; omega))
      have t34 : (((c.toNat : Nat) : Int) == 34) = false := by simp only [beq_eq_false_iff_ne, ne_eq]; intro e0; exact h34 (UInt8.toNat_inj.1 (by rw [show (34 : UInt8).toNat = 34 from rfl]; omega))
      have t91 : (((c.toNat : Nat) : Int) == 91) = false := by simp only [beq_eq_false_iff_ne, ne_eq]; intro e0; exact h91 (UInt8.toNat_inj.1 (by rw [show (91 : UInt8).toNat = 91 from rfl]; omega))
      have t123 : (((c.toNat : Nat) : Int) == 123) = false := by simp only [beq_eq_false_iff_ne, ne_eq]; intro e0; exact h123 (UInt8.toNat_inj.1 (by rw [show (123 : UInt8).toNat = 123 from rfl]; omega))
      have t45 : (((c.toNat : Nat) : Int) == 45) = false := by simp only [beq_eq_false_iff_ne, ne_eq]; intro e0; exact h45 (UInt8.toNat_inj.1 (by rw [show (45 : UInt8).toNat = 45 from rfl]; omega))
      clear h110 h116 h102 h34 h91 h123 h45
      go_wp2_with fail
      refine HPK.out.mono ?_
      rintro e w2 ⟨rfl, hr2, hb2⟩
      have HR2 := Lib.hid hr2
      have HB2 := Lib.hid (HB1.out.trans hb2)
      have HG2 := Lib.hid ((hb2.block _ hgrl hgne).trans HG1.out)
      have hs2 : w.heap.size < w2.heap.size := Nat.lt_of_lt_of_le hgrl hb2.size
      have hpl2 := hr2.le
      clear hr2 hb2 HPK
      have HD := Lib.hid (jdigit_any c true w2 hdg)
      go_wp2_with fail
      refine HD.out.mono ?_
      rintro e w3 ⟨rfl, rfl⟩
      have HW := Lib.hid (jnumber_any g S p d o _ HR2.out hl)
      go_wp2_with fail
      refine HW.out.mono ?_
      rintro e w4 ⟨hb3, ⟨t, q, h3, rfl, hr3⟩ | ⟨n, a, h3, rfl⟩⟩
      · have HEY : Hid (valR dd (S.drop p) = .ok (jnum t) (S.drop q)) := Lib.hid (by rw [HE.out, h3]; rfl)
        unfold leafV
        have HRZ := Lib.hid hr3
        have HBZ := Lib.hid (HB2.out.trans hb3)
        have HGZ := Lib.hid ((hb3.block _ hs2 hgne).trans HG2.out)
        clear h3 hb3 hr3 HW
        have d0 : w4.cell? ⟨w.heap.size, 0, none⟩ = some (.int .i64 0) := by rw [Lib.cell_of_heap HGZ.out]; rfl
        have f0 := Lib.frozen_of_heap HGZ.out 0
        have d1 : w4.cell? ⟨w.heap.size, 1, none⟩ = some (.bool false) := by rw [Lib.cell_of_heap HGZ.out]; rfl
        have f1 := Lib.frozen_of_heap HGZ.out 1
        have d2 : w4.cell? ⟨w.heap.size, 2, none⟩ = some (.string ⟨#[]⟩) := by rw [Lib.cell_of_heap HGZ.out]; rfl
        have f2 := Lib.frozen_of_heap HGZ.out 2
        have d3 : w4.cell? ⟨w.heap.size, 3, none⟩ = some (.slice none 0 0) := by rw [Lib.cell_of_heap HGZ.out]; rfl
        have f3 := Lib.frozen_of_heap HGZ.out 3
        have d4 : w4.cell? ⟨w.heap.size, 4, none⟩ = some (.slice none 0 0) := by rw [Lib.cell_of_heap HGZ.out]; rfl
        have f4 := Lib.frozen_of_heap HGZ.out 4
        go_wp2_with fail
        have hst := value_stored HGZ.out (.int .i64 3) (.bool false) (.string ⟨t.toArray⟩) (.slice none 0 0) (.slice none 0 0)
        have HRE := Lib.hid (HRZ.out.stored (gv := w.heap.size) (by omega) (.int .i64 3) (.bool false) (.string ⟨t.toArray⟩) (.slice none 0 0) (.slice none 0 0))
        have HBE := Lib.hid (but_stored (gv := w.heap.size) HBZ.out (Nat.le_refl _) (.int .i64 3) (.bool false) (.string ⟨t.toArray⟩) (.slice none 0 0) (.slice none 0 0))
        have HOT := Lib.hid (five_other w4 w.heap.size (.int .i64 3) (.bool false) (.string ⟨t.toArray⟩) (.slice none 0 0) (.slice none 0 0))
        have e0 := Lib.cell_of_heap hst 0
        have e1 := Lib.cell_of_heap hst 1
        have e2 := Lib.cell_of_heap hst 2
        have e3 := Lib.cell_of_heap hst 3
        have e4 := Lib.cell_of_heap hst 4
        simp only [List.getElem?_toArray] at e0 e1 e2 e3 e4
        refine bodyPost_ret (v := .agg #[.int .i64 3, .bool false, .string ⟨t.toArray⟩, .slice none 0 0, .slice none 0 0]) (by simp [results, Try.results44, go_sem, e0, e1, e2, e3, e4]) rfl ?_
        exact ⟨HBE, .inl ⟨_, (jnum t), q, HEY, rfl, Lib.hid (Rep.leaf _ _ 3 false t), HRE⟩⟩
      · have HEY : Hid (valR dd (S.drop p) = .bad n) := Lib.hid (by rw [HE.out, h3]; rfl)
        have HBY := Lib.hid (HB2.out.trans hb3)
        clear h3 hb3 HW
        go_wp2_with fail
        exact ⟨rfl, HBY, .inr ⟨n, a, HEY, rfl⟩⟩
    | false =>
      have HE : Hid (valR dd (S.drop p) = PR.bad 31) := Lib.hid (HV0.out.trans (by rw [if_neg h110]; rw [if_neg h116]; rw [if_neg h102]; rw [if_neg h34]; rw [if_neg h91]; rw [if_neg h123]; rw [if_neg (by rintro (h | h); exact h45 h; rw [hdg] at h; cases h)]))
      clear HV0
      have t110 : (((c.toNat : Nat) : Int) == 110) = false := by simp only [beq_eq_false_iff_ne, ne_eq]; intro e0; exact h110 (UInt8.toNat_inj.1 (by rw [show (110 : UInt8).toNat = 110 from rfl]; omega))
      have t116 : (((c.toNat : Nat) : Int) == 116) = false := by simp only [beq_eq_false_iff_ne, ne_eq]; intro e0; exact h116 (UInt8.toNat_inj.1 (by rw [show (116 : UInt8).toNat = 116 from rfl]; omega))
      have t102 : (((c.toNat : Nat) : Int) == 102) = false := by simp only [beq_eq_false_iff_ne, ne_eq]; intro e0; exact h102 (UInt8.toNat_inj.1 (by rw [show (102 : UInt8).toNat = 102 from rfl]; omega))
      have t34 : (((c.toNat : Nat) : Int) == 34) = false := by simp only [beq_eq_false_iff_ne, ne_eq]; intro e0; exact h34 (UInt8.toNat_inj.1 (by rw [show (34 : UInt8).toNat = 34 from rfl]; omega))
      have t91 : (((c.toNat : Nat) : Int) == 91) = false := by simp only [beq_eq_false_iff_ne, ne_eq]; intro e0; exact h91 (UInt8.toNat_inj.1 (by rw [show (91 : UInt8).toNat = 91 from rfl]; omega))
      have t123 : (((c.toNat : Nat) : Int) == 123) = false := by simp only [beq_eq_false_iff_ne, ne_eq]; intro e0; exact h123 (UInt8.toNat_inj.1 (by rw [show (123 : UInt8).toNat = 123 from rfl]; omega))
      have t45 : (((c.toNat : Nat) : Int) == 45) = false := by simp only [beq_eq_false_iff_ne, ne_eq]; intro e0; exact h45 (UInt8.toNat_inj.1 (by rw [show (45 : UInt8).toNat = 45 from rfl]; omega))
      clear h110 h116 h102 h34 h91 h123 h45
      go_wp2_with fail
      refine HPK.out.mono ?_
      rintro e w2 ⟨rfl, hr2, hb2⟩
      have HR2 := Lib.hid hr2
      have HB2 := Lib.hid (HB1.out.trans hb2)
      have HG2 := Lib.hid ((hb2.block _ hgrl hgne).trans HG1.out)
      have hs2 : w.heap.size < w2.heap.size := Nat.lt_of_lt_of_le hgrl hb2.size
      have hpl2 := hr2.le
      clear hr2 hb2 HPK
      have HD := Lib.hid (jdigit_any c false w2 hdg)
      go_wp2_with fail
      refine HD.out.mono ?_
      rintro e w3 ⟨rfl, rfl⟩
      go_wp2_with fail
      refine (jstop_any g S p d o _ HR2.out).mono ?_
      rintro e w4 ⟨rfl, rfl⟩
      go_wp2_with fail
      exact ⟨rfl, HB2, .inr ⟨31, p, HE, rfl⟩⟩
end Go.Proofs.Ytfcokdkbjajohaa
/- json's reader: a whole text. -/
set_option linter.unusedVariables false
namespace Go.Proofs.Ytfcokdkbjajohaa
open Go.RowKit

theorem blank_nil {S : List UInt8} {q : Nat} (hq : q ≤ S.length) : S.drop q = [] ↔ ¬ q < S.length := by
  rw [List.drop_eq_nil_iff]
  omega
set_option maxRecDepth 100000 in
set_option maxHeartbeats 16000000 in
theorem jwhole_any (g : Nat) (S : List UInt8) (d : Nat) (w : World) (h : Rdr w g S 0 d 0) (hl : S.length ≤ 1000000) (hd : d ≤ 1000) :
    Calls Try.prog 26 #[.pointer (some ⟨g, 0, none⟩)] w fun e w' => Hid (But g w w') ∧ ((∃ cs v, Hid (wholeR d S = .ok v []) ∧ e = .returned (.agg cs.toArray) ∧ Hid (Rep (w.heap.size ≤ ·) w' cs v)) ∨ ∃ n a, Hid (wholeR d S = .bad n) ∧ e = .panicked (thrown n a)) := by
  have hgl := h.lt
  have HR := Lib.hid h
  have HW : Hid (wholeR d S = (valR d (blankL (S.drop 0))).bind fun v r => if blankL r = [] then .ok v [] else .bad 31) := Lib.hid rfl
  clear h
  go_enter Try.func26, Try.ntmps26
  go_upto_region 1 with (fail)
  have hb1 : Below w.heap.size w (w.alloc (.cells #[.int .i64 0, .bool false, .string ⟨#[]⟩, .slice none 0 0, .slice none 0 0] 28)) := (Below.refl _ _).alloc (Nat.le_refl _) _
  have hg1 := heap_alloc_new w (.cells #[.int .i64 0, .bool false, .string ⟨#[]⟩, .slice none 0 0, .slice none 0 0] 28)
  generalize w.alloc _ = w1 at *
  have HB1 : Hid (But g w w1) := Lib.hid ⟨hb1.os, hb1.tape, hb1.output, hb1.size, fun k hk _ => hb1.block k hk⟩
  have HR1 : Hid (Rdr w1 g S 0 d 0) := Lib.hid ⟨(hb1.block g hgl).trans HR.out.heap, HR.out.le⟩
  have HG1 := Lib.hid hg1
  have hgrl : w.heap.size < w1.heap.size := (Array.getElem?_eq_some_iff.1 hg1).1
  have hgne : w.heap.size ≠ g := by omega
  have HBL := Lib.hid (jblank_any g S 0 d 0 w1 HR1.out hl)
  clear hb1 hg1 HR
  go_wp2_with fail
  refine HBL.out.mono ?_
  rintro e w2 ⟨rfl, q2, hq2, hle2, hr2, hb2⟩
  rw [← hq2] at HW
  have HR2 := Lib.hid hr2
  have HB2 := Lib.hid (HB1.out.trans hb2)
  have HG2 := Lib.hid ((hb2.block _ hgrl hgne).trans HG1.out)
  have hs2 : w.heap.size < w2.heap.size := Nat.lt_of_lt_of_le hgrl hb2.size
  have HVA := Lib.hid (jvalue_any g S d hl hd d 0 (by omega) q2 w2 HR2.out)
  clear hr2 hb2 hq2 HBL HB1 HG1 HR1
  go_wp2_with fail
  refine HVA.out.mono ?_
  rintro e w4 ⟨hb4, ⟨cs, v, q, h4, rfl, hrep, hr4⟩ | ⟨n, a, h4, rfl⟩⟩
  · obtain ⟨ya, yc, ya', yc', _, _, rfl, -⟩ := hrep.out.parts
    unfold strV at *
    have HB4 := Lib.hid (HB2.out.trans hb4.out)
    have hs4 : w.heap.size < w4.heap.size := Nat.lt_of_lt_of_le hs2 hb4.out.size
    have HG4 := Lib.hid ((hb4.out.block _ hs2 hgne).trans HG2.out)
    have HW4 : Hid (wholeR d S = if blankL (S.drop q) = [] then .ok v [] else .bad 31) := Lib.hid (by rw [HW.out, h4.out]; rfl)
    have hg4 := hr4.out.lt
    clear h4 hb4 HB2 HG2 HVA HW
    go_upto_region 3 with (fail)
    have hb5 : Below w4.heap.size w4 (w4.alloc (.cells #[.int .i64 v.kind, .bool v.yes, .string ⟨v.text.toArray⟩, .slice ya v.list.length yc, .slice ya' v.mem.length yc'] 28)) := (Below.refl _ _).alloc (Nat.le_refl _) _
    have hg5 := heap_alloc_new w4 (.cells #[.int .i64 v.kind, .bool v.yes, .string ⟨v.text.toArray⟩, .slice ya v.list.length yc, .slice ya' v.mem.length yc'] 28)
    generalize w4.alloc _ = w5 at *
    have hs5 : w4.heap.size < w5.heap.size := (Array.getElem?_eq_some_iff.1 hg5).1
    have HV5 := Lib.hid hg5
    have HREP5 := Lib.hid (hrep.out.under hb5)
    have HG5 := Lib.hid ((hb5.block _ hs4).trans HG4.out)
    have HR5 : Hid (Rdr w5 g S q d 0) := Lib.hid ⟨(hb5.block g hg4).trans hr4.out.heap, hr4.out.le⟩
    have HB5 : Hid (But g w w5) := Lib.hid (HB4.out.trans ⟨hb5.os, hb5.tape, hb5.output, hb5.size, fun k hk _ => hb5.block k hk⟩)
    have HBL := Lib.hid (jblank_any g S q d 0 w5 HR5.out hl)
    clear hb5 hg5 hrep hr4 HB4 HG4
    go_wp2_with fail
    refine HBL.out.mono ?_
    rintro e w6 ⟨rfl, q6, hq6, hle6, hr6, hb6⟩
    rw [← hq6] at HW4
    have hql := hr6.le
    have HR6 := Lib.hid hr6
    have HB6 := Lib.hid (HB5.out.trans hb6)
    have HG6 := Lib.hid ((hb6.block _ (by omega) hgne).trans HG5.out)
    have HV6 := Lib.hid ((hb6.block _ hs5 (by omega)).trans HV5.out)
    have HREP6 := Lib.hid (HREP5.out.keep fun k hk hlt => hb6.block k hlt (by have := hg4; omega))
    have c0 := hr6.c0
    have c1 := hr6.c1
    have hlen : (ByteArray.mk S.toArray).size = S.length := by simp [ByteArray.size]
    clear hr6 hb6 hq6 HBL HR5 HB5 HG5 HV5 HREP5
    by_cases hlt : q6 < S.length
    · have hdl : decide (((q6 : Nat) : Int) < ((S.length : Nat) : Int)) = true := decide_eq_true (by omega)
      have HE : Hid (wholeR d S = .bad 31) := Lib.hid (by rw [HW4.out, if_neg (fun e => (blank_nil hql).1 e hlt)])
      have HRD : Hid (∀ n, Rdr (w6.drewN n) g S q6 d 0) := Lib.hid fun n => HR6.out.drewN n
      have HBD : Hid (∀ n, But g w (w6.drewN n)) := Lib.hid fun n => HB6.out.drewN n
      clear hdl
      go_wp2_with fail
      go_quiet (fail)
      go_wp2_with fail
      refine (jstop_any g S q6 d 0 _ (HRD.out _)).mono ?_
      rintro e w7 ⟨rfl, rfl⟩
      go_wp2_with fail
      exact ⟨rfl, Lib.hid (HBD.out _), .inr ⟨31, q6, HE, rfl⟩⟩
    · have hdl : decide (((q6 : Nat) : Int) < ((S.length : Nat) : Int)) = false := decide_eq_false (by omega)
      have HE : Hid (wholeR d S = .ok v []) := Lib.hid (by rw [HW4.out, if_pos ((blank_nil hql).2 hlt)])
      have HRD : Hid (∀ n, Rdr (w6.drewN n) g S q6 d 0) := Lib.hid fun n => HR6.out.drewN n
      have HBD : Hid (∀ n, But g w (w6.drewN n)) := Lib.hid fun n => HB6.out.drewN n
      have HGD : Hid (∀ n, (w6.drewN n).heap[w.heap.size]? = some (.cells #[.int .i64 0, .bool false, .string ⟨#[]⟩, .slice none 0 0, .slice none 0 0] 28 (0, 0))) := Lib.hid fun n => HG6.out
      have HVD : Hid (∀ n, (w6.drewN n).heap[w4.heap.size]? = some (.cells #[.int .i64 v.kind, .bool v.yes, .string ⟨v.text.toArray⟩, .slice ya v.list.length yc, .slice ya' v.mem.length yc'] 28 (0, 0))) := Lib.hid fun n => HV6.out
      have HPD : Hid (∀ n, Rep (w2.heap.size ≤ ·) (w6.drewN n) [.int .i64 v.kind, .bool v.yes, .string ⟨v.text.toArray⟩, .slice ya v.list.length yc, .slice ya' v.mem.length yc'] v) := Lib.hid fun n => HREP6.out.keep fun k hk hlt => rfl
      clear hdl
      go_wp2_with fail
      go_quiet (fail)
      have HR8 := Lib.hid (HRD.out nq)
      have HB8 := Lib.hid (HBD.out nq)
      have HG8 := Lib.hid (HGD.out nq)
      have HV8 := Lib.hid (HVD.out nq)
      have HP8 := Lib.hid (HPD.out nq)
      clear HRD HBD HGD HVD HPD c0 c1 HR6 HB6 HG6 HV6 HREP6
      generalize w6.drewN nq = w8 at *
      have d0 : w8.cell? ⟨w.heap.size, 0, none⟩ = some (.int .i64 0) := by rw [Lib.cell_of_heap HG8.out]; rfl
      have f0 := Lib.frozen_of_heap HG8.out 0
      have d1 : w8.cell? ⟨w.heap.size, 1, none⟩ = some (.bool false) := by rw [Lib.cell_of_heap HG8.out]; rfl
      have f1 := Lib.frozen_of_heap HG8.out 1
      have d2 : w8.cell? ⟨w.heap.size, 2, none⟩ = some (.string ⟨#[]⟩) := by rw [Lib.cell_of_heap HG8.out]; rfl
      have f2 := Lib.frozen_of_heap HG8.out 2
      have d3 : w8.cell? ⟨w.heap.size, 3, none⟩ = some (.slice none 0 0) := by rw [Lib.cell_of_heap HG8.out]; rfl
      have f3 := Lib.frozen_of_heap HG8.out 3
      have d4 : w8.cell? ⟨w.heap.size, 4, none⟩ = some (.slice none 0 0) := by rw [Lib.cell_of_heap HG8.out]; rfl
      have f4 := Lib.frozen_of_heap HG8.out 4
      have v0 : w8.cell? ⟨w4.heap.size, 0, none⟩ = some (.int .i64 v.kind) := by rw [Lib.cell_of_heap HV8.out]; rfl
      have v1 : w8.cell? ⟨w4.heap.size, 1, none⟩ = some (.bool v.yes) := by rw [Lib.cell_of_heap HV8.out]; rfl
      have v2 : w8.cell? ⟨w4.heap.size, 2, none⟩ = some (.string ⟨v.text.toArray⟩) := by rw [Lib.cell_of_heap HV8.out]; rfl
      have v3 : w8.cell? ⟨w4.heap.size, 3, none⟩ = some (.slice ya v.list.length yc) := by rw [Lib.cell_of_heap HV8.out]; rfl
      have v4 : w8.cell? ⟨w4.heap.size, 4, none⟩ = some (.slice ya' v.mem.length yc') := by rw [Lib.cell_of_heap HV8.out]; rfl
      go_wp2_with fail
      have hst := value_stored HG8.out (.int .i64 v.kind) (.bool v.yes) (.string ⟨v.text.toArray⟩) (.slice ya v.list.length yc) (.slice ya' v.mem.length yc')
      have HBE := Lib.hid (but_stored (gv := w.heap.size) HB8.out (Nat.le_refl _) (.int .i64 v.kind) (.bool v.yes) (.string ⟨v.text.toArray⟩) (.slice ya v.list.length yc) (.slice ya' v.mem.length yc'))
      have HOT := Lib.hid (five_other w8 w.heap.size (.int .i64 v.kind) (.bool v.yes) (.string ⟨v.text.toArray⟩) (.slice ya v.list.length yc) (.slice ya' v.mem.length yc'))
      have e0 := Lib.cell_of_heap hst 0
      have e1 := Lib.cell_of_heap hst 1
      have e2 := Lib.cell_of_heap hst 2
      have e3 := Lib.cell_of_heap hst 3
      have e4 := Lib.cell_of_heap hst 4
      simp only [List.getElem?_toArray] at e0 e1 e2 e3 e4
      refine bodyPost_ret (v := .agg #[.int .i64 v.kind, .bool v.yes, .string ⟨v.text.toArray⟩, .slice ya v.list.length yc, .slice ya' v.mem.length yc']) (by simp [results, Try.results26, go_sem, e0, e1, e2, e3, e4]) rfl ?_
      exact ⟨HBE, .inl ⟨_, _, HE, rfl, Lib.hid ((HP8.out.keep fun k hk _ => HOT.out k (by omega)).mono fun k hk => by omega)⟩⟩
  · have HE : Hid (wholeR d S = .bad n) := Lib.hid (by rw [HW.out, h4.out]; rfl)
    have HB4 := Lib.hid (HB2.out.trans hb4.out)
    clear h4 hb4 HVA
    go_wp2_with fail
    exact ⟨rfl, HB4, .inr ⟨n, a, HE, rfl⟩⟩
end Go.Proofs.Ytfcokdkbjajohaa
