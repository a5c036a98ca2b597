/-
  pair.Read, and tollbarlaw05's num, same and sure, by contracts.
  Conditions: the listed variables read as listed ('Env'); the text is at most 2^47 bytes long.
-/
import Derived.Test.YtincbeipfgbfpaaDoorPair3
namespace Go.Proofs.YtincbeipfgbfpaaDoor
open Go Go.RowKit

theorem atoi_ok' (l : List UInt8) (w : World) (v : Int) (hlen : l.length ≤ 140737488355328) (h : Lib.atoiAll l = .ok v) :
    Calls Tryd.prog 38 #[.string (str l)] w fun e w' => e = .returned (.tuple #[.int .i64 v, .nilIface]) ∧ Below w.heap.size w w' := by
  refine (Tryd.strconv_Atoi_ok (str l) (by rw [str_size]; omega) v h w).mono ?_
  rintro e w' ⟨rfl, h | ⟨t, h⟩⟩
  · subst h; exact ⟨rfl, Below.refl _ _⟩
  · subst h; exact ⟨rfl, Lib.bytesWorld_below _ _ _⟩
theorem atoi_dec (a : Nat) (h : a ≤ 1099511627776) : Lib.atoiAll (Lib.decDigits a) = .ok (a : Int) := by
  rw [PK.atoi_pos _ (PK.dec_all a) (PK.dec_ne a) (by rw [PK.dec_val]; omega), PK.dec_val, if_neg (by omega)]
theorem atoi_nil : ∀ v, Lib.atoiAll [] ≠ .ok v := by
  intro v h
  have : Lib.atoiAll [] = .«syntax» := by decide
  rw [this] at h
  cases h
/-- What pair.Read answers. -/
def pV : Option (Nat × Nat) → Value
  | some (a, b) => .tuple #[.complex .f64 (FL.fB a) (FL.fB b), .nilIface]
  | none => .tuple #[.complex .f64 0 0, .iface 75 (.int .i64 3)]
/-- An Atoi that fails, or answers. -/
def AtV (w w' : World) (e : Ending) (r : Option Int) : Prop := (match r with
  | some v => e = .returned (.tuple #[.int .i64 v, .nilIface])
  | none => ∃ u : Int, ∃ t x, e = .returned (.tuple #[.int .i64 u, .iface t x])) ∧ Below w.heap.size w w'
theorem atoi_any (l : List UInt8) (hlen : l.length ≤ 140737488355328) : ∃ r : Option Int, (∀ v, r = some v → Lib.atoiAll l = .ok v) ∧ (r = none → ∀ v, Lib.atoiAll l ≠ .ok v) ∧
    ∀ w, Env w → Calls Tryd.prog 38 #[.string (str l)] w fun e w' => AtV w w' e r := by
  cases h : Lib.atoiAll l with
  | ok v => exact ⟨some v, fun x hx => by rw [Option.some.inj hx], (fun hx => by cases hx), fun w _ => atoi_ok' l w v hlen h⟩
  | «syntax» => exact ⟨none, (fun x hx => by cases hx), (fun _ v hv => by cases hv), fun w hE => atoi_no l w hE (by omega) (fun v hv => by rw [h] at hv; cases hv)⟩
  | range => exact ⟨none, (fun x hx => by cases hx), (fun _ v hv => by cases hv), fun w hE => atoi_no l w hE (by omega) (fun v hv => by rw [h] at hv; cases hv)⟩

set_option maxRecDepth 100000 in
set_option maxHeartbeats 4000000 in
/-- pair.Read behind Cut. -/
theorem pread_any (s : ByteArray) (g : Option (Nat × Nat)) (w : World) (hE : Env w) (hs : s.size ≤ 140737488355328) (hg : Is s.data.toList g) :
    Calls Tryd.prog 25 #[.string s] w fun e w' => e = .returned (pV g) ∧ Below w.heap.size w w' := by
  have hl : s.data.toList.length = s.size := Array.length_toList
  -- what Cut gives: x, y
  obtain ⟨x, y, bb, hxl, hyl, HC, hno, hyes⟩ : ∃ (x y : List UInt8) (bb : Bool), x.length ≤ 140737488355328 ∧ y.length ≤ 140737488355328 ∧
      (Calls Tryd.prog 52 #[.string s, .string ⟨#[47]⟩] w fun e w' => e = .returned (.tuple #[.string (str x), .string (str y), .bool bb]) ∧ Below w.heap.size w w') ∧
      (y = [] → g = none) ∧ (∀ a b, g = some (a, b) → x = Lib.decDigits a ∧ y = Lib.decDigits b) := by
    rcases PK.split47 s.data.toList with ⟨h, hn⟩ | ⟨i, h, hi, h47, ht⟩
    · have hgn : g = none := by
        cases g with
        | none => rfl
        | some p =>
          obtain ⟨a, b⟩ := p
          obtain ⟨h1, _⟩ := PK.good_slash (s := s.data.toList) (a := a) (b := b) hg
          exact absurd rfl (hn 47 (List.mem_of_getElem? h1))
      refine ⟨s.data.toList, [], false, by omega, by simp, ?_, fun _ => hgn, fun a b e => by rw [hgn] at e; cases e⟩
      rw [str_of]
      exact cut_no s w h
    · have hyes : ∀ a b, g = some (a, b) → s.data.toList.take i = Lib.decDigits a ∧ s.data.toList.drop (i + 1) = Lib.decDigits b := by
        rintro a b rfl
        have hgd : PK.Good s.data.toList a b := hg
        obtain ⟨_, h1, h2⟩ := PK.first_unique hgd.1 (PK.not47 a) h47 ht
        exact ⟨h1, h2⟩
      refine ⟨s.data.toList.take i, s.data.toList.drop (i + 1), true, by simp; omega, by simp; omega, cut_yes s i w hs h (by omega), ?_, hyes⟩
      intro e
      cases g with
      | none => rfl
      | some p =>
        obtain ⟨a, b⟩ := p
        have := (hyes a b rfl).2
        rw [e] at this
        exact absurd this.symm (PK.dec_ne b)
  obtain ⟨rx, hx1, hx2, HX⟩ := atoi_any x hxl
  obtain ⟨ry, hy1, hy2, HY⟩ := atoi_any y hyl
  have hrx : ∀ a b, g = some (a, b) → rx = some (a : Int) ∧ ry = some (b : Int) := by
    intro a b e
    subst e
    have hgd : PK.Good s.data.toList a b := hg
    obtain ⟨e1, e2⟩ := hyes a b rfl
    constructor
    · cases rx with
      | none => exact absurd (by rw [e1]; exact atoi_dec a hgd.2.1) (hx2 rfl (a : Int))
      | some v => have := hx1 v rfl; rw [e1, atoi_dec a hgd.2.1] at this; cases this; rfl
    · cases ry with
      | none => exact absurd (by rw [e2]; exact atoi_dec b hgd.2.2) (hy2 rfl (b : Int))
      | some v => have := hy1 v rfl; rw [e2, atoi_dec b hgd.2.2] at this; cases this; rfl
  have HCh := Lib.hid HC
  have HXh := Lib.hid HX
  have HYh := Lib.hid HY
  have HE := Lib.hid hE
  have Hg := Lib.hid hg
  have Hrx := Lib.hid hrx
  clear HC HX HY hE hg hrx hx1 hx2 hy1 hy2 hno hyes hxl hyl hl hs
  generalize str x = sx at *
  generalize str y = sy at *
  cases rx with
  | none =>
    obtain rfl : g = none := by
      cases g with
      | none => rfl
      | some p => obtain ⟨a, b⟩ := p; cases (Hrx.out a b rfl).1
    go_enter Tryd.func25, Tryd.ntmps25
    go_wp2_with fail
    refine HCh.out.mono ?_
    rintro e w1 ⟨rfl, b1⟩
    have B1 := Lib.hid b1
    clear HCh b1
    go_wp2_with fail
    refine (HXh.out w1 (HE.out.below B1.out)).mono ?_
    rintro e w2 ⟨⟨u, t, v, rfl⟩, b2⟩
    have B2 := Lib.hid (B1.out.trans (b2.mono B1.out.size))
    clear b2
    go_wp2
    go_ret2
    exact ⟨rfl, B2.out⟩
  | some va =>
    cases ry with
    | none =>
      obtain rfl : g = none := by
        cases g with
        | none => rfl
        | some p => obtain ⟨a, b⟩ := p; cases (Hrx.out a b rfl).2
      go_enter Tryd.func25, Tryd.ntmps25
      go_wp2_with fail
      refine HCh.out.mono ?_
      rintro e w1 ⟨rfl, b1⟩
      have B1 := Lib.hid b1
      clear HCh b1
      go_wp2_with fail
      refine (HXh.out w1 (HE.out.below B1.out)).mono ?_
      rintro e w2 ⟨rfl, b2⟩
      have B2 := Lib.hid (B1.out.trans (b2.mono B1.out.size))
      clear b2
      go_wp2_with fail
      refine (HYh.out w2 (HE.out.below B2.out)).mono ?_
      rintro e w3 ⟨⟨u, t, v, rfl⟩, b3⟩
      have B3 := Lib.hid (B2.out.trans (b3.mono B2.out.size))
      clear b3
      go_wp2
      go_ret2
      exact ⟨rfl, B3.out⟩
    | some vb =>
      by_cases hbad : PK.Bad va vb
      · obtain rfl : g = none := by
          cases g with
          | none => rfl
          | some p =>
            obtain ⟨a, b⟩ := p
            obtain ⟨e1, e2⟩ := Hrx.out a b rfl
            cases e1; cases e2
            have hgd : PK.Good s.data.toList a b := Hg.out
            have := hgd.2
            unfold PK.Bad at hbad
            omega
        have HO := Lib.hid (fun w => of_no va vb w hbad)
        clear hbad
        go_enter Tryd.func25, Tryd.ntmps25
        go_wp2_with fail
        refine HCh.out.mono ?_
        rintro e w1 ⟨rfl, b1⟩
        have B1 := Lib.hid b1
        clear HCh b1
        go_wp2_with fail
        refine (HXh.out w1 (HE.out.below B1.out)).mono ?_
        rintro e w2 ⟨rfl, b2⟩
        have B2 := Lib.hid (B1.out.trans (b2.mono B1.out.size))
        clear b2
        go_wp2_with fail
        refine (HYh.out w2 (HE.out.below B2.out)).mono ?_
        rintro e w3 ⟨rfl, b3⟩
        have B3 := Lib.hid (B2.out.trans (b3.mono B2.out.size))
        clear b3
        go_wp2_with fail
        refine (HO.out w3).mono ?_
        rintro e w4 ⟨rfl, rfl⟩
        clear HO
        go_wp2
        go_ret2
        exact ⟨rfl, B3.out⟩
      · obtain ⟨a, b, rfl, rfl, ha, hb⟩ : ∃ a b : Nat, va = (a : Int) ∧ vb = (b : Int) ∧ a ≤ 1099511627776 ∧ b ≤ 1099511627776 := by
          unfold PK.Bad at hbad
          exact ⟨va.toNat, vb.toNat, by omega, by omega, by omega, by omega⟩
        have HO := Lib.hid (fun w => of_yes a b w ha hb)
        have HS := Lib.hid (fun w (h : Env w) => show_any a b w ha hb h)
        have heq : (g = some (a, b) ∧ str (Lib.decDigits a ++ 47 :: Lib.decDigits b) = s) ∨ (g = none ∧ str (Lib.decDigits a ++ 47 :: Lib.decDigits b) ≠ s) := by
          cases g with
          | some p =>
            obtain ⟨a', b'⟩ := p
            obtain ⟨e1, e2⟩ := Hrx.out a' b' rfl
            obtain rfl : a = a' := by have := Option.some.inj e1; omega
            obtain rfl : b = b' := by have := Option.some.inj e2; omega
            have hgd : PK.Good s.data.toList a b := Hg.out
            exact .inl ⟨rfl, by rw [← hgd.1, str_of]⟩
          | none =>
            refine .inr ⟨rfl, ?_⟩
            intro e
            refine Hg.out a b ⟨?_, ha, hb⟩
            rw [← e, str_list]
        have HQ := Lib.hid heq
        clear hbad ha hb heq
        go_enter Tryd.func25, Tryd.ntmps25
        go_wp2_with fail
        refine HCh.out.mono ?_
        rintro e w1 ⟨rfl, b1⟩
        have B1 := Lib.hid b1
        clear HCh b1
        go_wp2_with fail
        refine (HXh.out w1 (HE.out.below B1.out)).mono ?_
        rintro e w2 ⟨rfl, b2⟩
        have B2 := Lib.hid (B1.out.trans (b2.mono B1.out.size))
        clear b2
        go_wp2_with fail
        refine (HYh.out w2 (HE.out.below B2.out)).mono ?_
        rintro e w3 ⟨rfl, b3⟩
        have B3 := Lib.hid (B2.out.trans (b3.mono B2.out.size))
        clear b3
        go_wp2_with fail
        refine (HO.out w3).mono ?_
        rintro e w4 ⟨rfl, rfl⟩
        clear HO
        go_wp2_with fail
        refine (HS.out w3 (HE.out.below B3.out)).mono ?_
        rintro e w4 ⟨rfl, b4⟩
        have B4 := Lib.hid (B3.out.trans (b4.mono B3.out.size))
        clear HS b4
        go_wp2
        · rename_i hne
          have hg : g = none := by
            rcases HQ.out with ⟨_, h⟩ | ⟨h, _⟩
            · rw [h] at hne; simp at hne
            · exact h
          subst hg
          go_ret2
          exact ⟨rfl, B4.out⟩
        · rename_i hne
          have hg : g = some (a, b) := by
            rcases HQ.out with ⟨h, _⟩ | ⟨_, h⟩
            · exact h
            · exfalso
              apply h
              apply ByteArray.ext
              apply Array.ext'
              rw [← ByteArray.toList_eq, ← ByteArray.toList_eq]
              simpa using hne
          subst hg
          go_ret2
          exact ⟨rfl, B4.out⟩

set_option maxHeartbeats 1000000 in
/-- num: an error's number. -/
theorem num5_any (k : Nat) (w : World) (hE : Env w) :
    Calls Tryd.prog 56 #[errV k] w fun e w' => e = .returned (.int .i64 k) ∧ Below w.heap.size w w' := by
  cases k with
  | zero =>
    clear hE
    unfold errV
    go_enter Tryd.func56, Tryd.ntmps56
    go_wp2
    go_ret
    exact ⟨rfl, (Below.refl _ _).alloc (Nat.le_refl _) _⟩
  | succ n =>
    have hlt : 0 < w.heap.size := Nat.lt_of_le_of_lt (Nat.zero_le _) hE.big
    have hit := fun w0 : World => as_hit ((n : Int) + 1) ⟨w.heap.size, 0, none⟩ (.int .i64 0) (w.alloc (.cells #[.int .i64 0] 75)) (by rw [World.cell?_alloc_lt _ _ _ hlt]; exact hE.et) (by simp) (by simp)
    have Hit := Lib.hid hit
    clear hit hE
    unfold errV
    go_enter Tryd.func56, Tryd.ntmps56
    go_wp2_with fail
    refine (Hit.out w).mono ?_
    rintro e w' ⟨rfl, rfl⟩
    go_wp2
    go_ret
    refine ⟨by simp, ?_⟩
    go_grown

/-- same, where both are one amount, or none. -/
theorem same_yes (a b : Nat) (w : World) (hE : Env w) (ha : a ≤ 1099511627776) (hb : b ≤ 1099511627776) :
    Calls Tryd.prog 27 #[.complex .f64 (FL.fB a) (FL.fB b), .nilIface, .complex .f64 (FL.fB a) (FL.fB b), .int .i64 0] w fun e w' => e = .returned (.bool true) ∧ Below w.heap.size w w' := by
  have HN : Hid (Calls Tryd.prog 56 #[.nilIface] w fun e w' => e = .returned (.int .i64 0) ∧ Below w.heap.size w w') := num5_any 0 w hE
  have h1 := ord_self a ha
  have h2 := ord_self b hb
  clear ha hb hE
  generalize FL.fB a = x at *
  generalize FL.fB b = y at *
  go_enter Tryd.func27, Tryd.ntmps27
  go_wp2_with fail
  refine HN.out.mono ?_
  rintro e w1 ⟨rfl, b1⟩
  have B1 := Lib.hid b1
  clear HN b1
  go_wp2
  go_ret
  exact ⟨rfl, B1.out⟩
theorem ord_zero : (FloatKind.f64.format.order 0 0 == some .eq) = true := by decide +kernel
theorem same_no (w : World) (hE : Env w) :
    Calls Tryd.prog 27 #[.complex .f64 0 0, .iface 75 (.int .i64 3), .complex .f64 0 0, .int .i64 3] w fun e w' => e = .returned (.bool true) ∧ Below w.heap.size w w' := by
  have HN : Hid (Calls Tryd.prog 56 #[.iface 75 (.int .i64 3)] w fun e w' => e = .returned (.int .i64 3) ∧ Below w.heap.size w w') := num5_any 3 w hE
  have h1 := ord_zero
  clear hE
  go_enter Tryd.func27, Tryd.ntmps27
  go_wp2_with fail
  refine HN.out.mono ?_
  rintro e w1 ⟨rfl, b1⟩
  have B1 := Lib.hid b1
  clear HN b1
  go_wp2
  go_ret
  exact ⟨rfl, B1.out⟩
end Go.Proofs.YtincbeipfgbfpaaDoor
