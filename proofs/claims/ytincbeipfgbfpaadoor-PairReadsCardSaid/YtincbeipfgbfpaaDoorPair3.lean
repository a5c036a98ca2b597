/-
  strings.Cut at a slash, and the amount of a text (pair.Read and the reference's), by contracts.
  Conditions: the listed variables read as listed ('Env'); the text is at most 2^47 bytes long.
-/
import Derived.Test.YtincbeipfgbfpaaDoorPair2
import Derived.Deep.QuietTactic
import Derived.BigQuiet
namespace Go.Proofs.YtincbeipfgbfpaaDoor
open Go Go.RowKit

theorem str_extract (s : ByteArray) (i j : Nat) : s.extract i j = str ((s.data.toList.take j).drop i) := by
  apply ByteArray.ext
  rw [ByteArray.data_extract]
  apply Array.ext'
  simp [str, List.drop_take]
set_option maxHeartbeats 1000000 in
/-- strings.Cut at a slash. -/
theorem scut_yes (s : ByteArray) (i : Nat) (w : World) (hs : s.size ≤ 140737488355328) (h : Lib.indexByte s.data.toList 47 = i) (hi : i < s.size) :
    Calls Tryd.prog 71 #[.string s, .string ⟨#[47]⟩] w fun e w' => e = .returned (.tuple #[.string (str (s.data.toList.take i)), .string (str (s.data.toList.drop (i + 1))), .bool true]) ∧ Below w.heap.size w w' := by
  have HI := Lib.hid (Tryd.stringslite_Index_one s 47 w)
  rw [h] at HI
  have hl : s.data.toList.length = s.size := Array.length_toList
  have hw : IntKind.i64.wrap ((i : Int) + 1) = (i : Int) + 1 := by rw [IntKind.wrap_i64]; omega
  have h0 : (0 : Int) ≤ (i : Int) := by omega
  have h1 : (i : Int) ≤ (s.size : Int) := by omega
  have h2 : (i : Int) + 1 ≤ (s.size : Int) := by omega
  have h3 : (0 : Int) ≤ (i : Int) + 1 := by omega
  have h4 : ((i : Int) + 1).toNat = i + 1 := by omega
  have e1 : s.extract 0 i = str (s.data.toList.take i) := by rw [str_extract]; simp
  have e2 : s.extract (i + 1) s.size = str (s.data.toList.drop (i + 1)) := by rw [str_extract, List.take_of_length_le (by omega)]
  rw [← e1, ← e2]
  have Hi := Lib.hid hi
  clear h e1 e2 hl hs hi
  go_enter Tryd.func71, Tryd.ntmps71
  go_wp2_with fail
  refine HI.out.mono ?_
  rintro e w1 ⟨rfl, rfl⟩
  go_wp2_with fail
  go_quiet (fail)
  go_wp2
  go_ret3
  exact ⟨rfl, (Fr.drewN (Fr.refl _ _) _).below⟩
theorem scut_no (s : ByteArray) (w : World) (h : Lib.indexByte s.data.toList 47 = -1) :
    Calls Tryd.prog 71 #[.string s, .string ⟨#[47]⟩] w fun e w' => e = .returned (.tuple #[.string s, .string ⟨#[]⟩, .bool false]) ∧ Below w.heap.size w w' := by
  have HI := Lib.hid (Tryd.stringslite_Index_one s 47 w)
  rw [h] at HI
  clear h
  go_enter Tryd.func71, Tryd.ntmps71
  go_wp2_with fail
  refine HI.out.mono ?_
  rintro e w1 ⟨rfl, rfl⟩
  go_wp2
  go_ret3
  exact ⟨rfl, Below.refl _ _⟩
theorem cut_yes (s : ByteArray) (i : Nat) (w : World) (hs : s.size ≤ 140737488355328) (h : Lib.indexByte s.data.toList 47 = i) (hi : i < s.size) :
    Calls Tryd.prog 52 #[.string s, .string ⟨#[47]⟩] w fun e w' => e = .returned (.tuple #[.string (str (s.data.toList.take i)), .string (str (s.data.toList.drop (i + 1))), .bool true]) ∧ Below w.heap.size w w' := by
  have HC := Lib.hid (scut_yes s i w hs h hi)
  clear hs h hi
  go_enter Tryd.func52, Tryd.ntmps52
  go_wp2_with fail
  refine HC.out.mono ?_
  rintro e w1 ⟨rfl, b1⟩
  have B1 := Lib.hid b1
  clear HC b1
  go_wp2
  go_ret3
  exact ⟨rfl, B1.out⟩
theorem cut_no (s : ByteArray) (w : World) (h : Lib.indexByte s.data.toList 47 = -1) :
    Calls Tryd.prog 52 #[.string s, .string ⟨#[47]⟩] w fun e w' => e = .returned (.tuple #[.string s, .string ⟨#[]⟩, .bool false]) ∧ Below w.heap.size w w' := by
  have HC := Lib.hid (scut_no s w h)
  clear h
  go_enter Tryd.func52, Tryd.ntmps52
  go_wp2_with fail
  refine HC.out.mono ?_
  rintro e w1 ⟨rfl, b1⟩
  have B1 := Lib.hid b1
  clear HC b1
  go_wp2
  go_ret3
  exact ⟨rfl, B1.out⟩

theorem quiet_left {P : Program} {f : FuncId} {args : Array Value} {w : World} {n : Nat} {v : Value}
    (h : Calls P f args (w.drewN n) fun e w' => e = .returned v ∧ w.drewN n = w') : Calls P f args (w.drewN n) fun e w'' => e = .returned v ∧ ∃ m, w'' = w.drewN m :=
  h.mono fun _ _ ⟨he, hm⟩ => ⟨he, n, hm.symm⟩

/-- Is g what a text is the amount of? -/
def Is (s : List UInt8) : Option (Nat × Nat) → Prop
  | some (a, b) => PK.Good s a b
  | none => ∀ a b, ¬ PK.Good s a b
theorem is_some (s : List UInt8) : ∃ g, Is s g := by
  by_cases h : ∃ a b, PK.Good s a b
  · obtain ⟨a, b, h⟩ := h; exact ⟨some (a, b), h⟩
  · exact ⟨none, fun a b hh => h ⟨a, b, hh⟩⟩
/-- What the reference answers. -/
def rV : Option (Nat × Nat) → Value
  | some (a, b) => .tuple #[.complex .f64 (FL.fB a) (FL.fB b), .int .i64 0]
  | none => .tuple #[.complex .f64 0 0, .int .i64 3]
set_option maxHeartbeats 2000000 in
/-- The reference's Read. -/
theorem rread_any (s : ByteArray) (g : Option (Nat × Nat)) (w : World) (hs : s.size ≤ 140737488355328) (hg : Is s.data.toList g) :
    Calls Tryd.prog 26 #[.string s] w fun e w' => e = .returned (rV g) ∧ Below w.heap.size w w' := by
  have hl : s.data.toList.length = s.size := Array.length_toList
  have Hg := Lib.hid hg
  have Hl := Lib.hid hl
  have hs' : (s.size : Int) ≤ 140737488355328 := by omega
  clear hg hl hs
  go_enter Tryd.func26, Tryd.ntmps26
  go_wp2
  go_loop [4] (fun i => ∃ k : Nat, k ≤ s.size ∧ k ≤ 20 ∧ i = .int .i64 k ∧ Hid (∀ c ∈ s.data.toList.take k, c ≠ 47)) (fun i => s.size - (intOf i).toNat)
  case atStart => exact ⟨0, Nat.zero_le _, by omega, rfl, fun c hc => by simp at hc⟩
  case round =>
    obtain ⟨k, hk, hk20, rfl, Hn⟩ := hrel
    have none : (k = 20 ∨ k = s.size) → g = none := by
      intro hke
      cases g with
      | none => rfl
      | some p =>
        obtain ⟨a, b⟩ := p
        obtain ⟨h1, h2⟩ := PK.good_slash (s := s.data.toList) (a := a) (b := b) Hg.out
        exfalso
        refine Hn.out 47 (List.mem_of_getElem? (i := (Lib.decDigits a).length) ?_) rfl
        have hlt := (List.getElem?_eq_some_iff.1 h1).1
        rw [List.getElem?_take, if_pos (by have := Hl.out; omega)]
        exact h1
    have Hnone := Lib.hid none
    clear none
    by_cases hlt : k < s.size
    · by_cases h20 : k < 20
      · by_cases h47 : s[k] = 47
        · have hx : (((s[k]).toNat : Int) != 47) = false := by rw [h47]; rfl
          have hget : s.data.toList[k]? = some 47 := by rw [list_get s k hlt, h47]
          have e1 : (s.extract 0 k).data.toList = s.data.toList.take k := by rw [str_extract]; simp [str_list]
          have e2 : (s.extract (k + 1) s.size).data.toList = s.data.toList.drop (k + 1) := by rw [str_extract, List.take_of_length_le (by have := Hl.out; omega), str_list]
          have hN1 := rnumber_any (s.extract 0 k)
          have hN2 := rnumber_any (s.extract (k + 1) s.size)
          rw [e1] at hN1
          rw [e2] at hN2
          have h1 : (0 : Int) ≤ (k : Int) := by omega
          have h2 : (k : Int) ≤ (s.size : Int) := by omega
          have h3 : (k : Int) + 1 ≤ (s.size : Int) := by omega
          have h4 : (0 : Int) ≤ (k : Int) + 1 := by omega
          have h5 : IntKind.i64.wrap ((k : Int) + 1) = (k : Int) + 1 := by rw [IntKind.wrap_i64]; omega
          have h6 : ((k : Int) + 1).toNat = k + 1 := by omega
          cases g with
          | some p =>
            obtain ⟨a, b⟩ := p
            have hgd : PK.Good s.data.toList a b := Hg.out
            obtain ⟨n1, n2⟩ := PK.good_num hgd hget Hn.out
            rw [n1] at hN1
            rw [n2] at hN2
            have HN1 := Lib.hid hN1
            have HN2 := Lib.hid hN2
            have HO := Lib.hid (fun w => rof_yes a b w hgd.2.1 hgd.2.2)
            clear hN1 hN2 n1 n2 hgd e1 e2 hget h47 Hnone
            go_wp2_with fail
            go_quiet ((first
              | (go_at_call 55; with_reducible exact quiet_left (HN1.out _))
              | (go_at_call 55; with_reducible exact quiet_left (HN2.out _))
              | (go_at_call 54; with_reducible exact quiet_left (HO.out _))))
            go_wp2
            go_ret2
            exact ⟨rfl, (Fr.drewN (Fr.refl _ _) _).below⟩
          | none =>
            have hbad : PK.Bad (PK.numR (s.data.toList.take k)) (PK.numR (s.data.toList.drop (k + 1))) := by
              by_cases h : PK.Bad (PK.numR (s.data.toList.take k)) (PK.numR (s.data.toList.drop (k + 1)))
              · exact h
              · exact absurd (PK.good_of hget h) (Hg.out _ _)
            have HN1 := Lib.hid hN1
            have HN2 := Lib.hid hN2
            have HO := Lib.hid (fun w => rof_no _ _ w hbad)
            clear hN1 hN2 hbad e1 e2 hget h47 Hnone
            generalize PK.numR (s.data.toList.take k) = n1 at *
            generalize PK.numR (s.data.toList.drop (k + 1)) = n2 at *
            go_wp2_with fail
            go_quiet ((first
              | (go_at_call 55; with_reducible exact quiet_left (HN1.out _))
              | (go_at_call 55; with_reducible exact quiet_left (HN2.out _))
              | (go_at_call 54; with_reducible exact quiet_left (HO.out _))))
            go_wp2
            go_ret2
            exact ⟨rfl, (Fr.drewN (Fr.refl _ _) _).below⟩
        · have hx : (((s[k]).toNat : Int) != 47) = true := by
            rw [bne_iff_ne]
            intro e
            exact h47 (UInt8.toNat_inj.1 (by show (s[k]).toNat = 47; omega))
          have Hn2 : Hid (∀ c ∈ s.data.toList.take (k + 1), c ≠ 47) := by
            rw [take_get s k hlt]
            intro c hc
            rcases List.mem_append.1 hc with hc | hc
            · exact Hn.out c hc
            · rw [List.mem_singleton.1 hc]; exact h47
          clear h47 Hn Hnone
          go_wp2
          go_round
          case rel => exact ⟨k + 1, by omega, by omega, by go_num, Hn2.out⟩
          case measure => simp [intOf]; omega
      · obtain rfl : k = 20 := by omega
        obtain rfl := Hnone.out (.inl rfl)
        have h1 : (20 : Int) < (s.size : Int) := by omega
        clear Hnone
        go_wp2
        go_ret2
        exact ⟨rfl, Below.refl _ _⟩
    · obtain rfl := Hnone.out (.inr (by omega))
      clear Hnone
      go_wp2
      go_ret2
      exact ⟨rfl, Below.refl _ _⟩
end Go.Proofs.YtincbeipfgbfpaaDoor
