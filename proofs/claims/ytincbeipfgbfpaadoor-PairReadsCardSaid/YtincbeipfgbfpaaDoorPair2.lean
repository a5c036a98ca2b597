/-
  The amount of two numbers (pair.Of and the reference's), and what the reference takes a text for, by contracts.
  No condition.
-/
import Derived.Test.YtincbeipfgbfpaaDoorPair
namespace Go.Proofs.YtincbeipfgbfpaaDoor
open Go Go.RowKit

/-- pair.Of at an amount's numbers. -/
theorem of_yes (a b : Nat) (w : World) (ha : a ≤ 1099511627776) (hb : b ≤ 1099511627776) :
    Calls Tryd.prog 53 #[.int .i64 a, .int .i64 b] w fun e w' => e = .returned (.tuple #[.complex .f64 (FL.fB a) (FL.fB b), .nilIface]) ∧ w = w' := by
  have h1 : ¬ ((a : Int) < 0) := by omega
  have h2 : ¬ ((b : Int) < 0) := by omega
  have h3 : ¬ ((1099511627776 : Int) < a) := by omega
  have h4 : ¬ ((1099511627776 : Int) < b) := by omega
  clear ha hb
  go_enter Tryd.func53, Tryd.ntmps53
  go_wp2
  go_ret2
  exact ⟨rfl, rfl⟩
theorem rof_yes (a b : Nat) (w : World) (ha : a ≤ 1099511627776) (hb : b ≤ 1099511627776) :
    Calls Tryd.prog 54 #[.int .i64 a, .int .i64 b] w fun e w' => e = .returned (.tuple #[.complex .f64 (FL.fB a) (FL.fB b), .int .i64 0]) ∧ w = w' := by
  have h1 : ¬ ((a : Int) < 0) := by omega
  have h2 : ¬ ((b : Int) < 0) := by omega
  have h3 : ¬ ((1099511627776 : Int) < a) := by omega
  have h4 : ¬ ((1099511627776 : Int) < b) := by omega
  clear ha hb
  go_enter Tryd.func54, Tryd.ntmps54
  go_wp2
  go_ret2
  exact ⟨rfl, rfl⟩
theorem of_no (a b : Int) (w : World) (h : PK.Bad a b) :
    Calls Tryd.prog 53 #[.int .i64 a, .int .i64 b] w fun e w' => e = .returned (.tuple #[.complex .f64 0 0, .iface 75 (.int .i64 1)]) ∧ w = w' := by
  have H := Lib.hid h
  clear h
  by_cases h1 : a < 0
  · go_enter Tryd.func53, Tryd.ntmps53
    go_wp2
    go_ret2
    exact ⟨rfl, rfl⟩
  · by_cases h2 : b < 0
    · go_enter Tryd.func53, Tryd.ntmps53
      go_wp2
      go_ret2
      exact ⟨rfl, rfl⟩
    · by_cases h3 : 1099511627776 < a
      · go_enter Tryd.func53, Tryd.ntmps53
        go_wp2
        go_ret2
        exact ⟨rfl, rfl⟩
      · have h4 : 1099511627776 < b := by rcases H.out with h | h | h | h <;> omega
        go_enter Tryd.func53, Tryd.ntmps53
        go_wp2
        go_ret2
        exact ⟨rfl, rfl⟩
theorem rof_no (a b : Int) (w : World) (h : PK.Bad a b) :
    Calls Tryd.prog 54 #[.int .i64 a, .int .i64 b] w fun e w' => e = .returned (.tuple #[.complex .f64 0 0, .int .i64 1]) ∧ w = w' := by
  have H := Lib.hid h
  clear h
  by_cases h1 : a < 0
  · go_enter Tryd.func54, Tryd.ntmps54
    go_wp2
    go_ret2
    exact ⟨rfl, rfl⟩
  · by_cases h3 : 1099511627776 < a
    · go_enter Tryd.func54, Tryd.ntmps54
      go_wp2
      go_ret2
      exact ⟨rfl, rfl⟩
    · by_cases h2 : b < 0
      · go_enter Tryd.func54, Tryd.ntmps54
        go_wp2
        go_ret2
        exact ⟨rfl, rfl⟩
      · have h4 : 1099511627776 < b := by rcases H.out with h | h | h | h <;> omega
        go_enter Tryd.func54, Tryd.ntmps54
        go_wp2
        go_ret2
        exact ⟨rfl, rfl⟩

theorem list_get (s : ByteArray) (k : Nat) (h : k < s.size) : s.data.toList[k]? = some s[k] := by
  have hl : s.data.toList.length = s.size := Array.length_toList
  rw [List.getElem?_eq_getElem (by omega)]
  rfl
theorem take_get (s : ByteArray) (k : Nat) (h : k < s.size) : s.data.toList.take (k + 1) = s.data.toList.take k ++ [s[k]] := by
  have hl : s.data.toList.length = s.size := Array.length_toList
  rw [List.take_succ_eq_append_getElem (by omega)]
  rfl
set_option maxHeartbeats 1000000 in
/-- The reference's number of a text. -/
theorem rnumber_any (s : ByteArray) (w : World) :
    Calls Tryd.prog 55 #[.string s] w fun e w' => e = .returned (.int .i64 (PK.numR s.data.toList)) ∧ w = w' := by
  have hl : s.data.toList.length = s.size := Array.length_toList
  by_cases h0 : s.size = 0
  · have hn : PK.numR s.data.toList = -1 := by
      unfold PK.numR
      rw [if_pos (.inl (List.eq_nil_of_length_eq_zero (by omega)))]
    have he0 : s.toList = [] := by rw [ByteArray.toList_eq]; exact List.eq_nil_of_length_eq_zero (by omega)
    have he : s.toList.isEmpty = true := by rw [he0]; rfl
    have Hn := Lib.hid hn
    clear hn hl h0
    go_enter Tryd.func55, Tryd.ntmps55
    go_wp2
    go_ret
    exact ⟨by rw [Hn.out]; rfl, rfl⟩
  · have he : s.toList.isEmpty = false := by
      rw [ByteArray.toList_eq]
      cases hd : s.data.toList with
      | nil => rw [hd] at hl; simp at hl; omega
      | cons c r => rfl
    have hp : 0 < s.size := by omega
    have hh : s.data.toList.head? = some s[0] := by
      have := list_get s 0 hp
      rw [List.head?_eq_getElem?]; exact this
    by_cases h13 : 13 < s.size
    · have hn : PK.numR s.data.toList = -1 := by
        unfold PK.numR
        rw [if_pos (.inr (.inl (by omega)))]
      have h13' : (13 : Int) < (s.size : Int) := by omega
      have Hn := Lib.hid hn
      clear hn hl h0 h13 hh
      go_enter Tryd.func55, Tryd.ntmps55
      go_wp2
      go_ret
      exact ⟨by rw [Hn.out]; rfl, rfl⟩
    · have h13' : ¬ ((13 : Int) < (s.size : Int)) := by omega
      have h13s : s.size ≤ 13 := by omega
      have Hl := Lib.hid hl
      by_cases h1 : 1 < s.size
      · have h1' : (1 : Int) < (s.size : Int) := by omega
        by_cases h48 : s[0] = 48
        · have hn : PK.numR s.data.toList = -1 := by
            unfold PK.numR
            rw [if_pos (.inr (.inr (.inl ⟨by omega, by rw [hh, h48]⟩)))]
          have hx : (((s[0]).toNat : Int) == 48) = true := by rw [h48]; rfl
          have Hn := Lib.hid hn
          clear hn hl h0 h13 hh h48
          go_enter Tryd.func55, Tryd.ntmps55
          go_wp2
          go_ret
          exact ⟨by rw [Hn.out]; rfl, rfl⟩
        · have Hf : Hid (¬ (1 < s.data.toList.length ∧ s.data.toList.head? = some 48)) := Lib.hid (by
            rintro ⟨_, h⟩
            rw [hh] at h
            exact h48 (Option.some.inj h))
          have hx : (((s[0]).toNat : Int) == 48) = false := by
            rw [beq_eq_false_iff_ne]
            intro e
            exact h48 (UInt8.toNat_inj.1 (by show (s[0]).toNat = 48; omega))
          clear hl h0 h13 hh h48
          go_enter Tryd.func55, Tryd.ntmps55
          go_wp2
          go_loop [3, 4] (fun v i => ∃ k : Nat, k ≤ s.size ∧ i = .int .i64 k ∧ v = .int .i64 (PK.dval 0 (s.data.toList.take k)) ∧ Hid (∀ c ∈ s.data.toList.take k, PK.isD c = true)) (fun _ i => s.size - (intOf i).toNat)
          case atStart => exact ⟨0, Nat.zero_le _, rfl, rfl, fun c hc => by simp at hc⟩
          case round =>
            obtain ⟨k, hk, rfl, rfl, Hd⟩ := hrel
            by_cases hlt : k < s.size
            · have hks := take_get s k hlt
              have hb : PK.dval 0 (s.data.toList.take k) < 10000000000000 := by
                have h1 := PK.dval_lt_pow (s.data.toList.take k) 0 Hd.out
                have h2 : (s.data.toList.take k).length ≤ 13 := by have := List.length_take_le k s.data.toList; omega
                have h3 : 10 ^ (s.data.toList.take k).length ≤ 10 ^ 13 := Nat.pow_le_pow_right (by decide) h2
                have e : (10 : Nat) ^ 13 = 10000000000000 := by decide
                omega
              have hx0 := (s[k]).toNat_lt
              have Hks := Lib.hid hks
              by_cases hdig : PK.isD s[k] = true
              · have hdb := (PK.isD_iff _).1 hdig
                have hd1 : ¬ (((s[k]).toNat : Int) < 48) := by omega
                have hd2 : ¬ ((57 : Int) < ((s[k]).toNat : Int)) := by omega
                have hd3 : (48 : Int) ≤ ((s[k]).toNat : Int) := by omega
                have hd4 : ((s[k]).toNat : Int) ≤ 57 := by omega
                have Hv : Hid (PK.dval 0 (s.data.toList.take (k + 1)) = PK.dval 0 (s.data.toList.take k) * 10 + ((s[k]).toNat - 48)) := by
                  rw [hks, PK.dval_append]; rfl
                have Hd2 : Hid (∀ c ∈ s.data.toList.take (k + 1), PK.isD c = true) := by
                  rw [hks]
                  intro c hc
                  rcases List.mem_append.1 hc with hc | hc
                  · exact Hd.out c hc
                  · rw [List.mem_singleton.1 hc]; exact hdig
                have hb0 : (0 : Int) ≤ ((PK.dval 0 (s.data.toList.take k) : Nat) : Int) := by omega
                have hb1 : ((PK.dval 0 (s.data.toList.take k) : Nat) : Int) < 10000000000000 := by omega
                clear hks Hd hdig hdb hb
                generalize PK.dval 0 (s.data.toList.take k) = V at *
                go_wp2
                go_round
                case rel => exact ⟨k + 1, by omega, by go_num, by rw [Hv.out]; congr 1; omega, Hd2.out⟩
                case measure => simp [intOf]; omega
              · have hn : PK.numR s.data.toList = -1 := by
                  unfold PK.numR
                  rw [if_pos]
                  refine .inr (.inr (.inr ?_))
                  rw [List.all_eq_false]
                  exact ⟨s[k], List.mem_of_getElem? (list_get s k hlt), hdig⟩
                have Hn := Lib.hid hn
                have hdb : (s[k]).toNat < 48 ∨ 57 < (s[k]).toNat := by
                  have := (not_congr (PK.isD_iff s[k])).1 hdig
                  omega
                clear hn hks hdig hb
                generalize PK.dval 0 (s.data.toList.take k) = V at *
                by_cases hd1 : ((s[k]).toNat : Int) < 48
                · clear hdb
                  go_wp2
                  go_ret
                  exact ⟨by rw [Hn.out]; rfl, rfl⟩
                · have hd2 : (57 : Int) < ((s[k]).toNat : Int) := by omega
                  clear hdb
                  go_wp2
                  go_ret
                  exact ⟨by rw [Hn.out]; rfl, rfl⟩
            · obtain rfl : k = s.size := by omega
              have hn : PK.numR s.data.toList = (PK.dval 0 s.data.toList : Int) := by
                unfold PK.numR
                rw [if_neg]
                rintro (h | h | h | h)
                · rw [h] at Hl; have := Hl.out; simp at this; omega
                · have := Hl.out; omega
                · exact Hf.out h
                · have h2 := Hd.out
                  rw [List.take_of_length_le (by have := Hl.out; omega)] at h2
                  rw [List.all_eq_true.2 h2] at h
                  cases h
              have Hn := Lib.hid hn
              have e : s.data.toList.take s.size = s.data.toList := List.take_of_length_le (by have := Hl.out; omega)
              rw [e]
              clear hn e
              generalize PK.dval 0 s.data.toList = V at *
              go_wp2
              go_ret
              exact ⟨by rw [Hn.out]; rfl, rfl⟩
      · have h1' : ¬ ((1 : Int) < (s.size : Int)) := by omega
        have Hf : Hid (¬ (1 < s.data.toList.length ∧ s.data.toList.head? = some 48)) := Lib.hid (by
          rintro ⟨h, _⟩
          omega)
        clear hl h0 h13 hh
        go_enter Tryd.func55, Tryd.ntmps55
        go_wp2
        go_loop [3, 4] (fun v i => ∃ k : Nat, k ≤ s.size ∧ i = .int .i64 k ∧ v = .int .i64 (PK.dval 0 (s.data.toList.take k)) ∧ Hid (∀ c ∈ s.data.toList.take k, PK.isD c = true)) (fun _ i => s.size - (intOf i).toNat)
        case atStart => exact ⟨0, Nat.zero_le _, rfl, rfl, fun c hc => by simp at hc⟩
        case round =>
          obtain ⟨k, hk, rfl, rfl, Hd⟩ := hrel
          by_cases hlt : k < s.size
          · have hks := take_get s k hlt
            have hb : PK.dval 0 (s.data.toList.take k) < 10000000000000 := by
              have h1 := PK.dval_lt_pow (s.data.toList.take k) 0 Hd.out
              have h2 : (s.data.toList.take k).length ≤ 13 := by have := List.length_take_le k s.data.toList; omega
              have h3 : 10 ^ (s.data.toList.take k).length ≤ 10 ^ 13 := Nat.pow_le_pow_right (by decide) h2
              have e : (10 : Nat) ^ 13 = 10000000000000 := by decide
              omega
            have hx0 := (s[k]).toNat_lt
            have Hks := Lib.hid hks
            by_cases hdig : PK.isD s[k] = true
            · have hdb := (PK.isD_iff _).1 hdig
              have hd1 : ¬ (((s[k]).toNat : Int) < 48) := by omega
              have hd2 : ¬ ((57 : Int) < ((s[k]).toNat : Int)) := by omega
              have hd3 : (48 : Int) ≤ ((s[k]).toNat : Int) := by omega
              have hd4 : ((s[k]).toNat : Int) ≤ 57 := by omega
              have Hv : Hid (PK.dval 0 (s.data.toList.take (k + 1)) = PK.dval 0 (s.data.toList.take k) * 10 + ((s[k]).toNat - 48)) := by
                rw [hks, PK.dval_append]; rfl
              have Hd2 : Hid (∀ c ∈ s.data.toList.take (k + 1), PK.isD c = true) := by
                rw [hks]
                intro c hc
                rcases List.mem_append.1 hc with hc | hc
                · exact Hd.out c hc
                · rw [List.mem_singleton.1 hc]; exact hdig
              have hb0 : (0 : Int) ≤ ((PK.dval 0 (s.data.toList.take k) : Nat) : Int) := by omega
              have hb1 : ((PK.dval 0 (s.data.toList.take k) : Nat) : Int) < 10000000000000 := by omega
              clear hks Hd hdig hdb hb
              generalize PK.dval 0 (s.data.toList.take k) = V at *
              go_wp2
              go_round
              case rel => exact ⟨k + 1, by omega, by go_num, by rw [Hv.out]; congr 1; omega, Hd2.out⟩
              case measure => simp [intOf]; omega
            · have hn : PK.numR s.data.toList = -1 := by
                unfold PK.numR
                rw [if_pos]
                refine .inr (.inr (.inr ?_))
                rw [List.all_eq_false]
                exact ⟨s[k], List.mem_of_getElem? (list_get s k hlt), hdig⟩
              have Hn := Lib.hid hn
              have hdb : (s[k]).toNat < 48 ∨ 57 < (s[k]).toNat := by
                have := (not_congr (PK.isD_iff s[k])).1 hdig
                omega
              clear hn hks hdig hb
              generalize PK.dval 0 (s.data.toList.take k) = V at *
              by_cases hd1 : ((s[k]).toNat : Int) < 48
              · clear hdb
                go_wp2
                go_ret
                exact ⟨by rw [Hn.out]; rfl, rfl⟩
              · have hd2 : (57 : Int) < ((s[k]).toNat : Int) := by omega
                clear hdb
                go_wp2
                go_ret
                exact ⟨by rw [Hn.out]; rfl, rfl⟩
          · obtain rfl : k = s.size := by omega
            have hn : PK.numR s.data.toList = (PK.dval 0 s.data.toList : Int) := by
              unfold PK.numR
              rw [if_neg]
              rintro (h | h | h | h)
              · rw [h] at Hl; have := Hl.out; simp at this; omega
              · have := Hl.out; omega
              · exact Hf.out h
              · have h2 := Hd.out
                rw [List.take_of_length_le (by have := Hl.out; omega)] at h2
                rw [List.all_eq_true.2 h2] at h
                cases h
            have Hn := Lib.hid hn
            have e : s.data.toList.take s.size = s.data.toList := List.take_of_length_le (by have := Hl.out; omega)
            rw [e]
            clear hn e
            generalize PK.dval 0 s.data.toList = V at *
            go_wp2
            go_ret
            exact ⟨by rw [Hn.out]; rfl, rfl⟩
end Go.Proofs.YtincbeipfgbfpaaDoor
