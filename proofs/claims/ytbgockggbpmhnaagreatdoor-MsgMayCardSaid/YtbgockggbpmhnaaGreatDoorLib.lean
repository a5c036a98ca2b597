/-
  Contracts of what the program calls of Go's library, at this translation: slices.Index, Contains, Clone over bytes; strconv's functions in the form that the walks use.
  Conditions: the listed package-level variables read as listed ('Env').
-/
import Derived.Test.YtbgockggbpmhnaaGreatDoorProg
import Derived.Test.YtbgockggbpmhnaaGreatDoorBytes
import Derived.Test.YtbgockggbpmhnaaGreatDoorPure
import Derived.Test.YtbgockggbpmhnaaGreatDoorShelf
import Derived.Lib.SmallJoins
import Derived.Lib.AppendIntMem
import Derived.WalkLawsBesides
import Derived.WalkSpells
namespace Go.Proofs.YtbgockggbpmhnaaGreatDoor
open Go Go.RowKit

theorem T22 : ByteT Tryz.prog 22 5 := ⟨Tryz.underlying22, Tryz.underlying5, by kernel_rfl⟩
theorem U9 : Tryz.prog.underlying 9 = some .string := Tryz.underlying9

/-- The program's error of a number (0: nil). -/
def errV : Nat → Value
  | 0 => .nilIface
  | n + 1 => .iface 60 (.int .i64 ((n : Int) + 1))

/-- WHAT THE LISTED VARIABLES HOLD. -/
structure Env (w : World) : Prop where
  big : 5 < w.heap.size
  et : w.cell? ⟨0, 0, none⟩ = some (.iface 148 (.agg #[.pointer (some ⟨6, 32, none⟩)]))
  es : ∃ tp p, w.cell? ⟨4, 0, none⟩ = some (.iface tp p)
  er : ∃ tp p, w.cell? ⟨5, 0, none⟩ = some (.iface tp p)
  tab : Lib.TabIs Tryz.prog w "internal/strconv.uint64pow10" .u64 Lib.pow10Tab
/-- The first block that is no package-level variable's. -/
def glob : Nat := 5 + 1
theorem Env.kept {X : Nat → Prop} {w w' : World} (h : Env w) (f : Fr X w w') (hx : ∀ k, k < glob → ¬ X k) : Env w' := by
  have hb := h.big
  have hX : ∀ k, k < 5 + 1 → ¬ X k := hx
  refine ⟨f.lt hb, f.cell h.et (hX _ (by simp)), ?_, ?_, ?_⟩
  · obtain ⟨tp, p, hc⟩ := h.es; exact ⟨tp, p, f.cell hc (hX _ (by simp))⟩
  · obtain ⟨tp, p, hc⟩ := h.er; exact ⟨tp, p, f.cell hc (hX _ (by simp))⟩
  · have ht := h.tab
    unfold Lib.TabIs World.var? at ht ⊢
    have hg : Tryz.prog.globalNamed "internal/strconv.uint64pow10" = some 1 := by kernel_rfl
    rw [hg] at ht ⊢
    simp only [Option.bind_some] at ht ⊢
    rw [f.block 1 (by omega) (hX _ (by omega))]
    exact ht
theorem Env.below {w w' : World} (h : Env w) (f : Below w.heap.size w w') : Env w' := h.kept (X := fun _ => False) (Fr.of_below f) (fun _ _ x => x)

/-- slices.Index over bytes. -/
theorem index_any (b o n cap : Nat) (x : Int) (l : List UInt8) (w : World) (hcap : cap ≤ maxLen) (hn : n ≤ cap) (hc : ∀ i, i < n → w.cell? ⟨b, o + i, none⟩ = some (.int .u8 (at8 l i))) :
    Calls Tryz.prog 95 #[.slice (some ⟨b, o, none⟩) n cap, .int .u8 x] w fun e w' => (∃ k : Int, e = .returned (.int .i64 k) ∧ -1 ≤ k ∧ k ≤ n ∧ (0 ≤ k ↔ ∃ i, i < n ∧ at8 l i = x)) ∧ w = w' := by
  unfold maxLen at hcap
  have Hc := Lib.hid hc
  clear hc
  go_enter Tryz.func95, Tryz.ntmps95
  go_wp2
  go_loop [8] (fun v => ∃ k : Nat, k ≤ n ∧ v = .int .i64 k ∧ Hid (∀ i, i < k → at8 l i ≠ x)) (fun v => n - (intOf v).toNat)
  case atStart => exact ⟨0, by omega, rfl, fun i hi => by omega⟩
  case round =>
    obtain ⟨k, hk, rfl, Hno⟩ := hrel
    by_cases hlt : k < n
    · have hck := Hc.out k hlt
      by_cases hx : at8 l k = x
      · have hx' : (x == at8 l k) = true := by rw [hx]; simp
        have Hx := Lib.hid hx
        clear hx
        go_wp2
        go_ret
        exact ⟨⟨k, rfl, by omega, by omega, ⟨fun _ => ⟨k, hlt, Hx.out⟩, fun _ => by omega⟩⟩, rfl⟩
      · have hx' : (x == at8 l k) = false := by simp; exact fun e => hx e.symm
        have Hx := Lib.hid hx
        clear hx
        go_wp2
        go_round
        case rel => exact ⟨k + 1, by omega, by go_num, fun i hi => by
          by_cases e : i = k
          · rw [e]; exact Hx.out
          · exact Hno.out i (by omega)⟩
        case measure => simp [intOf]; omega
    · go_wp2
      go_ret
      exact ⟨⟨-1, rfl, by omega, by omega, ⟨fun h => by omega, fun ⟨i, hi, hh⟩ => absurd hh (Hno.out i (by omega))⟩⟩, rfl⟩

/-- slices.Contains over bytes: among the bytes of a string. -/
theorem contains_yes (b o n cap : Nat) (x : Int) (l : List UInt8) (w : World) (hcap : cap ≤ maxLen) (hn : n ≤ cap) (hc : ∀ i, i < n → w.cell? ⟨b, o + i, none⟩ = some (.int .u8 (at8 l i))) (h : ∃ i, i < n ∧ at8 l i = x) :
    Calls Tryz.prog 82 #[.slice (some ⟨b, o, none⟩) n cap, .int .u8 x] w fun e w' => e = .returned (.bool true) ∧ w = w' := by
  go_enter Tryz.func82, Tryz.ntmps82
  have H := Lib.hid h
  have Hc := Lib.hid hc
  clear h hc
  go_wp2_with fail
  refine (index_any b o n cap x l w hcap hn Hc.out).mono ?_
  rintro e w' ⟨⟨k, rfl, hk1, hk2, hk3⟩, rfl⟩
  have h0 : 0 ≤ k := hk3.2 H.out
  clear hk3
  go_wp2
  go_ret
  exact ⟨rfl, rfl⟩
theorem contains_no (b o n cap : Nat) (x : Int) (l : List UInt8) (w : World) (hcap : cap ≤ maxLen) (hn : n ≤ cap) (hc : ∀ i, i < n → w.cell? ⟨b, o + i, none⟩ = some (.int .u8 (at8 l i))) (h : ∀ i, i < n → at8 l i ≠ x) :
    Calls Tryz.prog 82 #[.slice (some ⟨b, o, none⟩) n cap, .int .u8 x] w fun e w' => e = .returned (.bool false) ∧ w = w' := by
  go_enter Tryz.func82, Tryz.ntmps82
  have H := Lib.hid h
  have Hc := Lib.hid hc
  clear h hc
  go_wp2_with fail
  refine (index_any b o n cap x l w hcap hn Hc.out).mono ?_
  rintro e w' ⟨⟨k, rfl, hk1, hk2, hk3⟩, rfl⟩
  have h0 : k < 0 := by
    rcases Int.lt_or_le k 0 with h | h
    · exact h
    · obtain ⟨i, hi, hh⟩ := hk3.1 h; exact absurd hh (H.out i hi)
  have h0' : decide (0 ≤ k) = false := by simp; omega
  clear hk3
  go_wp2
  go_ret
  exact ⟨rfl, rfl⟩

/-- slices.Clone over bytes: a slice of its own. -/
theorem clone_any (v : Value) (l : List UInt8) (w : World) (hv : IsB w v l) (hl : l.length ≤ roomB) :
    Calls Tryz.prog 72 #[v] w fun e w' => (∃ a c, e = .returned (.slice a l.length c) ∧ OwnB w' (.slice a l.length c) l ∧ ∀ b, Value.ownBlock (.slice a l.length c) = some b → w.heap.size ≤ b) ∧ Below w.heap.size w w' := by
  have hv' := hv
  obtain ⟨a, cap, rfl, h1, h2, h0, h3⟩ := hv
  have H3 := Lib.hid h3
  clear h3
  cases a with
  | none =>
    have hl0 : l = [] := by
      rcases H3.out with h | ⟨b, o, h, _⟩
      · exact h
      · cases h
    have hc := h0 rfl
    subst hl0 hc
    clear hv' H3 h0
    have hq : ∀ w : World, (binOp .eql 22 (.slice none 0 0) (.slice none 0 0)).run Tryz.prog w = .ok (.bool true) w := fun _ => by kernel_rfl
    go_enter Tryz.func72, Tryz.ntmps72
    go_wp2
    go_ret
    exact ⟨⟨none, 0, rfl, .inl ⟨rfl, rfl⟩, by simp [Value.ownBlock]⟩, Below.refl _ _⟩
  | some ad =>
    have hq : ∀ w : World, (binOp .eql 22 (.slice (some ad) l.length cap) (.slice none 0 0)).run Tryz.prog w = .ok (.bool false) w := fun w : World => run_eql_sl_nil (P := Tryz.prog) w 22 5 (some ad) l.length cap Tryz.underlying22
    have hown : OwnB (w.alloc (.cells #[] 5)) (.slice (some ⟨w.heap.size, 0, none⟩) 0 0) [] :=
      .inr ⟨w.heap.size, 0, 0, rfl, by simp, by simp [maxLen], by simp, fun i hi => by simp at hi, fun j hj => by omega⟩
    have hsrc : SrcB Tryz.prog 22 (w.alloc (.cells #[] 5)) (.slice (some ad) l.length cap) l := srcB_of Tryz.underlying22 (hv'.below (((Below.refl _ w).alloc (Nat.le_refl _) _)))
    have Hown := Lib.hid hown
    have Hsrc := Lib.hid hsrc
    have Hl := Lib.hid hl
    clear hown hsrc hl hv' H3 h0 h1 h2
    go_enter Tryz.func72, Tryz.ntmps72
    go_wp2_with (at_builtin; refine wpList_app rfl _ _ rfl T22 rfl Hown.out rfl Hsrc.out (by simpa using Hl.out) ?_; intro a c w1 ho hf hb; have Ho := Lib.hid ho; have Hf := Lib.hid hf; have Hb := Lib.hid hb; clear ho hf hb)
    go_ret
    simp only [List.length_nil, Nat.zero_add, List.nil_append] at Ho Hb
    refine ⟨⟨a, c, rfl, Ho.out, fun b hb => ?_⟩, ?_⟩
    · rcases Hb.out with h | ⟨g, h, hg⟩
      · have e : b = w.heap.size := Option.some.inj (hb.symm.trans h)
        omega
      · subst h
        simp [Value.ownBlock] at hb hg
        omega
    · have h2 := Hf.out
      exact (Fr.then (X := fun _ => False) ((Fr.refl _ w).alloc _) h2 (fun i hi hy => by have e : w.heap.size = i := Option.some.inj hy; omega)).below
end Go.Proofs.YtbgockggbpmhnaaGreatDoor
