/-
  quota.named and the document's Named, by contracts.
  Conditions: the text is at most 2^47 long.
  Names that rise, in plain Lean: what both sides ask of a tree's names, one by one; that such nodes have one name each. No program.
  Slices of nodes and of uses that are read; the document's Find, by a contract.
  Conditions: the slice reads as nodes.
  The document's under, by a contract.
-/
import Derived.Test.YtkanjdijmdjbaaaGreatDoorG2
import Derived.Test.YtkanjdijmdjbaaaGreatDoorG5
import GoSem.Op.String
import Derived.Test.YtkanjdijmdjbaaaGreatDoorSli
namespace Go.Proofs.YtkanjdijmdjbaaaGreatDoor
open Go Go.RowKit

namespace QT
def okC (c : UInt8) : Bool := decide (33 ≤ c.toNat) && decide (c.toNat ≤ 126)
/-- Is a text a name? -/
def nameP (s : Str) : Bool := s.all okC && (decide (1 ≤ s.length) && decide (s.length ≤ 32))
end QT
theorem list_getN (s : ByteArray) (k : Nat) (h : k < s.size) : s.data.toList[k]? = some s[k] := by
  rw [List.getElem?_eq_getElem (by rw [Array.length_toList]; exact h)]
  rfl
theorem name_bad {s : ByteArray} {k : Nat} (hk : k < s.size) (h : QT.okC s[k] = false) : QT.nameP s.data.toList = false := by
  unfold QT.nameP
  have hm : s[k] ∈ s.data.toList := List.mem_of_getElem? (i := k) (list_getN s k hk)
  have : s.data.toList.all QT.okC = false := by
    rw [List.all_eq_false]
    exact ⟨_, hm, by rw [h]; simp⟩
  rw [this, Bool.false_and]
theorem name_next {s : ByteArray} {k : Nat} (hk : k < s.size) (h : QT.okC s[k] = true) (hp : ∀ c ∈ s.data.toList.take k, QT.okC c = true) : ∀ c ∈ s.data.toList.take (k + 1), QT.okC c = true := by
  intro c hc
  have hg := list_getN s k hk
  rw [List.take_add_one, hg] at hc
  rcases List.mem_append.1 hc with hc | hc
  · exact hp c hc
  · have : c = s[k] := by simpa using hc
    rw [this]; exact h
theorem name_end {s : ByteArray} (hp : ∀ c ∈ s.data.toList.take s.size, QT.okC c = true) : QT.nameP s.data.toList = (decide (1 ≤ s.size) && decide (s.size ≤ 32)) := by
  have hl : s.data.toList.length = s.size := Array.length_toList
  unfold QT.nameP
  rw [List.take_of_length_le (by omega)] at hp
  have : s.data.toList.all QT.okC = true := List.all_eq_true.2 hp
  rw [this, Bool.true_and, hl]
set_option maxHeartbeats 2000000 in
theorem named_any (s : ByteArray) (w : World) (hs : s.size ≤ 140737488355328) :
    Calls Tryz.prog 49 #[.string s] w fun e w' => e = .returned (.bool (QT.nameP s.data.toList)) ∧ w = w' := by
  have hs' : (s.size : Int) ≤ 140737488355328 := by omega
  clear hs
  go_enter Tryz.func49, Tryz.ntmps49
  go_wp2
  go_loop [3, 6] (fun _ v => ∃ k : Nat, k ≤ s.size ∧ v = .int .i64 k ∧ Hid (∀ c ∈ s.data.toList.take k, QT.okC c = true)) (fun _ v => s.size - (intOf v).toNat)
  case atStart => exact ⟨0, Nat.zero_le _, rfl, fun c hc => by simp at hc⟩
  case round =>
    obtain ⟨k, hk, rfl, Hp⟩ := hrel
    by_cases hlt : k < s.size
    · have h1 : (k : Int) < (s.size : Int) := by omega
      by_cases hlo : s[k].toNat < 33
      · have hb := Lib.hid (name_bad hlt (show QT.okC s[k] = false by unfold QT.okC; rw [decide_eq_false (by omega), Bool.false_and]))
        have h2 : ((s[k].toNat : Nat) : Int) < 33 := by omega
        clear Hp
        go_wp2
        go_ret
        exact ⟨by rw [hb.out]; rfl, rfl⟩
      · by_cases hhi : 126 < s[k].toNat
        · have hb := Lib.hid (name_bad hlt (show QT.okC s[k] = false by unfold QT.okC; rw [decide_eq_false (p := s[k].toNat ≤ 126) (by omega), Bool.and_false]))
          have h2 : ¬ ((s[k].toNat : Nat) : Int) < 33 := by omega
          have h3 : (126 : Int) < ((s[k].toNat : Nat) : Int) := by omega
          clear Hp
          go_wp2
          go_ret
          exact ⟨by rw [hb.out]; rfl, rfl⟩
        · have hn := Lib.hid (name_next hlt (show QT.okC s[k] = true by unfold QT.okC; rw [decide_eq_true (by omega), decide_eq_true (by omega)]; rfl) Hp.out)
          have h2 : ¬ ((s[k].toNat : Nat) : Int) < 33 := by omega
          have h3 : ¬ (126 : Int) < ((s[k].toNat : Nat) : Int) := by omega
          clear Hp
          go_wp2
          exact ⟨⟨k + 1, by omega, by simp, hn⟩, by simp [intOf]; omega⟩
    · obtain rfl : k = s.size := by omega
      have he := Lib.hid (name_end Hp.out)
      clear Hp
      by_cases ha : 1 ≤ s.size
      · have h1 : (1 : Int) ≤ (s.size : Int) := by omega
        by_cases hb : s.size ≤ 32
        · have h2 : (s.size : Int) ≤ 32 := by omega
          go_wp2
          go_ret
          exact ⟨by rw [he.out, decide_eq_true ha, decide_eq_true hb]; simp, rfl⟩
        · have h2 : ¬ (s.size : Int) ≤ 32 := by omega
          go_wp2
          go_ret
          exact ⟨by rw [he.out, decide_eq_true ha, decide_eq_false hb]; simp, rfl⟩
      · have h1 : ¬ (1 : Int) ≤ (s.size : Int) := by omega
        have h0 : ¬ (0 : Int) < (s.size : Int) := by omega
        go_wp2
        go_ret
        exact ⟨by rw [he.out, decide_eq_false ha]; simp, rfl⟩
set_option maxHeartbeats 2000000 in
theorem rnamed_any (s : ByteArray) (w : World) (hs : s.size ≤ 140737488355328) :
    Calls Tryz.prog 107 #[.string s] w fun e w' => e = .returned (.bool (QT.nameP s.data.toList)) ∧ w = w' := by
  have hs' : (s.size : Int) ≤ 140737488355328 := by omega
  clear hs
  go_enter Tryz.func107, Tryz.ntmps107
  go_wp2
  go_loop [3] (fun v => ∃ k : Nat, k ≤ s.size ∧ v = .int .i64 k ∧ Hid (∀ c ∈ s.data.toList.take k, QT.okC c = true)) (fun v => s.size - (intOf v).toNat)
  case atStart => exact ⟨0, Nat.zero_le _, rfl, fun c hc => by simp at hc⟩
  case round =>
    obtain ⟨k, hk, rfl, Hp⟩ := hrel
    by_cases hlt : k < s.size
    · have h1 : (k : Int) < (s.size : Int) := by omega
      by_cases hlo : s[k].toNat < 33
      · have hb := Lib.hid (name_bad hlt (show QT.okC s[k] = false by unfold QT.okC; rw [decide_eq_false (by omega), Bool.false_and]))
        have h2 : ((s[k].toNat : Nat) : Int) < 33 := by omega
        clear Hp
        go_wp2
        go_ret
        exact ⟨by rw [hb.out]; rfl, rfl⟩
      · by_cases hhi : 126 < s[k].toNat
        · have hb := Lib.hid (name_bad hlt (show QT.okC s[k] = false by unfold QT.okC; rw [decide_eq_false (p := s[k].toNat ≤ 126) (by omega), Bool.and_false]))
          have h2 : ¬ ((s[k].toNat : Nat) : Int) < 33 := by omega
          have h3 : (126 : Int) < ((s[k].toNat : Nat) : Int) := by omega
          clear Hp
          go_wp2
          go_ret
          exact ⟨by rw [hb.out]; rfl, rfl⟩
        · have hn := Lib.hid (name_next hlt (show QT.okC s[k] = true by unfold QT.okC; rw [decide_eq_true (by omega), decide_eq_true (by omega)]; rfl) Hp.out)
          have h2 : ¬ ((s[k].toNat : Nat) : Int) < 33 := by omega
          have h3 : ¬ (126 : Int) < ((s[k].toNat : Nat) : Int) := by omega
          clear Hp
          go_wp2
          exact ⟨⟨k + 1, by omega, by simp, hn⟩, by simp [intOf]; omega⟩
    · obtain rfl : k = s.size := by omega
      have he := Lib.hid (name_end Hp.out)
      clear Hp
      by_cases ha : 1 ≤ s.size
      · have h1 : (1 : Int) ≤ (s.size : Int) := by omega
        by_cases hb : s.size ≤ 32
        · have h2 : (s.size : Int) ≤ 32 := by omega
          go_wp2
          go_ret
          exact ⟨by rw [he.out, decide_eq_true ha, decide_eq_true hb]; simp, rfl⟩
        · have h2 : ¬ (s.size : Int) ≤ 32 := by omega
          go_wp2
          go_ret
          exact ⟨by rw [he.out, decide_eq_true ha, decide_eq_false hb]; simp, rfl⟩
      · have h1 : ¬ (1 : Int) ≤ (s.size : Int) := by omega
        have h0 : ¬ (0 : Int) < (s.size : Int) := by omega
        go_wp2
        go_ret
        exact ⟨by rw [he.out, decide_eq_false ha]; simp, rfl⟩
end Go.Proofs.YtkanjdijmdjbaaaGreatDoor

namespace Go.Proofs.YtkanjdijmdjbaaaGreatDoor.QT
open Go

theorem less_irr : ∀ x : Str, Op.bytesLess x x = false
  | [] => rfl
  | a :: r => by
    show (decide (a < a) || (a == a && Op.bytesLess r r)) = false
    rw [less_irr r]
    simp
theorem less_trans : ∀ x y z : Str, Op.bytesLess x y = true → Op.bytesLess y z = true → Op.bytesLess x z = true
  | _, [], _, h, _ => by unfold Op.bytesLess at h; cases h
  | _, _ :: _, [], _, h => by unfold Op.bytesLess at h; cases h
  | [], _ :: _, _ :: _, _, _ => rfl
  | a :: x, b :: y, c :: z, h1, h2 => by
    have e1 : (decide (a < b) || (a == b && Op.bytesLess x y)) = true := h1
    have e2 : (decide (b < c) || (b == c && Op.bytesLess y z)) = true := h2
    show (decide (a < c) || (a == c && Op.bytesLess x z)) = true
    simp only [Bool.or_eq_true, decide_eq_true_eq, Bool.and_eq_true, beq_iff_eq] at e1 e2 ⊢
    rcases e1 with e1 | ⟨rfl, e1⟩
    · rcases e2 with e2 | ⟨rfl, e2⟩
      · exact .inl (UInt8.lt_trans e1 e2)
      · exact .inl e1
    · rcases e2 with e2 | ⟨rfl, e2⟩
      · exact .inl e2
      · exact .inr ⟨rfl, less_trans x y z e1 e2⟩
theorem less_tri : ∀ x y : Str, Op.bytesLess x y = false → x ≠ y → Op.bytesLess y x = true
  | [], [], _, h => absurd rfl h
  | [], _ :: _, h, _ => by unfold Op.bytesLess at h; cases h
  | _ :: _, [], _, _ => rfl
  | a :: x, b :: y, h, hne => by
    have e : (decide (a < b) || (a == b && Op.bytesLess x y)) = false := h
    show (decide (b < a) || (b == a && Op.bytesLess y x)) = true
    rw [Bool.or_eq_false_iff] at e
    have hlt : ¬ a < b := of_decide_eq_false e.1
    by_cases hab : a = b
    · subst hab
      have h2 : Op.bytesLess x y = false := by simpa using e.2
      have := less_tri x y h2 (fun q => hne (by rw [q]))
      rw [this]
      simp
    · have : b < a := by
        rw [UInt8.lt_iff_toNat_lt] at hlt ⊢
        have : a.toNat ≠ b.toNat := fun q => hab (UInt8.toNat_inj.1 q)
        omega
      rw [decide_eq_true this, Bool.true_or]
/-- x > y. -/
def gtS (x y : Str) : Bool := !(Op.bytesLess x y || x == y)
theorem gtS_less {x y : Str} (h : gtS x y = true) : Op.bytesLess y x = true := by
  unfold gtS at h
  rw [Bool.not_eq_true', Bool.or_eq_false_iff] at h
  exact less_tri x y h.1 (by simpa using h.2)
/-- One more name: is all right so far; the last name. -/
def stepO (s : Bool × Str) (nm : Str) (extra : Bool) : Bool × Str := (s.1 && nameP nm && gtS nm s.2 && extra, nm)
def okN (N : List Nd) : Bool × Str := N.foldl (fun s n => stepO s n.nm true) (true, [])
def okV (N : List Nd) (V : List Us) : Bool × Str := V.foldl (fun s u => stepO s u.id (find N u.nd).isSome) ((okN N).1, [])
theorem okN_snoc (N : List Nd) (n : Nd) : okN (N ++ [n]) = stepO (okN N) n.nm true := by
  unfold okN
  rw [List.foldl_append]
  rfl
theorem okV_snoc (N : List Nd) (V : List Us) (u : Us) : okV N (V ++ [u]) = stepO (okV N V) u.id (find N u.nd).isSome := by
  unfold okV
  rw [List.foldl_append]
  rfl
theorem rises {α : Type} (f : α → Str) (g : α → Bool) : ∀ (L : List α) (b : Bool) (s : Str), (L.foldl (fun s x => stepO s (f x) (g x)) (b, s)).1 = true →
    b = true ∧ (∀ x ∈ L, nameP (f x) = true ∧ g x = true ∧ Op.bytesLess s (f x) = true) ∧ L.Pairwise (fun x y => Op.bytesLess (f x) (f y) = true)
  | [], _, _, h => ⟨h, (fun x hx => by cases hx), List.Pairwise.nil⟩
  | x :: r, b, s, h => by
    obtain ⟨h1, h2, h3⟩ := rises f g r _ _ h
    simp only [Bool.and_eq_true] at h1
    obtain ⟨⟨⟨hb, hn⟩, hg⟩, he⟩ := h1
    have hs := gtS_less hg
    refine ⟨hb, fun y hy => ?_, List.Pairwise.cons (fun y hy => (h2 y hy).2.2) h3⟩
    rcases List.mem_cons.1 hy with rfl | hy
    · exact ⟨hn, he, hs⟩
    · obtain ⟨a1, a2, a3⟩ := h2 y hy
      exact ⟨a1, a2, less_trans _ _ _ hs a3⟩
theorem name_ne {s : Str} (h : nameP s = true) : s ≠ [] := by
  rintro rfl
  unfold nameP at h
  simp at h
theorem rises_un {α : Type} (f : α → Str) : ∀ (L : List α), L.Pairwise (fun x y => Op.bytesLess (f x) (f y) = true) → ∀ a ∈ L, ∀ b ∈ L, f a = f b → a = b
  | [], _, a, ha, _, _, _ => by cases ha
  | x :: r, h, a, ha, b, hb, e => by
    obtain ⟨h1, h2⟩ := List.pairwise_cons.1 h
    rcases List.mem_cons.1 ha with ea | ha'
    · rcases List.mem_cons.1 hb with eb | hb'
      · rw [ea, eb]
      · have := h1 b hb'
        rw [← ea, e, less_irr] at this; cases this
    · rcases List.mem_cons.1 hb with eb | hb'
      · have := h1 a ha'
        rw [← eb, e, less_irr] at this; cases this
      · exact rises_un f r h2 a ha' b hb' e
theorem okN_uniq {N : List Nd} (h : (okN N).1 = true) : Uniq N := by
  obtain ⟨_, h2, h3⟩ := rises Nd.nm (fun _ => true) N true [] h
  refine ⟨fun n hn => name_ne (h2 n hn).1, rises_un Nd.nm N h3, ?_⟩
  refine List.Pairwise.imp (fun {a b} q e => ?_) h3
  rw [e, less_irr] at q; cases q
theorem okV_all {N : List Nd} {V : List Us} (h : (okV N V).1 = true) : (okN N).1 = true ∧ (∀ u ∈ V, ∃ n ∈ N, n.nm = u.nd) ∧ V.Pairwise (fun x y => Op.bytesLess x.id y.id = true) ∧ ∀ u ∈ V, nameP u.id = true := by
  obtain ⟨h1, h2, h3⟩ := rises Us.id (fun u => (find N u.nd).isSome) V (okN N).1 [] h
  refine ⟨h1, fun u hu => ?_, h3, fun u hu => (h2 u hu).1⟩
  obtain ⟨n, hn⟩ := Option.isSome_iff_exists.1 (h2 u hu).2.1
  exact ⟨n, find_mem hn⟩
end Go.Proofs.YtkanjdijmdjbaaaGreatDoor.QT

namespace Go.Proofs.YtkanjdijmdjbaaaGreatDoor
open Go Go.RowKit

/-- The slice value v reads as the nodes N. -/
def RdsNd (w : World) (v : Value) (N : List QT.Nd) : Prop :=
  ∃ a cap, v = .slice a N.length cap ∧ N.length ≤ cap ∧ cap ≤ maxLen ∧ (N = [] ∨ ∃ b o, a = some ⟨b, o, none⟩ ∧ ∀ i x, N[i]? = some x → ∀ j u, (valsNd x)[j]? = some u → w.cell? ⟨b, o + i * 5 + j, none⟩ = some u)
theorem RdsNd.below {w w' : World} {v : Value} {N : List QT.Nd} (h : RdsNd w v N) (f : Below w.heap.size w w') : RdsNd w' v N := by
  obtain ⟨a, cap, rfl, h1, h2, h3⟩ := h
  refine ⟨a, cap, rfl, h1, h2, ?_⟩
  rcases h3 with h3 | ⟨b, o, rfl, hc⟩
  · exact .inl h3
  · refine .inr ⟨b, o, rfl, fun i x hx j u hu => ?_⟩
    have c := hc i x hx j u hu
    exact (World.cell?_of_block (f.block b (World.block_lt_of_cell? _ _ c))).trans c
theorem RdsNd.at {w : World} {a : Option Addr} {n c : Nat} {N : List QT.Nd} (h : RdsNd w (.slice a n c) N) (i : Nat) (x : QT.Nd) (hx : N[i]? = some x) :
    ∃ b o, a = some ⟨b, o, none⟩ ∧ w.cell? ⟨b, o + i * 5, none⟩ = some (.string (str x.nm)) ∧ w.cell? ⟨b, o + i * 5 + 1, none⟩ = some (.string (str x.pr)) ∧ w.cell? ⟨b, o + i * 5 + 2, none⟩ = some (.complex .f64 (FL.fB x.o1) (FL.fB x.o2)) ∧
      w.cell? ⟨b, o + i * 5 + 3, none⟩ = some (.complex .f64 (FL.fB x.b1) (FL.fB x.b2)) ∧ w.cell? ⟨b, o + i * 5 + 4, none⟩ = some (.complex .f64 (FL.fB x.l1) (FL.fB x.l2)) := by
  obtain ⟨a', cap, he, _, _, h3⟩ := h
  simp only [Value.slice.injEq] at he
  obtain ⟨rfl, _, rfl⟩ := he
  rcases h3 with rfl | ⟨b, o, rfl, hc⟩
  · simp at hx
  · exact ⟨b, o, rfl, hc i x hx 0 _ rfl, hc i x hx 1 _ rfl, hc i x hx 2 _ rfl, hc i x hx 3 _ rfl, hc i x hx 4 _ rfl⟩
theorem RdsNd.len {w : World} {a : Option Addr} {n c : Nat} {N : List QT.Nd} (h : RdsNd w (.slice a n c) N) : N.length = n ∧ n ≤ c ∧ c ≤ maxLen := by
  obtain ⟨a', cap, he, h1, h2, _⟩ := h
  simp only [Value.slice.injEq] at he
  obtain ⟨rfl, rfl, rfl⟩ := he
  exact ⟨rfl, h1, h2⟩
/-- Where a name is; -1: nowhere. -/
def QT.at (N : List QT.Nd) (s : QT.Str) : Int := match N.findIdx? fun n => n.nm == s with
  | none => -1
  | some i => i
theorem str_toList (l : List UInt8) : (str l).toList = l := by rw [ByteArray.toList_eq]; rfl
theorem QT.at_found {N : List QT.Nd} {s : QT.Str} {k : Nat} {x : QT.Nd} (hx : N[k]? = some x) (he : (x.nm == s) = true) (hp : ∀ (j : Nat) (x : QT.Nd), j < k → N[j]? = some x → (x.nm == s) = false) : QT.at N s = k ∧ QT.find N s = some x := by
  obtain ⟨hk, hxk⟩ := List.getElem?_eq_some_iff.1 hx
  have h1 : (N.findIdx? fun n => n.nm == s) = some k := by
    rw [List.findIdx?_eq_some_iff_getElem]
    refine ⟨hk, by rw [hxk]; exact he, fun j hj => ?_⟩
    have := hp j N[j] hj (List.getElem?_eq_getElem (by omega))
    simp only [this]
    simp
  refine ⟨by unfold QT.at; rw [h1], ?_⟩
  unfold QT.find
  rw [List.find?_eq_some_iff_getElem]
  refine ⟨he, k, hk, hxk, fun j hj => ?_⟩
  have := hp j N[j] hj (List.getElem?_eq_getElem (by omega))
  simp only [this]
  simp
theorem QT.at_none {N : List QT.Nd} {s : QT.Str} (hp : ∀ (j : Nat) (x : QT.Nd), j < N.length → N[j]? = some x → (x.nm == s) = false) : QT.at N s = -1 ∧ QT.find N s = none := by
  have hall : ∀ x ∈ N, (x.nm == s) = false := fun x hx => by
    obtain ⟨j, hj, rfl⟩ := List.getElem_of_mem hx
    exact hp j _ hj (List.getElem?_eq_getElem hj)
  have h1 : (N.findIdx? fun n => n.nm == s) = none := by
    rw [List.findIdx?_eq_none_iff]
    exact hall
  refine ⟨by unfold QT.at; rw [h1], ?_⟩
  unfold QT.find
  rw [List.find?_eq_none]
  intro x hx
  rw [hall x hx]; simp
/-- Where a name is, and what is there. -/
theorem QT.at_cases (N : List QT.Nd) (s : QT.Str) : (QT.at N s = -1 ∧ QT.find N s = none) ∨ ∃ (i : Nat) (x : QT.Nd), QT.at N s = i ∧ N[i]? = some x ∧ QT.find N s = some x := by
  cases h : N.findIdx? (fun n => n.nm == s) with
  | none =>
    refine .inl (QT.at_none fun j x hj hx => ?_)
    exact (List.findIdx?_eq_none_iff.1 h) x (List.mem_of_getElem? hx)
  | some i =>
    obtain ⟨hi, he, hp⟩ := List.findIdx?_eq_some_iff_getElem.1 h
    have := QT.at_found (k := i) (List.getElem?_eq_getElem hi) he (fun j x hj hx => by
      obtain ⟨hj2, rfl⟩ := List.getElem?_eq_some_iff.1 hx
      have := hp j hj
      simpa using this)
    exact .inr ⟨i, _, this.1, List.getElem?_eq_getElem hi, this.2⟩
set_option maxRecDepth 100000 in
set_option maxHeartbeats 4000000 in
/-- Find. -/
theorem rfind_any (a : Option Addr) (n c : Nat) (u : Value) (N : List QT.Nd) (s : QT.Str) (w : World) (hN : RdsNd w (.slice a n c) N) :
    Calls Tryz.prog 108 #[.agg #[.slice a n c, u], .string (str s)] w fun v w' => v = .returned (.int .i64 (QT.at N s)) ∧ Below w.heap.size w w' := by
  obtain ⟨hl, hnc, hcm⟩ := hN.len
  have hn : (n : Int) ≤ 9223372036854775807 := by simp only [maxLen] at hcm; omega
  have Hl := Lib.hid hl
  obtain ⟨W, hW⟩ : ∃ W, W = w.alloc (.cells #[.slice a n c, u] 32) := ⟨_, rfl⟩
  have bW : Hid (Below w.heap.size w W) := by rw [hW]; exact (Below.refl _ _).alloc (Nat.le_refl _) _
  have HN := Lib.hid (hN.below bW.out)
  have g : W.heap[w.heap.size]? = some (.cells #[.slice a n c, u] 32) := by rw [hW]; exact heap_alloc_new _ _
  obtain ⟨t0, t1, _, _⟩ := cells2 g
  clear hl hnc hcm hN g
  go_enter Tryz.func108, Tryz.ntmps108
  go_wp2_with fail
  rw [← hW]
  clear hW
  go_loop [5] (fun v => ∃ k : Nat, k ≤ n ∧ v = .int .i64 k ∧ Hid (∀ (j : Nat) (x : QT.Nd), j < k → N[j]? = some x → (x.nm == s) = false)) (fun v => n - (intOf v).toNat)
  case atStart => exact ⟨0, Nat.zero_le _, rfl, fun j x hj => by omega⟩
  case round =>
    obtain ⟨k, hk, rfl, Hp⟩ := hrel
    by_cases hlt : k < n
    · have h1 : (k : Int) < (n : Int) := by omega
      obtain ⟨x, hx⟩ : ∃ x, N[k]? = some x := ⟨_, List.getElem?_eq_getElem (by have := Hl.out; omega)⟩
      obtain ⟨b, o, rfl, c0, _⟩ := HN.out.at k x hx
      cases he : (x.nm == s) with
      | true =>
        have ht : ((str x.nm).toList == (str s).toList) = true := by rw [str_toList, str_toList]; exact he
        have hr := Lib.hid (QT.at_found hx he Hp.out).1
        clear Hp hx he
        go_wp2
        go_ret
        exact ⟨by rw [hr.out]; rfl, bW.out⟩
      | false =>
        have ht : ((str x.nm).toList == (str s).toList) = false := by rw [str_toList, str_toList]; exact he
        have hn2 : Hid (∀ (j : Nat) (y : QT.Nd), j < k + 1 → N[j]? = some y → (y.nm == s) = false) := Lib.hid (fun j y hj hy => by
          by_cases e : j = k
          · subst e; rw [hx] at hy; cases hy; exact he
          · exact Hp.out j y (by omega) hy)
        clear Hp hx he
        go_wp2
        exact ⟨⟨k + 1, by omega, by simp, hn2⟩, by simp [intOf]; omega⟩
    · obtain rfl : k = n := by omega
      have hr := Lib.hid (QT.at_none (N := N) (s := s) (fun j x hj hx => Hp.out j x (by have := Hl.out; omega) hx)).1
      clear Hp
      go_wp2
      go_ret
      exact ⟨by rw [hr.out]; rfl, bW.out⟩
set_option maxRecDepth 100000 in
set_option maxHeartbeats 4000000 in
/-- under. -/
theorem runder_any (a : Option Addr) (n c : Nat) (u : Value) (N : List QT.Nd) (s t : QT.Str) (w : World) (hN : RdsNd w (.slice a n c) N) (hs : n ≤ 1099511627776) :
    Calls Tryz.prog 146 #[.agg #[.slice a n c, u], .string (str s), .string (str t)] w fun v w' => v = .returned (.bool (QT.un N s t)) ∧ Below w.heap.size w w' := by
  obtain ⟨hl, _, _⟩ := hN.len
  have hn : (n : Int) ≤ 281474976710656 := by omega
  have Hl := Lib.hid hl
  have HF := Lib.hid (fun (V : World) (s : QT.Str) (b : Below w.heap.size w V) => rfind_any a n c u N s V (hN.below b))
  have HNb := Lib.hid (fun (V : World) (b : Below w.heap.size w V) => hN.below b)
  obtain ⟨W, hW⟩ : ∃ W, W = w.alloc (.cells #[.slice a n c, u] 32) := ⟨_, rfl⟩
  have bW : Hid (Below w.heap.size w W) := by rw [hW]; exact (Below.refl _ _).alloc (Nat.le_refl _) _
  have gW : Hid (W.heap[w.heap.size]? = some (.cells #[.slice a n c, u] 32)) := by rw [hW]; exact heap_alloc_new _ _
  have HU : Hid (QT.un N s t = QT.under N (n + 1) s t) := Lib.hid (by rw [← hl]; rfl)
  generalize QT.un N s t = RES at *
  clear hl hN hs
  go_enter Tryz.func146, Tryz.ntmps146
  go_wp2_with fail
  rw [← hW]
  clear hW
  go_loopw [1, 7] (fun v1 v7 V => ∃ (k : Nat) (s' : QT.Str), k ≤ n + 1 ∧ v7 = .int .i64 k ∧ v1 = .string (str s') ∧ Hid (RES = QT.under N (n + 1 - k) s' t) ∧ Hid (Below w.heap.size w V) ∧ Hid (V.heap[w.heap.size]? = some (.cells #[.slice a n c, u] 32))) (fun _ v _ => n + 1 - (intOf v).toNat)
  case atStart => exact ⟨0, s, Nat.zero_le _, rfl, rfl, HU, bW, gW⟩
  case round =>
    obtain ⟨k, s', hk, rfl, rfl, Hu, Bv, Gv⟩ := hrel
    clear HU bW gW
    obtain ⟨t0, t1, _, _⟩ := cells2 Gv.out
    by_cases hlt : k ≤ n
    · have h1 : (k : Int) ≤ (n : Int) := by omega
      obtain ⟨m, hm⟩ : ∃ m, n + 1 - k = m + 1 := ⟨n - k, by omega⟩
      have Hm : Hid (n + 1 - (k + 1) = m) := Lib.hid (by omega)
      rw [hm] at Hu
      clear hm
      by_cases hst : s' = t
      · subst hst
        have hr : Hid (RES = true) := Lib.hid (by rw [Hu.out]; unfold QT.under; rw [if_pos rfl])
        have ht : ((str s').toList == (str s').toList) = true := by simp
        clear Hu
        go_wp2
        go_ret
        exact ⟨by rw [hr.out]; rfl, Bv.out⟩
      · have ht : ((str s').toList == (str t).toList) = false := by rw [str_toList, str_toList]; simpa using hst
        have HF1 := Lib.hid (HF.out wr s' Bv.out)
        rcases QT.at_cases N s' with ⟨e1, e2⟩ | ⟨i, x, e1, ei, e2⟩
        · have hr : Hid (RES = false) := Lib.hid (by rw [Hu.out]; unfold QT.under; rw [if_neg hst, e2])
          rw [e1] at HF1
          clear Hu e1 e2 hst
          go_wp2_with fail
          refine HF1.out.mono ?_
          rintro e w1 ⟨rfl, b1⟩
          have B1 : Hid (Below w.heap.size w w1) := Bv.out.trans (b1.mono Bv.out.size)
          clear b1 HF1
          go_wp2
          go_ret
          exact ⟨by rw [hr.out]; rfl, B1.out⟩
        · have hr : Hid (RES = QT.under N m x.pr t) := Lib.hid (by rw [Hu.out]; conv => lhs; unfold QT.under; rw [if_neg hst, e2])
          rw [e1] at HF1
          have hin : i < n := by have := (List.getElem?_eq_some_iff.1 ei).1; have := Hl.out; omega
          have h2 : (i : Int) < (n : Int) := by omega
          have h3 : ¬ ((i : Int) < 0) := by omega
          have Ei := Lib.hid ei
          clear Hu e1 e2 hst ei
          go_wp2_with fail
          refine HF1.out.mono ?_
          rintro e w1 ⟨rfl, b1⟩
          have B1 : Hid (Below w.heap.size w w1) := Bv.out.trans (b1.mono Bv.out.size)
          have G1 := Lib.hid ((b1.block _ (Array.getElem?_eq_some_iff.1 Gv.out).1).trans Gv.out)
          obtain ⟨b, o, ea, _, c1, _⟩ := (HNb.out w1 B1.out).at i x Ei.out
          subst ea
          clear t0 t1 b1 HF1
          obtain ⟨t0, t1, _, _⟩ := cells2 G1.out
          go_wp2
          exact ⟨⟨k + 1, x.pr, by omega, by simp, rfl, by rw [Hm.out]; exact hr, B1, G1⟩, by simp [intOf]; omega⟩
    · obtain rfl : k = n + 1 := by omega
      have hr : Hid (RES = false) := Lib.hid (by rw [Hu.out, Nat.sub_self]; rfl)
      have h1 : ¬ (((n + 1 : Nat) : Int) ≤ (n : Int)) := by omega
      clear Hu
      go_wp2
      go_ret
      exact ⟨by rw [hr.out]; rfl, Bv.out⟩
end Go.Proofs.YtkanjdijmdjbaaaGreatDoor
