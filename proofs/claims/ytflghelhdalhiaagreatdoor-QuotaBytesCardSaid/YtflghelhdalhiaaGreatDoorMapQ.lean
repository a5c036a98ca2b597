/-
  The program's maps of nodes and of uses: what the operations on them give, over lists.
  Conditions: keys of at most 2^40 bytes.
-/
import Derived.Test.YtflghelhdalhiaaGreatDoorSli
import Derived.Test.YtflghelhdalhiaaGreatDoorG10
import Derived.Maps.RangeWalk
import Derived.Sort.KeysCollected
import Derived.StringKeys
namespace Go.Proofs.YtflghelhdalhiaaGreatDoor
open Go Go.RowKit Go.Maps

open Classical in
/-- Every value of the kind reads, as itself. -/
noncomputable def heldG {α : Type} (val : α → Value) (v : Value) : Option (DataW Value × List MemPlace) := if ∃ x, v = val x then some (.held v, []) else none
theorem heldG_val {α : Type} (val : α → Value) (x : α) : heldG val (val x) = some (.held (val x), []) := by unfold heldG; rw [if_pos ⟨x, rfl⟩]
theorem heldG_form {α : Type} {val : α → Value} {v : Value} {z : DataW Value × List MemPlace} (h : heldG val v = some z) : (∃ x, v = val x) ∧ z = (.held v, []) := by
  unfold heldG at h
  by_cases e : ∃ x, v = val x
  · rw [if_pos e] at h; exact ⟨e, (Option.some.inj h).symm⟩
  · rw [if_neg e] at h; cases h
theorem held_inj {α : Type} {val : α → Value} {x y : Value} {ps : List MemPlace} (h : heldG val x = some (DataW.held y, ps)) : x = y := by
  have := (heldG_form h).2
  simp only [Prod.mk.injEq, DataW.held.injEq] at this
  exact this.1.symm
def zNd : Value := .agg #[.string .empty, .string .empty, .complex .f64 0 0, .complex .f64 0 0, .complex .f64 0 0]
def zUs : Value := .agg #[.string .empty, .string .empty, .complex .f64 0 0]
def vNd (x : QT.Nd) : Value := .agg #[.string (str x.nm), .string (str x.pr), .complex .f64 (FL.fB x.o1) (FL.fB x.o2), .complex .f64 (FL.fB x.b1) (FL.fB x.b2), .complex .f64 (FL.fB x.l1) (FL.fB x.l2)]
def vUs (x : QT.Us) : Value := .agg #[.string (str x.id), .string (str x.nd), .complex .f64 (FL.fB x.a1) (FL.fB x.a2)]
theorem fB_zero : FL.fB 0 = 0 := FL.fI_zero
theorem zNd_val : zNd = vNd ⟨[], [], 0, 0, 0, 0, 0, 0⟩ := by
  simp only [zNd, vNd, fB_zero]
  rfl
theorem zUs_val : zUs = vUs ⟨[], [], 0, 0⟩ := by
  simp only [zUs, vUs, fB_zero]
  rfl
theorem KS : Tryz.prog.underlying 9 = some .string := Tryz.underlying9
theorem KK : Keyed Tryz.prog 9 := string_keyed KS
theorem zeroNd (w : World) : (zeroValue 43).run Tryz.prog w = .ok zNd w := by
  simp [zeroValue, zNd, Tryz.t43]
  rfl
theorem zeroUs (w : World) : (zeroValue 46).run Tryz.prog w = .ok zUs w := by
  simp [zeroValue, zUs, Tryz.t46]
  rfl
theorem keyStr (s : QT.Str) (h : s.length ≤ 1099511627776) : keyOf Tryz.prog 9 (.string (str s)) = some (.string s) :=
  Go.WideMaps.keyOf_string_mk KS (s := str s) (by rw [str_size]; simp only [maxLen]; omega)
section
variable {α : Type} {key : α → QT.Str} {val : α → Value} {w w' : World} {b n : Nat} {N : List α} {ok : Bool}
def QT.fnd (key : α → QT.Str) (N : List α) (s : QT.Str) : Option α := N.find? fun x => key x == s
theorem QT.fnd_key {s : QT.Str} {x : α} (h : QT.fnd key N s = some x) : key x = s := by
  have := List.find?_some h
  simpa using this
theorem QT.fnd_mem {s : QT.Str} {x : α} (h : QT.fnd key N s = some x) : x ∈ N := List.mem_of_find?_eq_some h
theorem QT.fnd_snoc_same {x : α} (h : QT.fnd key N (key x) = none) : QT.fnd key (N ++ [x]) (key x) = some x := by
  unfold QT.fnd at *
  rw [List.find?_append, h]
  simp
theorem QT.fnd_snoc_other {x : α} {s : QT.Str} (h : key x ≠ s) : QT.fnd key (N ++ [x]) s = QT.fnd key N s := by
  unfold QT.fnd
  rw [List.find?_append]
  simp [h]
/-- The datum reads as the list. -/
def ReadsG (key : α → QT.Str) (val : α → Value) (D : DataW Value) (N : List α) : Prop :=
  (∀ s z, D.atKey (.string s) z = ((QT.fnd key N s).map fun x => DataW.held (val x)).getD z) ∧ Maps.size D = N.length
/-- BLOCK b IS A MAP OF AT MOST n ENTRIES; where all is right ('ok') it holds the list's. -/
def MapD (key : α → QT.Str) (val : α → Value) (ok : Bool) (w : World) (b n : Nat) (N : List α) : Prop :=
  ∃ D : DataW Value, w.ownsMap Tryz.prog 9 (heldG val) b n D ∧ (ok = true → ReadsG key val D N)
theorem MapD.lt (h : MapD key val ok w b n N) : b < w.heap.size := by obtain ⟨D, h, _⟩ := h; exact h.lt
theorem MapD.kept {X : Nat → Prop} (h : MapD key val ok w b n N) (f : Fr X w w') (hx : ¬ X b) : MapD key val ok w' b n N := by
  obtain ⟨D, ⟨es, clock, hb, r⟩, q⟩ := h
  exact ⟨D, ⟨es, clock, f.heap hb hx, r⟩, q⟩
theorem MapD.below (h : MapD key val ok w b n N) (f : Below w.heap.size w w') : MapD key val ok w' b n N := h.kept (X := fun _ => False) (Fr.of_below f) (fun x => x)
theorem MapD.mono {m : Nat} (h : MapD key val ok w b n N) (hm : n ≤ m) : MapD key val ok w b m N := by
  obtain ⟨D, h, q⟩ := h
  exact ⟨D, h.mono hm, q⟩
theorem MapD.not (h : MapD key val ok w b n N) (M : List α) : MapD key val false w b n M := by
  obtain ⟨D, h, _⟩ := h
  exact ⟨D, h, fun e => by cases e⟩
theorem MapD.made (w : World) : MapD key val ok (w.alloc (.map #[] 0)) w.heap.size 0 ([] : List α) :=
  ⟨.map [], World.ownsMap_made _ _ _ _, fun _ => ⟨fun s z => by simp [DataW.atKey, QT.fnd], rfl⟩⟩
theorem ReadsG.has {D : DataW Value} (h : ReadsG key val D N) (s : QT.Str) : Maps.has D (.string s) = (QT.fnd key N s).isSome := by
  cases hf : QT.fnd key N s with
  | none => exact Maps.has_false_of_atKey (fun z => by rw [h.1 s z, hf]; rfl)
  | some x => exact Maps.has_true_of_atKey (y := .held (val x)) (fun z => by rw [h.1 s z, hf]; rfl)
/-- 'm[k]'. -/
theorem MapD.look (h : MapD key val true w b n N) {t e : TypeId} {z : Value} (ht : Tryz.prog.underlying t = some (.map 9 e)) (hz : (zeroValue e).run Tryz.prog w = .ok z w) (hz0 : ∃ x, z = val x) (s : QT.Str) (hs : s.length ≤ 1099511627776) :
    (Instr.lookup t (.map (some b)) (.string (str s)) false).run Tryz.prog w = .ok (((QT.fnd key N s).map val).getD z) w := by
  obtain ⟨D, hown, hr⟩ := h
  obtain ⟨v, ps, hrun, hv⟩ := hown.lookup KK ht hz (zd := .held z) (zp := []) (by obtain ⟨x, rfl⟩ := hz0; exact heldG_val val x) (keyStr s hs)
  rw [hrun, (hr rfl).1 s] at *
  cases hf : QT.fnd key N s with
  | none => rw [hf] at hv; rw [held_inj hv]; rfl
  | some x => rw [hf] at hv; rw [held_inj hv]; rfl
/-- 'v, ok := m[k]'. -/
theorem MapD.lookOk (h : MapD key val true w b n N) {t e : TypeId} {z : Value} (ht : Tryz.prog.underlying t = some (.map 9 e)) (hz : (zeroValue e).run Tryz.prog w = .ok z w) (hz0 : ∃ x, z = val x) (s : QT.Str) (hs : s.length ≤ 1099511627776) :
    (Instr.lookup t (.map (some b)) (.string (str s)) true).run Tryz.prog w = .ok (.tuple #[((QT.fnd key N s).map val).getD z, .bool (QT.fnd key N s).isSome]) w := by
  obtain ⟨D, hown, hr⟩ := h
  obtain ⟨v, ps, hrun, hv⟩ := hown.look_ok KK ht hz (zd := .held z) (zp := []) (by obtain ⟨x, rfl⟩ := hz0; exact heldG_val val x) (keyStr s hs)
  rw [(hr rfl).has] at hrun
  rw [hrun, (hr rfl).1 s] at *
  cases hf : QT.fnd key N s with
  | none => rw [hf] at hv; rw [held_inj hv]; rfl
  | some x => rw [hf] at hv; rw [held_inj hv]; rfl
/-- .. whatever it holds. -/
theorem MapD.lookAny (h : MapD key val ok w b n N) {t e : TypeId} {z : Value} (ht : Tryz.prog.underlying t = some (.map 9 e)) (hz : (zeroValue e).run Tryz.prog w = .ok z w) (hz0 : ∃ x, z = val x) (s : QT.Str) (hs : s.length ≤ 1099511627776) :
    ∃ x q, (Instr.lookup t (.map (some b)) (.string (str s)) true).run Tryz.prog w = .ok (.tuple #[val x, .bool q]) w ∧ (ok = true → q = (QT.fnd key N s).isSome) := by
  obtain ⟨D, hown, hr⟩ := h
  obtain ⟨v, ps, hrun, hv⟩ := hown.look_ok KK ht hz (zd := .held z) (zp := []) (by obtain ⟨x, rfl⟩ := hz0; exact heldG_val val x) (keyStr s hs)
  obtain ⟨⟨x, rfl⟩, _⟩ := heldG_form hv
  exact ⟨x, _, hrun, fun e => (hr e).has s⟩
/-- 'len(m)'. -/
theorem MapD.len (h : MapD key val true w b n N) {t e : TypeId} (ht : Tryz.prog.underlying t = some (.map 9 e)) (ty : TypeId) : (Builtin.len_ #[t] ty #[.map (some b)]).run Tryz.prog w = .ok (.int .i64 (N.length : Nat)) w := by
  obtain ⟨D, hown, hr⟩ := h
  rw [hown.len ht ty, (hr rfl).2]
theorem fr_of_turned (h : w.mapTurned w' b) : Fr (fun j => j = b) w w' := Fr.of_grown h.grown (fun k e => by cases e; rfl)
/-- 'm[k] = v'. -/
theorem MapD.put (h : MapD key val ok w b n N) {t e : TypeId} (ht : Tryz.prog.underlying t = some (.map 9 e)) (hn : n < 1099511627776) (x : α) (hs : (key x).length ≤ 1099511627776) {ok' : Bool} (hk : ok' = true → ok = true ∧ QT.fnd key N (key x) = none) :
    ∃ w', (Instr.mapUpdate t (.map (some b)) (.string (str (key x))) (val x)).run Tryz.prog w = .ok () w' ∧ MapD key val ok' w' b (n + 1) (N ++ [x]) ∧ Fr (fun j => j = b) w w' := by
  obtain ⟨D, hown, hr⟩ := h
  obtain ⟨w', hrun, ho, ht⟩ := hown.store KK ht (by simp only [maxLen]; omega) (keyStr _ hs) (heldG_val val x)
  refine ⟨w', hrun, ⟨_, ho, fun e => ?_⟩, fr_of_turned ht⟩
  obtain ⟨h1, h2⟩ := hk e
  obtain ⟨ha, hsz⟩ := hr h1
  refine ⟨fun s z => ?_, ?_⟩
  · by_cases hq : key x = s
    · subst hq
      rw [Maps.atKey_put_same hown.isMap (show WideAt.IsKeyLit (.string _) from trivial), QT.fnd_snoc_same h2]
      rfl
    · rw [Maps.atKey_put_other (fun e => hq (Lit.string.inj e).symm), QT.fnd_snoc_other hq]
      exact ha s z
  · rw [Maps.size_put (hown.tidy KK), ReadsG.has ⟨ha, hsz⟩, h2, hsz]
    simp
/-- 'delete(m, k)' of what was laid last. -/
theorem MapD.del {x : α} (h : MapD key val true w b n (N ++ [x])) (hx : QT.fnd key N (key x) = none) {t e : TypeId} (ht : Tryz.prog.underlying t = some (.map 9 e)) (hs : (key x).length ≤ 1099511627776) (ty : TypeId) :
    ∃ w', (Builtin.delete_ #[t, 9] ty #[.map (some b), .string (str (key x))]).run Tryz.prog w = .ok (.tuple #[]) w' ∧ MapD key val true w' b n N ∧ Fr (fun j => j = b) w w' := by
  obtain ⟨D, hown, hr⟩ := h
  obtain ⟨w', hrun, ho, ht⟩ := hown.drop KK ht (keyStr _ hs) ty
  obtain ⟨ha, hsz⟩ := hr rfl
  refine ⟨w', hrun, ⟨_, ho, fun _ => ⟨fun s z => ?_, ?_⟩⟩, fr_of_turned ht⟩
  · by_cases hq : key x = s
    · subst hq
      rw [Maps.atKey_del_same, hx]
      rfl
    · rw [Maps.atKey_del_other (fun e => hq (Lit.string.inj e).symm), ha s z, QT.fnd_snoc_other hq]
  · have := Maps.size_del (hown.tidy KK) (k := .string (key x))
    rw [ReadsG.has ⟨ha, hsz⟩, QT.fnd_snoc_same hx, hsz] at this
    simp at this
    omega
/-- A RANGE OVER SUCH A MAP: block r is the iterator; 'left s': the entry of that key is still to come. -/
def RangeG (key : α → QT.Str) (val : α → Value) (w : World) (b r n : Nat) (N : List α) (left : QT.Str → Bool) (cnt : Nat) : Prop :=
  ∃ (D : DataW Value) (lf : Lit → Bool), w.ranges Tryz.prog 9 (heldG val) b r n D lf cnt ∧ ReadsG key val D N ∧ ∀ s, lf (.string s) = left s
variable {r cnt : Nat} {left : QT.Str → Bool}
theorem RangeG.map (h : RangeG key val w b r n N left cnt) : MapD key val true w b n N := by
  obtain ⟨D, lf, h, hr, _⟩ := h
  exact ⟨D, h.owns, fun _ => hr⟩
theorem RangeG.lt (h : RangeG key val w b r n N left cnt) : r < w.heap.size ∧ b < w.heap.size ∧ r ≠ b := by
  obtain ⟨D, lf, h, _, _⟩ := h
  exact ⟨h.lt, h.owns.lt, h.ne⟩
theorem RangeG.left_eq (h : RangeG key val w b r n N left cnt) : w.rangeLeft b r = cnt := by
  obtain ⟨D, lf, h, _, _⟩ := h
  exact h.left_eq
theorem RangeG.kept {X : Nat → Prop} (h : RangeG key val w b r n N left cnt) (f : Fr X w w') (hb : ¬ X b) (hr : ¬ X r) : RangeG key val w' b r n N left cnt := by
  obtain ⟨D, lf, ⟨es, clock, since, seen, c0, h1, h2, h3, h4, h5, h6⟩, q⟩ := h
  exact ⟨D, lf, ⟨es, clock, since, seen, c0, f.heap h1 hb, h2, h3, h4, f.heap h5 hr, h6⟩, q⟩
theorem RangeG.below (h : RangeG key val w b r n N left cnt) (f : Below w.heap.size w w') : RangeG key val w' b r n N left cnt := h.kept (X := fun _ => False) (Fr.of_below f) (fun x => x) (fun x => x)
variable {P : Program} {ops : Array Oper} {rest : List Oper} {o : Oper} {a : Act} {Q : Exit → Act → World → Prop}
/-- 'range m'. -/
theorem wpList_rangeG (hg : o.guard = none) (m : Operand) {t e : TypeId} (hop : o.op = Op.range t m) (ht : Tryz.prog.underlying t = some (.map 9 e)) (h : MapD key val true w b n N) (hm : a.eval m = .map (some b))
    (hK : ∀ w', RangeG key val w' b w.heap.size n N (fun s => (QT.fnd key N s).isSome) N.length → Below w.heap.size w w' → w'.heap.size = w.heap.size + 1 → wpList Tryz.prog ops Q rest (a.put o.dst (.pointer (some ⟨w.heap.size, 0, none⟩))) w') :
    wpList Tryz.prog ops Q (o :: rest) a w := by
  obtain ⟨D, hown, hr⟩ := h
  refine wpList_range_own w hg m t hop _ e KK ht (heldG val) b n D hm hown (fun w' h1 h2 h3 => ?_)
  rw [(hr rfl).2] at h1
  exact hK w' ⟨D, _, h1, hr rfl, fun s => (hr rfl).has s⟩ (Fr.below (Fr.of_grown h2 (fun k e => by cases e))) h3
/-- THE STEP. -/
theorem wpList_nextG (hg : o.guard = none) (it : Operand) (hop : o.op = Op.next it false) (h : RangeG key val w b r n N left cnt) (hit : a.eval it = .pointer (some ⟨r, 0, none⟩))
    (hDone : cnt = 0 → (∀ s, left s = false) → wpList Tryz.prog ops Q rest (a.put o.dst (.tuple #[.bool false])) w)
    (hMore : ∀ (x : α) (w' : World) (cnt' : Nat), x ∈ N → QT.fnd key N (key x) = some x → left (key x) = true → RangeG key val w' b r n N (fun s => left s && !(s == key x)) cnt' → cnt' < cnt → Fr (fun j => j = r) w w' → w'.heap.size = w.heap.size →
      (Instr.entry (.pointer (some ⟨r, 0, none⟩))).run Tryz.prog w' = .ok (.tuple #[.string (str (key x)), val x]) w' → wpList Tryz.prog ops Q rest (a.put o.dst (.tuple #[.bool true, .string (str (key x)), val x])) w') :
    wpList Tryz.prog ops Q (o :: rest) a w := by
  obtain ⟨D, lf, hrg, hr, hl⟩ := h
  refine wpList_next_ranges w hg it hop _ KK (heldG val) (fun s : QT.Str => .string (str s)) (fun v : Value => v) (fun key kl hk => ?_) (fun v y _ => ⟨v, rfl⟩) b r n D lf cnt hit hrg (fun h0 h1 => hDone h0 (fun s => by rw [← hl s]; exact h1 _)) (fun s c kl y w' cnt' hk hlk hv hat hrg' hlt hgr hsz hen => ?_)
  · obtain ⟨x, h1, _⟩ := Maps.keyOf_str KS hk
    exact ⟨x, h1⟩
  · obtain ⟨s', h1, h2, _⟩ := Maps.keyOf_str KS hk
    have es : s = s' := encStr_inj h1
    subst es
    subst h2
    have hy : y = (.held c, []) := (heldG_form hv).2
    subst hy
    cases hf : QT.fnd key N s with
    | none =>
      have e1 := hat (.held (.bool true))
      have e2 := hat (.held (.bool false))
      rw [hr.1 s, hf] at e1 e2
      simp only [Option.map_none, Option.getD_none] at e1 e2
      rw [← e1] at e2
      simp at e2
    | some x =>
      have e1 := hat (.held (.bool true))
      rw [hr.1 s, hf] at e1
      simp only [Option.map_some, Option.getD_some, DataW.held.injEq] at e1
      have hkx := QT.fnd_key hf
      subst e1
      subst hkx
      refine hMore x w' cnt' (QT.fnd_mem hf) hf (by rw [← hl]; exact hlk) ⟨D, _, hrg', hr, fun s => ?_⟩ hlt (Fr.of_grown hgr (fun k e => by cases e; rfl)) hsz hen
      rw [hl s]
      rfl
end
end Go.Proofs.YtflghelhdalhiaaGreatDoor
