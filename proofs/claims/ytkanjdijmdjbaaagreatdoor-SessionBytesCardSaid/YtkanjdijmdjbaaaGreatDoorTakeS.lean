/-
  The memory of the document's Take of a tree: the reader, the results' boxes, the tree, an entry under way; what is read, in plain Lean.
  Conditions: none but those that the theorems' lines name.
-/
import Derived.Test.YtkanjdijmdjbaaaGreatDoorEncQ
import Derived.Test.YtkanjdijmdjbaaaGreatDoorG4
import Derived.Test.YtkanjdijmdjbaaaGreatDoorCountQ
import Derived.Test.YtkanjdijmdjbaaaGreatDoorSli
import Derived.Test.YtkanjdijmdjbaaaGreatDoorG6
namespace Go.Proofs.YtkanjdijmdjbaaaGreatDoor
open Go Go.RowKit

/-! ### what is read -/
theorem QT.readL_split {α : Type} (f : List UInt8 → Nat → α × List UInt8 × Nat) (i : Nat) : ∀ (j : Nat) (l : List UInt8) (k : Nat),
    QT.readL f (i + j) l k = ((QT.readL f i l k).1 ++ (QT.readL f j (QT.readL f i l k).2.1 (QT.readL f i l k).2.2).1, (QT.readL f j (QT.readL f i l k).2.1 (QT.readL f i l k).2.2).2) := by
  induction i with
  | zero => intro j l k; rw [Nat.zero_add]; rfl
  | succ i ih =>
    intro j l k
    rw [show i + 1 + j = i + j + 1 by omega, QT.readL_succ, ih, QT.readL_succ]
    rfl
theorem QT.take_fin {l la lb l1 l2 : List UInt8} {k c1 c2 ka kb k1 k2 i j : Nat} {N : List QT.Nd} {U : List QT.Us} (h1 : PK.countP 256 l k = (c1, la, ka)) (h2 : QT.readL QT.readNd i la ka = (N, l1, k1)) (hi : i ≤ c1) (e1 : k1 = 0 → i = c1)
    (h3 : PK.countP 1024 l1 k1 = (c2, lb, kb)) (h4 : QT.readL QT.readUs j lb kb = (U, l2, k2)) (hj : j ≤ c2) (e2 : k2 = 0 → j = c2) :
    (k2 = 0 ↔ (QT.takeT l k).2.2.2 = 0) ∧ (k2 = 0 → QT.takeT l k = (N, U, l2, 0)) := by
  have fwd : k2 = 0 → QT.takeT l k = (N, U, l2, 0) := by
    intro h0
    have ej := e2 h0
    subst ej
    subst h0
    obtain ⟨rfl, _⟩ := QT.readL_back (fun h => QT.readUs_back h) j h4
    obtain ⟨rfl, _⟩ := PK.count_back h3
    have ei := e1 rfl
    subst ei
    unfold QT.takeT
    simp only [h1, h2, h3, h4]
  refine ⟨⟨fun h0 => by rw [fwd h0], fun h => ?_⟩, fwd⟩
  unfold QT.takeT at h
  simp only [h1] at h
  obtain ⟨M, lm, km, hm⟩ : ∃ v l' k', QT.readL QT.readNd c1 la ka = (v, l', k') := ⟨_, _, _, rfl⟩
  simp only [hm] at h
  obtain ⟨m, ln, kn, hn⟩ : ∃ v l' k', PK.countP 1024 lm km = (v, l', k') := ⟨_, _, _, rfl⟩
  simp only [hn] at h
  obtain ⟨X, lx, kx, hx⟩ : ∃ v l' k', QT.readL QT.readUs m ln kn = (v, l', k') := ⟨_, _, _, rfl⟩
  rw [hx] at h
  simp only at h
  subst h
  obtain ⟨rfl, _⟩ := QT.readL_back (fun h => QT.readUs_back h) m hx
  obtain ⟨rfl, _⟩ := PK.count_back hn
  have hs := QT.readL_split QT.readNd i (c1 - i) la ka
  rw [show i + (c1 - i) = c1 by omega, hm, h2] at hs
  simp only [Prod.mk.injEq] at hs
  obtain ⟨v, l', k', hr⟩ : ∃ v l' k', QT.readL QT.readNd (c1 - i) l1 k1 = (v, l', k') := ⟨_, _, _, rfl⟩
  rw [hr] at hs
  have hk0 : k' = 0 := (congrArg Prod.snd hs.2).symm
  subst hk0
  obtain ⟨hk1, _⟩ := QT.readL_back (fun h => QT.readNd_back h) (c1 - i) hr
  have ei := e1 hk1
  subst ei
  subst hk1
  rw [hm] at h2
  simp only [Prod.mk.injEq] at h2
  obtain ⟨rfl, rfl, _⟩ := h2
  rw [hn] at h3
  simp only [Prod.mk.injEq] at h3
  obtain ⟨rfl, rfl, rfl⟩ := h3
  have hs2 := QT.readL_split QT.readUs j (m - j) ln 0
  rw [show j + (m - j) = m by omega, hx, h4] at hs2
  simp only [Prod.mk.injEq] at hs2
  obtain ⟨v2, l'2, k'2, hr2⟩ : ∃ v l' k', QT.readL QT.readUs (m - j) l2 k2 = (v, l', k') := ⟨_, _, _, rfl⟩
  rw [hr2] at hs2
  have hk2 : k'2 = 0 := (congrArg Prod.snd hs2.2).symm
  subst hk2
  exact (QT.readL_back (fun h => QT.readUs_back h) (m - j) hr2).1
theorem QT.run_rest (l : List UInt8) (k : Nat) : (PK.runP 116 32 l k).2.1.length ≤ l.length := by
  unfold PK.runP
  split
  · exact Nat.le_refl _
  · split
    · exact Nat.le_refl _
    · split
      · exact Nat.le_refl _
      · split
        · exact Nat.le_refl _
        · simp
theorem QT.uint_rest (m : Nat) (l : List UInt8) (k : Nat) : (PK.uintP m l k).2.1.length ≤ l.length := by
  unfold PK.uintP
  split
  · exact Nat.le_refl _
  · split
    · exact Nat.le_refl _
    · simp
theorem QT.count_rest (m : Int) (l : List UInt8) (k : Nat) : (PK.countP m l k).2.1.length ≤ l.length := by
  unfold PK.countP
  have := QT.uint_rest m.toNat l k
  split
  · exact Nat.le_refl _
  · split
    · exact Nat.le_refl _
    · exact this
theorem QT.count_cap (m : Nat) (l : List UInt8) (k : Nat) : (PK.countP m l k).1 ≤ m := by
  unfold PK.countP
  have := QT.uint_cap m l k
  split
  · exact Nat.zero_le _
  · split
    · exact Nat.zero_le _
    · exact this

/-! ### the memory -/
theorem IsB.kept8q {X : Nat → Prop} {w w' : World} {v : Value} {l : List UInt8} (h : IsB w v l) (f : Fr X w w') (hx : ∀ k, X k → ∀ j n, w.cell? ⟨k, j, none⟩ ≠ some (.int .u8 n)) : IsB w' v l := by
  obtain ⟨a, cap, rfl, h1, h2, h0, h3⟩ := h
  refine ⟨a, cap, rfl, h1, h2, h0, ?_⟩
  rcases h3 with h3 | ⟨b, o, rfl, hc⟩
  · exact .inl h3
  · exact .inr ⟨b, o, rfl, fun i hi => f.cell (hc i hi) (fun q => hx b q _ _ (hc i hi))⟩
theorem OwnNd.no8 {w : World} {v : Value} {xs : List QT.Nd} (h : OwnNd w v xs) : ∀ b, v.ownBlock = some b → ∀ j n, w.cell? ⟨b, j, none⟩ ≠ some (.int .u8 n) := by
  rcases h with ⟨rfl, rfl⟩ | ⟨g, cap, rfl, _, _, _, _, _, h5⟩
  · intro b hb; simp [Value.ownBlock] at hb
  · intro b hb; simp [Value.ownBlock] at hb; subst hb; exact h5
theorem OwnUs.no8 {w : World} {v : Value} {xs : List QT.Us} (h : OwnUs w v xs) : ∀ b, v.ownBlock = some b → ∀ j n, w.cell? ⟨b, j, none⟩ ≠ some (.int .u8 n) := by
  rcases h with ⟨rfl, rfl⟩ | ⟨g, cap, rfl, _, _, _, _, _, h5⟩
  · intro b hb; simp [Value.ownBlock] at hb
  · intro b hb; simp [Value.ownBlock] at hb; subst hb; exact h5
theorem OwnNd.rds {w : World} {v : Value} {xs : List QT.Nd} (h : OwnNd w v xs) : RdsNd w v xs := by
  rcases h with ⟨rfl, rfl⟩ | ⟨g, cap, rfl, h1, h2, _, h3, _, _⟩
  · exact ⟨none, 0, rfl, Nat.le_refl _, Nat.zero_le _, .inl rfl⟩
  · refine ⟨_, cap, rfl, h1, h2, .inr ⟨g, 0, rfl, fun i x hx j u hu => ?_⟩⟩
    have hi := (List.getElem?_eq_some_iff.1 hx).1
    have hj : j < 5 := (List.getElem?_eq_some_iff.1 hu).1
    rw [Nat.zero_add, h3 _ (by omega), evsNd_get xs i j x hx hj]
    exact hu
theorem OwnUs.rds {w : World} {v : Value} {xs : List QT.Us} (h : OwnUs w v xs) : RdsUs w v xs := by
  rcases h with ⟨rfl, rfl⟩ | ⟨g, cap, rfl, h1, h2, _, h3, _, _⟩
  · exact ⟨none, 0, rfl, Nat.le_refl _, Nat.zero_le _, .inl rfl⟩
  · refine ⟨_, cap, rfl, h1, h2, .inr ⟨g, 0, rfl, fun i x hx j u hu => ?_⟩⟩
    have hi := (List.getElem?_eq_some_iff.1 hx).1
    have hj : j < 3 := (List.getElem?_eq_some_iff.1 hu).1
    rw [Nat.zero_add, h3 _ (by omega), evsUs_get xs i j x hx hj]
    exact hu
/-- Take's memory. -/
structure TkS (w V : World) (a : Option Addr) (n c : Nat) (l : List UInt8) (k : Nat) (vN : Value) (N : List QT.Nd) (vU : Value) (U : List QT.Us) : Prop where
  be : Below w.heap.size w V
  rd : V.heap[w.heap.size]? = some (.cells #[.slice a n c, .int .i64 k] 80)
  r1 : V.heap[w.heap.size + 1]? = some (.cells #[.slice none 0 0, .int .i64 0] 80)
  r2 : V.heap[w.heap.size + 1 + 1]? = some (.cells #[.slice none 0 0, .slice none 0 0] 32)
  tb : V.heap[w.heap.size + 1 + 1 + 1]? = some (.cells #[vN, vU] 32)
  is : IsB V (.slice a n c) l
  hn : l.length = n
  lr : l.length ≤ roomB
  oN : OwnNd V vN N
  oU : OwnUs V vU U
  bN : ∀ b, vN.ownBlock = some b → w.heap.size + 3 < b
  bU : ∀ b, vU.ownBlock = some b → w.heap.size + 3 < b
  ne : ∀ b, vN.ownBlock = some b → vU.ownBlock ≠ some b
section
variable {w V V' : World} {a a' : Option Addr} {n n' c c' k k' X i : Nat} {l l' : List UInt8} {vN vN' : Value} {N : List QT.Nd} {vU vU' : Value} {U : List QT.Us} {cs cs' : Array Value} {t : TypeId} {x y : Value}
theorem TkS.lt (h : TkS w V a n c l k vN N vU U) : w.heap.size + 3 < V.heap.size := (Array.getElem?_eq_some_iff.1 h.tb).1
theorem TkS.fr {X : Nat → Prop} (h : TkS w V a n c l k vN N vU U) (f : Fr X V V') (hx : ∀ q, X q → w.heap.size + 3 < q) (h8 : ∀ q, X q → ∀ j m, V.cell? ⟨q, j, none⟩ ≠ some (.int .u8 m))
    (hN : ∀ b, vN.ownBlock = some b → ¬ X b) (hU : ∀ b, vU.ownBlock = some b → ¬ X b) : TkS w V' a n c l k vN N vU U :=
  ⟨h.be.trans ⟨f.os, f.tape, f.output, f.size, fun q hq => f.block q (Nat.lt_of_lt_of_le hq h.be.size) (fun x => by have := hx q x; omega)⟩,
   f.heap h.rd (fun x => by have := hx _ x; omega), f.heap h.r1 (fun x => by have := hx _ x; omega), f.heap h.r2 (fun x => by have := hx _ x; omega), f.heap h.tb (fun x => by have := hx _ x; omega),
   h.is.kept8q f h8, h.hn, h.lr, h.oN.kept f hN, h.oU.kept f hU, h.bN, h.bU, h.ne⟩
theorem TkS.below (h : TkS w V a n c l k vN N vU U) (f : Below V.heap.size V V') : TkS w V' a n c l k vN N vU U :=
  h.fr (X := fun _ => False) (Fr.of_below f) (fun _ x => x.elim) (fun _ x => x.elim) (fun _ _ x => x) (fun _ _ x => x)
theorem TkS.no1 (h : TkS w V a n c l k vN N vU U) (j : Nat) (m : Int) : V.cell? ⟨w.heap.size, j, none⟩ ≠ some (.int .u8 m) := by
  intro e
  simp only [World.cell?, h.rd] at e
  rcases j with _ | _ | j <;> simp at e
theorem OwnNd.v8 {w : World} {v : Value} {xs : List QT.Nd} (h : OwnNd w v xs) (n : Int) : v ≠ .int .u8 n := by
  rcases h with ⟨rfl, rfl⟩ | ⟨g, cap, rfl, _⟩ <;> simp
theorem OwnUs.v8 {w : World} {v : Value} {xs : List QT.Us} (h : OwnUs w v xs) (n : Int) : v ≠ .int .u8 n := by
  rcases h with ⟨rfl, rfl⟩ | ⟨g, cap, rfl, _⟩ <;> simp
/-- The reader turns. -/
theorem TkS.putR (h : TkS w V a n c l k vN N vU U) (hi : IsB V (.slice a' n' c') l') (hn : l'.length = n') (hl : l'.length ≤ roomB) : TkS w (put2q V w.heap.size a' n' c' k') a' n' c' l' k' vN N vU U := by
  have f : Fr (fun j => j = w.heap.size) V (put2q V w.heap.size a' n' c' k') := put2q_fr (fun j => j = w.heap.size) V w.heap.size rfl a' n' c' k'
  exact ⟨h.be.trans ⟨f.os, f.tape, f.output, f.size, fun q hq => f.block q (Nat.lt_of_lt_of_le hq h.be.size) (by omega)⟩, stored2 h.rd _ _,
    f.heap h.r1 (by omega), f.heap h.r2 (by omega), f.heap h.tb (by omega), hi.kept8q f (fun q hq => by subst hq; exact h.no1), hn, hl,
    h.oN.kept f (fun b hb e => by have := h.bN b hb; omega), h.oU.kept f (fun b hb e => by have := h.bU b hb; omega), h.bN, h.bU, h.ne⟩
/-- .. and an entry under way. -/
structure TkX (w V : World) (X : Nat) (cs : Array Value) (t : TypeId) (a : Option Addr) (n c : Nat) (l : List UInt8) (k : Nat) (vN : Value) (N : List QT.Nd) (vU : Value) (U : List QT.Us) : Prop where
  s : TkS w V a n c l k vN N vU U
  xb : V.heap[X]? = some (.cells cs t)
  oX : w.heap.size + 3 < X
  xN : ∀ b, vN.ownBlock = some b → b ≠ X
  xU : ∀ b, vU.ownBlock = some b → b ≠ X
  h8 : ∀ (j : Nat) (n : Int), cs[j]? ≠ some (.int .u8 n)
theorem TkX.new (h : TkS w V a n c l k vN N vU U) (h8 : ∀ (j : Nat) (n : Int), cs[j]? ≠ some (.int .u8 n)) : TkX w (V.alloc (.cells cs t)) V.heap.size cs t a n c l k vN N vU U :=
  ⟨h.below ((Below.refl _ _).alloc (Nat.le_refl _) _), heap_alloc_new _ _, h.lt, fun b hb => Nat.ne_of_lt (h.oN.lt b hb), fun b hb => Nat.ne_of_lt (h.oU.lt b hb), h8⟩
theorem TkX.below (h : TkX w V X cs t a n c l k vN N vU U) (f : Below V.heap.size V V') : TkX w V' X cs t a n c l k vN N vU U :=
  ⟨h.s.below f, (f.block _ (Array.getElem?_eq_some_iff.1 h.xb).1).trans h.xb, h.oX, h.xN, h.xU, h.h8⟩
theorem TkX.noX (h : TkX w V X cs t a n c l k vN N vU U) (j : Nat) (m : Int) : V.cell? ⟨X, j, none⟩ ≠ some (.int .u8 m) := by
  intro e
  simp only [World.cell?, h.xb] at e
  exact h.h8 j m e
theorem TkX.putR (h : TkX w V X cs t a n c l k vN N vU U) (hi : IsB V (.slice a' n' c') l') (hn : l'.length = n') (hl : l'.length ≤ roomB) : TkX w (put2q V w.heap.size a' n' c' k') X cs t a' n' c' l' k' vN N vU U := by
  have f : Fr (fun j => j = w.heap.size) V (put2q V w.heap.size a' n' c' k') := put2q_fr (fun j => j = w.heap.size) V w.heap.size rfl a' n' c' k'
  exact ⟨h.s.putR hi hn hl, f.heap h.xb (by have := h.oX; omega), h.oX, h.xN, h.xU, h.h8⟩
/-- A cell of the entry turns. -/
theorem TkX.putX (h : TkX w V X cs t a n c l k vN N vU U) (i : Nat) (v : Value) (hv : ∀ m, v ≠ .int .u8 m) (hs : cs.setIfInBounds i v = cs') : TkX w (V.setCell ⟨X, i, none⟩ v) X cs' t a n c l k vN N vU U := by
  have f : Fr (fun j => j = X) V (V.setCell ⟨X, i, none⟩ v) := Fr.setCell (X := fun j => j = X) (Fr.refl _ _) (fun _ => rfl) _
  have hX := h.oX
  refine ⟨h.s.fr f (fun q hq => by subst hq; exact hX) (fun q hq => by subst hq; exact h.noX) (fun b hb e => h.xN b hb e) (fun b hb e => h.xU b hb e), ?_, hX, h.xN, h.xU, ?_⟩
  · rw [← hs]
    simp only [World.setCell, Array.getElem?_modify, if_true, h.xb, Option.map_some]
    simp
  · rw [← hs]
    intro j m e
    rw [Array.getElem?_setIfInBounds] at e
    split at e
    · split at e
      · exact hv m (Option.some.inj e)
      · cases e
    · exact h.h8 j m e
theorem stored2b {w : World} {M : Nat} {x0 y0 : Value} {t : TypeId} (h : w.heap[M]? = some (.cells #[x0, y0] t)) (y : Value) : (w.setCell ⟨M, 1, none⟩ y).heap[M]? = some (.cells #[x0, y] t) := by
  simp only [World.setCell, Array.getElem?_modify, if_true, h, Option.map_some]
  simp
/-- A node more. -/
theorem TkX.putN (h : TkX w V X cs t a n c l k vN N vU U) (o : Obj) {V8 V9 : World} (e8 : V8 = V.alloc o) (f : Fr (fun q => vN.ownBlock = some q) V8 V9) {a' : Option Addr} {n' c' : Nat} {N' : List QT.Nd} (o9 : OwnNd V9 (.slice a' n' c') N')
    (nb : Value.ownBlock (.slice a' n' c') = vN.ownBlock ∨ ∃ g, a' = some ⟨g, 0, none⟩ ∧ V8.heap.size ≤ g) : TkS w (V9.setCell ⟨w.heap.size + 1 + 1 + 1, 0, none⟩ (.slice a' n' c')) a n c l k (.slice a' n' c') N' vU U := by
  subst e8
  have h1 := h.s.below ((Below.refl _ V).alloc (Nat.le_refl _) o)
  have hlt := h.s.lt
  have hsz : (V.alloc o).heap.size = V.heap.size + 1 := by simp
  have f2 : Fr (fun j => j = w.heap.size + 1 + 1 + 1) V9 (V9.setCell ⟨w.heap.size + 1 + 1 + 1, 0, none⟩ (.slice a' n' c')) := Fr.setCell (X := fun j => j = w.heap.size + 1 + 1 + 1) (Fr.refl _ _) (fun _ => rfl) _
  have b9 : ∀ b, Value.ownBlock (.slice a' n' c') = some b → w.heap.size + 3 < b ∧ vU.ownBlock ≠ some b := fun b hb => by
    rcases nb with e | ⟨g, rfl, hg⟩
    · rw [e] at hb; exact ⟨h1.bN b hb, h1.ne b hb⟩
    · simp [Value.ownBlock] at hb
      subst hb
      refine ⟨by omega, fun e => ?_⟩
      have := h.s.oU.lt g e
      omega
  have is9 := h1.is.kept8q f (fun q hq => h1.oN.no8 q hq)
  have rd9 := f.heap h1.rd (fun e => by have := h1.bN _ e; omega)
  have r19 := f.heap h1.r1 (fun e => by have := h1.bN _ e; omega)
  have r29 := f.heap h1.r2 (fun e => by have := h1.bN _ e; omega)
  have tb9 := f.heap h1.tb (fun e => by have := h1.bN _ e; omega)
  have no9 : ∀ j m, V9.cell? ⟨w.heap.size + 1 + 1 + 1, j, none⟩ ≠ some (.int .u8 m) := fun j m e => by
    simp only [World.cell?, tb9] at e
    rcases j with _ | _ | j
    · simp at e; exact h1.oN.v8 m e
    · simp at e; exact h1.oU.v8 m e
    · simp at e
  have be9 : Below w.heap.size w V9 := h1.be.trans ⟨f.os, f.tape, f.output, f.size, fun q hq => f.block q (Nat.lt_of_lt_of_le hq h1.be.size) (fun e => by have := h1.bN _ e; omega)⟩
  exact ⟨be9.trans ⟨f2.os, f2.tape, f2.output, f2.size, fun q hq => f2.block q (Nat.lt_of_lt_of_le hq be9.size) (by omega)⟩,
    f2.heap rd9 (by omega), f2.heap r19 (by omega), f2.heap r29 (by omega), stored1 tb9 _,
    is9.kept8q f2 (fun q hq => by subst hq; exact no9), h.s.hn, h.s.lr,
    o9.kept f2 (fun b hb e => by have := (b9 b hb).1; omega), (h1.oU.kept f (fun b hb e => h1.ne b e hb)).kept f2 (fun b hb e => by have := h.s.bU b hb; omega),
    fun b hb => (b9 b hb).1, h.s.bU, fun b hb => (b9 b hb).2⟩
/-- A use more. -/
theorem TkX.putU (h : TkX w V X cs t a n c l k vN N vU U) (o : Obj) {V8 V9 : World} (e8 : V8 = V.alloc o) (f : Fr (fun q => vU.ownBlock = some q) V8 V9) {a' : Option Addr} {n' c' : Nat} {U' : List QT.Us} (o9 : OwnUs V9 (.slice a' n' c') U')
    (nb : Value.ownBlock (.slice a' n' c') = vU.ownBlock ∨ ∃ g, a' = some ⟨g, 0, none⟩ ∧ V8.heap.size ≤ g) : TkS w (V9.setCell ⟨w.heap.size + 1 + 1 + 1, 1, none⟩ (.slice a' n' c')) a n c l k vN N (.slice a' n' c') U' := by
  subst e8
  have h1 := h.s.below ((Below.refl _ V).alloc (Nat.le_refl _) o)
  have hlt := h.s.lt
  have hsz : (V.alloc o).heap.size = V.heap.size + 1 := by simp
  have f2 : Fr (fun j => j = w.heap.size + 1 + 1 + 1) V9 (V9.setCell ⟨w.heap.size + 1 + 1 + 1, 1, none⟩ (.slice a' n' c')) := Fr.setCell (X := fun j => j = w.heap.size + 1 + 1 + 1) (Fr.refl _ _) (fun _ => rfl) _
  have b9 : ∀ b, Value.ownBlock (.slice a' n' c') = some b → w.heap.size + 3 < b ∧ vN.ownBlock ≠ some b := fun b hb => by
    rcases nb with e | ⟨g, rfl, hg⟩
    · rw [e] at hb; exact ⟨h1.bU b hb, fun q => h1.ne b q hb⟩
    · simp [Value.ownBlock] at hb
      subst hb
      refine ⟨by omega, fun e => ?_⟩
      have := h.s.oN.lt g e
      omega
  have is9 := h1.is.kept8q f (fun q hq => h1.oU.no8 q hq)
  have rd9 := f.heap h1.rd (fun e => by have := h1.bU _ e; omega)
  have r19 := f.heap h1.r1 (fun e => by have := h1.bU _ e; omega)
  have r29 := f.heap h1.r2 (fun e => by have := h1.bU _ e; omega)
  have tb9 := f.heap h1.tb (fun e => by have := h1.bU _ e; omega)
  have no9 : ∀ j m, V9.cell? ⟨w.heap.size + 1 + 1 + 1, j, none⟩ ≠ some (.int .u8 m) := fun j m e => by
    simp only [World.cell?, tb9] at e
    rcases j with _ | _ | j
    · simp at e; exact h1.oN.v8 m e
    · simp at e; exact h1.oU.v8 m e
    · simp at e
  have be9 : Below w.heap.size w V9 := h1.be.trans ⟨f.os, f.tape, f.output, f.size, fun q hq => f.block q (Nat.lt_of_lt_of_le hq h1.be.size) (fun e => by have := h1.bU _ e; omega)⟩
  exact ⟨be9.trans ⟨f2.os, f2.tape, f2.output, f2.size, fun q hq => f2.block q (Nat.lt_of_lt_of_le hq be9.size) (by omega)⟩,
    f2.heap rd9 (by omega), f2.heap r19 (by omega), f2.heap r29 (by omega), stored2b tb9 _,
    is9.kept8q f2 (fun q hq => by subst hq; exact no9), h.s.hn, h.s.lr,
    (h1.oN.kept f (fun b hb e => h1.ne b hb e)).kept f2 (fun b hb e => by have := h.s.bN b hb; omega), o9.kept f2 (fun b hb e => by have := (b9 b hb).1; omega),
    h.s.bN, fun b hb => (b9 b hb).1, fun b hb e => (b9 b e).2 hb⟩
end
end Go.Proofs.YtkanjdijmdjbaaaGreatDoor
