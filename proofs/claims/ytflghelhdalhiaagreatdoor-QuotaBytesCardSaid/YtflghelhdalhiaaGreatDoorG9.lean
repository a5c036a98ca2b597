/-
  A tree of nodes and uses as bytes, in plain Lean: what is read off any bytes, and that what is read is laid as the same bytes again. No program.
  quota.named and the document's Named, by contracts.
  Conditions: the text is at most 2^47 long.
  Names that rise, in plain Lean: what both sides ask of a tree's names, one by one; that such nodes have one name each. No program.
-/
import Derived.Test.YtflghelhdalhiaaGreatDoorMsgP
import Derived.Test.YtflghelhdalhiaaGreatDoorQuoP
import Derived.Test.YtflghelhdalhiaaGreatDoorG4
import GoSem.Op.String
namespace Go.Proofs.YtflghelhdalhiaaGreatDoor.QT
open Go.Proofs.YtflghelhdalhiaaGreatDoor

def cap : Nat := 1099511627776
/-- A text as laid. -/
def xB (d : Str) : List UInt8 := 116 :: Lib.decDigits d.length ++ [58] ++ d
def encNd (n : Nd) : List UInt8 := xB n.nm ++ xB n.pr ++ PK.uB n.o1 ++ PK.uB n.o2 ++ PK.uB n.b1 ++ PK.uB n.b2 ++ PK.uB n.l1 ++ PK.uB n.l2
def encUs (u : Us) : List UInt8 := xB u.id ++ xB u.nd ++ PK.uB u.a1 ++ PK.uB u.a2
def encL {α : Type} (f : α → List UInt8) : List α → List UInt8
  | [] => []
  | x :: r => f x ++ encL f r
def encT (N : List Nd) (V : List Us) : List UInt8 := PK.uB N.length ++ encL encNd N ++ PK.uB V.length ++ encL encUs V
/-- What is read. -/
def readNd (l : List UInt8) (k : Nat) : Nd × List UInt8 × Nat :=
  let a := PK.runP 116 32 l k
  let b := PK.runP 116 32 a.2.1 a.2.2
  let c := PK.uintP cap b.2.1 b.2.2
  let d := PK.uintP cap c.2.1 c.2.2
  let e := PK.uintP cap d.2.1 d.2.2
  let f := PK.uintP cap e.2.1 e.2.2
  let g := PK.uintP cap f.2.1 f.2.2
  let h := PK.uintP cap g.2.1 g.2.2
  (⟨a.1, b.1, c.1, d.1, e.1, f.1, g.1, h.1⟩, h.2.1, h.2.2)
def readUs (l : List UInt8) (k : Nat) : Us × List UInt8 × Nat :=
  let a := PK.runP 116 32 l k
  let b := PK.runP 116 32 a.2.1 a.2.2
  let c := PK.uintP cap b.2.1 b.2.2
  let d := PK.uintP cap c.2.1 c.2.2
  (⟨a.1, b.1, c.1, d.1⟩, d.2.1, d.2.2)
/-- So many of them, whatever the error. -/
def readL {α : Type} (f : List UInt8 → Nat → α × List UInt8 × Nat) : Nat → List UInt8 → Nat → List α × List UInt8 × Nat
  | 0, l, k => ([], l, k)
  | n + 1, l, k => ((f l k).1 :: (readL f n (f l k).2.1 (f l k).2.2).1, (readL f n (f l k).2.1 (f l k).2.2).2)
theorem readL_succ {α : Type} (f : List UInt8 → Nat → α × List UInt8 × Nat) (n : Nat) (l : List UInt8) (k : Nat) :
    readL f (n + 1) l k = ((f l k).1 :: (readL f n (f l k).2.1 (f l k).2.2).1, (readL f n (f l k).2.1 (f l k).2.2).2) := rfl
/-- The last one behind the others. -/
theorem readL_snoc {α : Type} (f : List UInt8 → Nat → α × List UInt8 × Nat) (n : Nat) : ∀ (l : List UInt8) (k : Nat),
    readL f (n + 1) l k = ((readL f n l k).1 ++ [(f (readL f n l k).2.1 (readL f n l k).2.2).1], (f (readL f n l k).2.1 (readL f n l k).2.2).2) := by
  induction n with
  | zero => intro l k; rfl
  | succ n ih =>
    intro l k
    rw [readL_succ f (n + 1), ih, readL_succ f n]
    rfl
theorem readL_length {α : Type} (f : List UInt8 → Nat → α × List UInt8 × Nat) (n : Nat) : ∀ (l : List UInt8) (k : Nat), (readL f n l k).1.length = n := by
  induction n with
  | zero => intro l k; rfl
  | succ n ih => intro l k; rw [readL_succ, List.length_cons, ih]
def fineNd (n : Nd) : Prop := (n.nm.length ≤ 32 ∧ n.pr.length ≤ 32) ∧ n.o1 ≤ cap ∧ n.o2 ≤ cap ∧ n.b1 ≤ cap ∧ n.b2 ≤ cap ∧ n.l1 ≤ cap ∧ n.l2 ≤ cap
def fineUs (u : Us) : Prop := (u.id.length ≤ 32 ∧ u.nd.length ≤ 32) ∧ u.a1 ≤ cap ∧ u.a2 ≤ cap
theorem uint_cap (m : Nat) (l : List UInt8) (k : Nat) : (PK.uintP m l k).1 ≤ m := by
  unfold PK.uintP
  split
  · exact Nat.zero_le _
  · split
    · exact Nat.zero_le _
    · simp only; omega
theorem run32_len (l : List UInt8) (k : Nat) : (PK.runP 116 32 l k).1.length ≤ 32 := by
  unfold PK.runP
  split
  · simp
  · split
    · simp
    · split
      · simp
      · split
        · simp
        · rw [List.length_take]; omega
theorem fine_readNd (l : List UInt8) (k : Nat) : fineNd (readNd l k).1 := by
  unfold readNd fineNd
  simp only
  exact ⟨⟨run32_len _ _, run32_len _ _⟩, uint_cap cap _ _, uint_cap cap _ _, uint_cap cap _ _, uint_cap cap _ _, uint_cap cap _ _, uint_cap cap _ _⟩
theorem fine_readUs (l : List UInt8) (k : Nat) : fineUs (readUs l k).1 := by
  unfold readUs fineUs
  simp only
  exact ⟨⟨run32_len _ _, run32_len _ _⟩, uint_cap cap _ _, uint_cap cap _ _⟩
theorem readL_all {α : Type} {f : List UInt8 → Nat → α × List UInt8 × Nat} {p : α → Prop} (h : ∀ l k, p (f l k).1) (n : Nat) : ∀ (l : List UInt8) (k : Nat), ∀ x ∈ (readL f n l k).1, p x := by
  induction n with
  | zero => intro l k x hx; cases hx
  | succ n ih =>
    intro l k x hx
    rw [readL_succ] at hx
    rcases List.mem_cons.1 hx with rfl | hx
    · exact h l k
    · exact ih _ _ x hx
theorem text_back {l d l' : List UInt8} {k : Nat} (h : PK.runP 116 32 l k = (d, l', 0)) : k = 0 ∧ l = xB d ++ l' := by
  obtain ⟨h1, _, _, h2⟩ := PK.run_back h
  exact ⟨h1, h2⟩
theorem readNd_back {l l' : List UInt8} {k : Nat} {n : Nd} (h : readNd l k = (n, l', 0)) : k = 0 ∧ l = encNd n ++ l' := by
  unfold readNd at h
  obtain ⟨va, la, ka, ha⟩ : ∃ v l' k', PK.runP 116 32 l k = (v, l', k') := ⟨_, _, _, rfl⟩
  obtain ⟨vb, lb, kb, hb⟩ : ∃ v l' k', PK.runP 116 32 la ka = (v, l', k') := ⟨_, _, _, rfl⟩
  obtain ⟨vc, lc, kc, hc⟩ : ∃ v l' k', PK.uintP cap lb kb = (v, l', k') := ⟨_, _, _, rfl⟩
  obtain ⟨vd, ld, kd, hd⟩ : ∃ v l' k', PK.uintP cap lc kc = (v, l', k') := ⟨_, _, _, rfl⟩
  obtain ⟨ve, le, ke, he⟩ : ∃ v l' k', PK.uintP cap ld kd = (v, l', k') := ⟨_, _, _, rfl⟩
  obtain ⟨vf, lf, kf, hf⟩ : ∃ v l' k', PK.uintP cap le ke = (v, l', k') := ⟨_, _, _, rfl⟩
  obtain ⟨vg, lg, kg, hg⟩ : ∃ v l' k', PK.uintP cap lf kf = (v, l', k') := ⟨_, _, _, rfl⟩
  obtain ⟨vh, lh, kh, hh⟩ : ∃ v l' k', PK.uintP cap lg kg = (v, l', k') := ⟨_, _, _, rfl⟩
  simp only [ha, hb, hc, hd, he, hf, hg, hh, Prod.mk.injEq] at h
  obtain ⟨rfl, rfl, rfl⟩ := h
  obtain ⟨rfl, _, _, eh⟩ := PK.uint_back hh
  obtain ⟨rfl, _, _, eg⟩ := PK.uint_back hg
  obtain ⟨rfl, _, _, ef⟩ := PK.uint_back hf
  obtain ⟨rfl, _, _, ee⟩ := PK.uint_back he
  obtain ⟨rfl, _, _, ed⟩ := PK.uint_back hd
  obtain ⟨rfl, _, _, ec⟩ := PK.uint_back hc
  obtain ⟨rfl, eb⟩ := text_back hb
  obtain ⟨rfl, ea⟩ := text_back ha
  refine ⟨rfl, ?_⟩
  rw [ea, eb, ec, ed, ee, ef, eg, eh]
  simp [encNd]
theorem readUs_back {l l' : List UInt8} {k : Nat} {n : Us} (h : readUs l k = (n, l', 0)) : k = 0 ∧ l = encUs n ++ l' := by
  unfold readUs at h
  obtain ⟨va, la, ka, ha⟩ : ∃ v l' k', PK.runP 116 32 l k = (v, l', k') := ⟨_, _, _, rfl⟩
  obtain ⟨vb, lb, kb, hb⟩ : ∃ v l' k', PK.runP 116 32 la ka = (v, l', k') := ⟨_, _, _, rfl⟩
  obtain ⟨vc, lc, kc, hc⟩ : ∃ v l' k', PK.uintP cap lb kb = (v, l', k') := ⟨_, _, _, rfl⟩
  obtain ⟨vd, ld, kd, hd⟩ : ∃ v l' k', PK.uintP cap lc kc = (v, l', k') := ⟨_, _, _, rfl⟩
  simp only [ha, hb, hc, hd, Prod.mk.injEq] at h
  obtain ⟨rfl, rfl, rfl⟩ := h
  obtain ⟨rfl, _, _, ed⟩ := PK.uint_back hd
  obtain ⟨rfl, _, _, ec⟩ := PK.uint_back hc
  obtain ⟨rfl, eb⟩ := text_back hb
  obtain ⟨rfl, ea⟩ := text_back ha
  refine ⟨rfl, ?_⟩
  rw [ea, eb, ec, ed]
  simp [encUs]
theorem readL_back {α : Type} {f : List UInt8 → Nat → α × List UInt8 × Nat} {e : α → List UInt8} (hf : ∀ {l l' k n}, f l k = (n, l', 0) → k = 0 ∧ l = e n ++ l') (n : Nat) :
    ∀ {l : List UInt8} {k : Nat} {L : List α} {l' : List UInt8}, readL f n l k = (L, l', 0) → k = 0 ∧ l = encL e L ++ l' := by
  induction n with
  | zero =>
    intro l k L l' h
    change (([] : List α), l, k) = (L, l', 0) at h
    simp only [Prod.mk.injEq] at h
    obtain ⟨rfl, rfl, rfl⟩ := h
    exact ⟨rfl, rfl⟩
  | succ n ih =>
    intro l k L l' h
    rw [readL_succ] at h
    obtain ⟨x, l1, k1, hx⟩ : ∃ x l1 k1, f l k = (x, l1, k1) := ⟨_, _, _, rfl⟩
    obtain ⟨r, l2, k2, hr⟩ : ∃ x l2 k2, readL f n l1 k1 = (x, l2, k2) := ⟨_, _, _, rfl⟩
    rw [hx] at h
    simp only at h
    rw [hr] at h
    simp only [Prod.mk.injEq] at h
    obtain ⟨rfl, rfl, rfl⟩ := h
    obtain ⟨rfl, e1⟩ := ih hr
    obtain ⟨rfl, e2⟩ := hf hx
    exact ⟨rfl, by rw [e2, e1]; simp [encL]⟩
/-- All that is read: the nodes, the uses, what is left, the error. -/
def takeT (l : List UInt8) (k : Nat) : List Nd × List Us × List UInt8 × Nat :=
  let a := PK.countP 256 l k
  let b := readL readNd a.1 a.2.1 a.2.2
  let c := PK.countP 1024 b.2.1 b.2.2
  let d := readL readUs c.1 c.2.1 c.2.2
  (b.1, d.1, d.2.1, d.2.2)
theorem takeT_back {l l' : List UInt8} {k : Nat} {N : List Nd} {V : List Us} (h : takeT l k = (N, V, l', 0)) : k = 0 ∧ l = encT N V ++ l' := by
  unfold takeT at h
  obtain ⟨n, la, ka, ha⟩ : ∃ v l' k', PK.countP 256 l k = (v, l', k') := ⟨_, _, _, rfl⟩
  obtain ⟨M, lb, kb, hb⟩ : ∃ v l' k', readL readNd n la ka = (v, l', k') := ⟨_, _, _, rfl⟩
  obtain ⟨m, lc, kc, hc⟩ : ∃ v l' k', PK.countP 1024 lb kb = (v, l', k') := ⟨_, _, _, rfl⟩
  obtain ⟨X, ld, kd, hd⟩ : ∃ v l' k', readL readUs m lc kc = (v, l', k') := ⟨_, _, _, rfl⟩
  simp only [ha, hb, hc, hd, Prod.mk.injEq] at h
  obtain ⟨rfl, rfl, rfl, rfl⟩ := h
  have hM : M.length = n := by have := readL_length readNd n la ka; rw [hb] at this; exact this
  have hX : X.length = m := by have := readL_length readUs m lc kc; rw [hd] at this; exact this
  obtain ⟨rfl, e4⟩ := readL_back (fun h => readUs_back h) m hd
  obtain ⟨rfl, _, _, _, e3⟩ := PK.count_back hc
  obtain ⟨rfl, e2⟩ := readL_back (fun h => readNd_back h) n hb
  obtain ⟨rfl, _, _, _, e1⟩ := PK.count_back ha
  refine ⟨rfl, ?_⟩
  rw [e1, e2, e3, e4, ← hM, ← hX]
  simp [encT]
end Go.Proofs.YtflghelhdalhiaaGreatDoor.QT

namespace Go.Proofs.YtflghelhdalhiaaGreatDoor
open Go Go.RowKit

namespace QT
def okC (c : UInt8) : Bool := decide (33 ≤ c.toNat) && decide (c.toNat ≤ 126)
/-- Is a text a name? -/
def nameP (s : Str) : Bool := s.all okC && (decide (1 ≤ s.length) && decide (s.length ≤ 32))
end QT
theorem list_getN (s : ByteArray) (k : Nat) (h : k < s.size) : s.data.toList[k]? = some s[k] := by
  rw [List.getElem?_eq_getElem (by rw [Array.length_toList]; exact h)]
  rfl
theorem name_bad {s : ByteArray} {k : Nat} (hk : k < s.size) (h : QT.okC s[k] = false) : QT.nameP s.data.toList = false := by
  unfold QT.nameP
  have hm : s[k] ∈ s.data.toList := List.mem_of_getElem? (i := k) (list_getN s k hk)
  have : s.data.toList.all QT.okC = false := by
    rw [List.all_eq_false]
    exact ⟨_, hm, by rw [h]; simp⟩
  rw [this, Bool.false_and]
theorem name_next {s : ByteArray} {k : Nat} (hk : k < s.size) (h : QT.okC s[k] = true) (hp : ∀ c ∈ s.data.toList.take k, QT.okC c = true) : ∀ c ∈ s.data.toList.take (k + 1), QT.okC c = true := by
  intro c hc
  have hg := list_getN s k hk
  rw [List.take_add_one, hg] at hc
  rcases List.mem_append.1 hc with hc | hc
  · exact hp c hc
  · have : c = s[k] := by simpa using hc
    rw [this]; exact h
theorem name_end {s : ByteArray} (hp : ∀ c ∈ s.data.toList.take s.size, QT.okC c = true) : QT.nameP s.data.toList = (decide (1 ≤ s.size) && decide (s.size ≤ 32)) := by
  have hl : s.data.toList.length = s.size := Array.length_toList
  unfold QT.nameP
  rw [List.take_of_length_le (by omega)] at hp
  have : s.data.toList.all QT.okC = true := List.all_eq_true.2 hp
  rw [this, Bool.true_and, hl]
set_option maxHeartbeats 2000000 in
theorem named_any (s : ByteArray) (w : World) (hs : s.size ≤ 140737488355328) :
    Calls Tryz.prog 19 #[.string s] w fun e w' => e = .returned (.bool (QT.nameP s.data.toList)) ∧ w = w' := by
  have hs' : (s.size : Int) ≤ 140737488355328 := by omega
  clear hs
  go_enter Tryz.func19, Tryz.ntmps19
  go_wp2
  go_loop [3, 6] (fun _ v => ∃ k : Nat, k ≤ s.size ∧ v = .int .i64 k ∧ Hid (∀ c ∈ s.data.toList.take k, QT.okC c = true)) (fun _ v => s.size - (intOf v).toNat)
  case atStart => exact ⟨0, Nat.zero_le _, rfl, fun c hc => by simp at hc⟩
  case round =>
    obtain ⟨k, hk, rfl, Hp⟩ := hrel
    by_cases hlt : k < s.size
    · have h1 : (k : Int) < (s.size : Int) := by omega
      by_cases hlo : s[k].toNat < 33
      · have hb := Lib.hid (name_bad hlt (show QT.okC s[k] = false by unfold QT.okC; rw [decide_eq_false (by omega), Bool.false_and]))
        have h2 : ((s[k].toNat : Nat) : Int) < 33 := by omega
        clear Hp
        go_wp2
        go_ret
        exact ⟨by rw [hb.out]; rfl, rfl⟩
      · by_cases hhi : 126 < s[k].toNat
        · have hb := Lib.hid (name_bad hlt (show QT.okC s[k] = false by unfold QT.okC; rw [decide_eq_false (p := s[k].toNat ≤ 126) (by omega), Bool.and_false]))
          have h2 : ¬ ((s[k].toNat : Nat) : Int) < 33 := by omega
          have h3 : (126 : Int) < ((s[k].toNat : Nat) : Int) := by omega
          clear Hp
          go_wp2
          go_ret
          exact ⟨by rw [hb.out]; rfl, rfl⟩
        · have hn := Lib.hid (name_next hlt (show QT.okC s[k] = true by unfold QT.okC; rw [decide_eq_true (by omega), decide_eq_true (by omega)]; rfl) Hp.out)
          have h2 : ¬ ((s[k].toNat : Nat) : Int) < 33 := by omega
          have h3 : ¬ (126 : Int) < ((s[k].toNat : Nat) : Int) := by omega
          clear Hp
          go_wp2
          exact ⟨⟨k + 1, by omega, by simp, hn⟩, by simp [intOf]; omega⟩
    · obtain rfl : k = s.size := by omega
      have he := Lib.hid (name_end Hp.out)
      clear Hp
      by_cases ha : 1 ≤ s.size
      · have h1 : (1 : Int) ≤ (s.size : Int) := by omega
        by_cases hb : s.size ≤ 32
        · have h2 : (s.size : Int) ≤ 32 := by omega
          go_wp2
          go_ret
          exact ⟨by rw [he.out, decide_eq_true ha, decide_eq_true hb]; simp, rfl⟩
        · have h2 : ¬ (s.size : Int) ≤ 32 := by omega
          go_wp2
          go_ret
          exact ⟨by rw [he.out, decide_eq_true ha, decide_eq_false hb]; simp, rfl⟩
      · have h1 : ¬ (1 : Int) ≤ (s.size : Int) := by omega
        have h0 : ¬ (0 : Int) < (s.size : Int) := by omega
        go_wp2
        go_ret
        exact ⟨by rw [he.out, decide_eq_false ha]; simp, rfl⟩
set_option maxHeartbeats 2000000 in
theorem rnamed_any (s : ByteArray) (w : World) (hs : s.size ≤ 140737488355328) :
    Calls Tryz.prog 54 #[.string s] w fun e w' => e = .returned (.bool (QT.nameP s.data.toList)) ∧ w = w' := by
  have hs' : (s.size : Int) ≤ 140737488355328 := by omega
  clear hs
  go_enter Tryz.func54, Tryz.ntmps54
  go_wp2
  go_loop [3] (fun v => ∃ k : Nat, k ≤ s.size ∧ v = .int .i64 k ∧ Hid (∀ c ∈ s.data.toList.take k, QT.okC c = true)) (fun v => s.size - (intOf v).toNat)
  case atStart => exact ⟨0, Nat.zero_le _, rfl, fun c hc => by simp at hc⟩
  case round =>
    obtain ⟨k, hk, rfl, Hp⟩ := hrel
    by_cases hlt : k < s.size
    · have h1 : (k : Int) < (s.size : Int) := by omega
      by_cases hlo : s[k].toNat < 33
      · have hb := Lib.hid (name_bad hlt (show QT.okC s[k] = false by unfold QT.okC; rw [decide_eq_false (by omega), Bool.false_and]))
        have h2 : ((s[k].toNat : Nat) : Int) < 33 := by omega
        clear Hp
        go_wp2
        go_ret
        exact ⟨by rw [hb.out]; rfl, rfl⟩
      · by_cases hhi : 126 < s[k].toNat
        · have hb := Lib.hid (name_bad hlt (show QT.okC s[k] = false by unfold QT.okC; rw [decide_eq_false (p := s[k].toNat ≤ 126) (by omega), Bool.and_false]))
          have h2 : ¬ ((s[k].toNat : Nat) : Int) < 33 := by omega
          have h3 : (126 : Int) < ((s[k].toNat : Nat) : Int) := by omega
          clear Hp
          go_wp2
          go_ret
          exact ⟨by rw [hb.out]; rfl, rfl⟩
        · have hn := Lib.hid (name_next hlt (show QT.okC s[k] = true by unfold QT.okC; rw [decide_eq_true (by omega), decide_eq_true (by omega)]; rfl) Hp.out)
          have h2 : ¬ ((s[k].toNat : Nat) : Int) < 33 := by omega
          have h3 : ¬ (126 : Int) < ((s[k].toNat : Nat) : Int) := by omega
          clear Hp
          go_wp2
          exact ⟨⟨k + 1, by omega, by simp, hn⟩, by simp [intOf]; omega⟩
    · obtain rfl : k = s.size := by omega
      have he := Lib.hid (name_end Hp.out)
      clear Hp
      by_cases ha : 1 ≤ s.size
      · have h1 : (1 : Int) ≤ (s.size : Int) := by omega
        by_cases hb : s.size ≤ 32
        · have h2 : (s.size : Int) ≤ 32 := by omega
          go_wp2
          go_ret
          exact ⟨by rw [he.out, decide_eq_true ha, decide_eq_true hb]; simp, rfl⟩
        · have h2 : ¬ (s.size : Int) ≤ 32 := by omega
          go_wp2
          go_ret
          exact ⟨by rw [he.out, decide_eq_true ha, decide_eq_false hb]; simp, rfl⟩
      · have h1 : ¬ (1 : Int) ≤ (s.size : Int) := by omega
        have h0 : ¬ (0 : Int) < (s.size : Int) := by omega
        go_wp2
        go_ret
        exact ⟨by rw [he.out, decide_eq_false ha]; simp, rfl⟩
end Go.Proofs.YtflghelhdalhiaaGreatDoor

namespace Go.Proofs.YtflghelhdalhiaaGreatDoor.QT
open Go

theorem less_irr : ∀ x : Str, Op.bytesLess x x = false
  | [] => rfl
  | a :: r => by
    show (decide (a < a) || (a == a && Op.bytesLess r r)) = false
    rw [less_irr r]
    simp
theorem less_trans : ∀ x y z : Str, Op.bytesLess x y = true → Op.bytesLess y z = true → Op.bytesLess x z = true
  | _, [], _, h, _ => by unfold Op.bytesLess at h; cases h
  | _, _ :: _, [], _, h => by unfold Op.bytesLess at h; cases h
  | [], _ :: _, _ :: _, _, _ => rfl
  | a :: x, b :: y, c :: z, h1, h2 => by
    have e1 : (decide (a < b) || (a == b && Op.bytesLess x y)) = true := h1
    have e2 : (decide (b < c) || (b == c && Op.bytesLess y z)) = true := h2
    show (decide (a < c) || (a == c && Op.bytesLess x z)) = true
    simp only [Bool.or_eq_true, decide_eq_true_eq, Bool.and_eq_true, beq_iff_eq] at e1 e2 ⊢
    rcases e1 with e1 | ⟨rfl, e1⟩
    · rcases e2 with e2 | ⟨rfl, e2⟩
      · exact .inl (UInt8.lt_trans e1 e2)
      · exact .inl e1
    · rcases e2 with e2 | ⟨rfl, e2⟩
      · exact .inl e2
      · exact .inr ⟨rfl, less_trans x y z e1 e2⟩
theorem less_tri : ∀ x y : Str, Op.bytesLess x y = false → x ≠ y → Op.bytesLess y x = true
  | [], [], _, h => absurd rfl h
  | [], _ :: _, h, _ => by unfold Op.bytesLess at h; cases h
  | _ :: _, [], _, _ => rfl
  | a :: x, b :: y, h, hne => by
    have e : (decide (a < b) || (a == b && Op.bytesLess x y)) = false := h
    show (decide (b < a) || (b == a && Op.bytesLess y x)) = true
    rw [Bool.or_eq_false_iff] at e
    have hlt : ¬ a < b := of_decide_eq_false e.1
    by_cases hab : a = b
    · subst hab
      have h2 : Op.bytesLess x y = false := by simpa using e.2
      have := less_tri x y h2 (fun q => hne (by rw [q]))
      rw [this]
      simp
    · have : b < a := by
        rw [UInt8.lt_iff_toNat_lt] at hlt ⊢
        have : a.toNat ≠ b.toNat := fun q => hab (UInt8.toNat_inj.1 q)
        omega
      rw [decide_eq_true this, Bool.true_or]
/-- x > y. -/
def gtS (x y : Str) : Bool := !(Op.bytesLess x y || x == y)
theorem gtS_less {x y : Str} (h : gtS x y = true) : Op.bytesLess y x = true := by
  unfold gtS at h
  rw [Bool.not_eq_true', Bool.or_eq_false_iff] at h
  exact less_tri x y h.1 (by simpa using h.2)
theorem less_gtS {x y : Str} (h : Op.bytesLess y x = true) : gtS x y = true := by
  unfold gtS
  rw [Bool.not_eq_true', Bool.or_eq_false_iff]
  constructor
  · cases hx : Op.bytesLess x y with
    | false => rfl
    | true => have := less_trans _ _ _ h hx; rw [less_irr] at this; cases this
  · rw [beq_eq_false_iff_ne]
    rintro rfl
    rw [less_irr] at h; cases h
/-- One more name: is all right so far; the last name. -/
def stepO (s : Bool × Str) (nm : Str) (extra : Bool) : Bool × Str := (s.1 && nameP nm && gtS nm s.2 && extra, nm)
def okN (N : List Nd) : Bool × Str := N.foldl (fun s n => stepO s n.nm true) (true, [])
def okV (N : List Nd) (V : List Us) : Bool × Str := V.foldl (fun s u => stepO s u.id (find N u.nd).isSome) ((okN N).1, [])
theorem okN_snoc (N : List Nd) (n : Nd) : okN (N ++ [n]) = stepO (okN N) n.nm true := by
  unfold okN
  rw [List.foldl_append]
  rfl
theorem okV_snoc (N : List Nd) (V : List Us) (u : Us) : okV N (V ++ [u]) = stepO (okV N V) u.id (find N u.nd).isSome := by
  unfold okV
  rw [List.foldl_append]
  rfl
theorem rises {α : Type} (f : α → Str) (g : α → Bool) : ∀ (L : List α) (b : Bool) (s : Str), (L.foldl (fun s x => stepO s (f x) (g x)) (b, s)).1 = true →
    b = true ∧ (∀ x ∈ L, nameP (f x) = true ∧ g x = true ∧ Op.bytesLess s (f x) = true) ∧ L.Pairwise (fun x y => Op.bytesLess (f x) (f y) = true)
  | [], _, _, h => ⟨h, (fun x hx => by cases hx), List.Pairwise.nil⟩
  | x :: r, b, s, h => by
    obtain ⟨h1, h2, h3⟩ := rises f g r _ _ h
    simp only [Bool.and_eq_true] at h1
    obtain ⟨⟨⟨hb, hn⟩, hg⟩, he⟩ := h1
    have hs := gtS_less hg
    refine ⟨hb, fun y hy => ?_, List.Pairwise.cons (fun y hy => (h2 y hy).2.2) h3⟩
    rcases List.mem_cons.1 hy with rfl | hy
    · exact ⟨hn, he, hs⟩
    · obtain ⟨a1, a2, a3⟩ := h2 y hy
      exact ⟨a1, a2, less_trans _ _ _ hs a3⟩
theorem name_ne {s : Str} (h : nameP s = true) : s ≠ [] := by
  rintro rfl
  unfold nameP at h
  simp at h
theorem rises_un {α : Type} (f : α → Str) : ∀ (L : List α), L.Pairwise (fun x y => Op.bytesLess (f x) (f y) = true) → ∀ a ∈ L, ∀ b ∈ L, f a = f b → a = b
  | [], _, a, ha, _, _, _ => by cases ha
  | x :: r, h, a, ha, b, hb, e => by
    obtain ⟨h1, h2⟩ := List.pairwise_cons.1 h
    rcases List.mem_cons.1 ha with ea | ha'
    · rcases List.mem_cons.1 hb with eb | hb'
      · rw [ea, eb]
      · have := h1 b hb'
        rw [← ea, e, less_irr] at this; cases this
    · rcases List.mem_cons.1 hb with eb | hb'
      · have := h1 a ha'
        rw [← eb, e, less_irr] at this; cases this
      · exact rises_un f r h2 a ha' b hb' e
theorem okN_uniq {N : List Nd} (h : (okN N).1 = true) : Uniq N := by
  obtain ⟨_, h2, h3⟩ := rises Nd.nm (fun _ => true) N true [] h
  refine ⟨fun n hn => name_ne (h2 n hn).1, rises_un Nd.nm N h3, ?_⟩
  refine List.Pairwise.imp (fun {a b} q e => ?_) h3
  rw [e, less_irr] at q; cases q
theorem okV_all {N : List Nd} {V : List Us} (h : (okV N V).1 = true) : (okN N).1 = true ∧ (∀ u ∈ V, ∃ n ∈ N, n.nm = u.nd) ∧ V.Pairwise (fun x y => Op.bytesLess x.id y.id = true) ∧ ∀ u ∈ V, nameP u.id = true := by
  obtain ⟨h1, h2, h3⟩ := rises Us.id (fun u => (find N u.nd).isSome) V (okN N).1 [] h
  refine ⟨h1, fun u hu => ?_, h3, fun u hu => (h2 u hu).1⟩
  obtain ⟨n, hn⟩ := Option.isSome_iff_exists.1 (h2 u hu).2.1
  exact ⟨n, find_mem hn⟩
end Go.Proofs.YtflghelhdalhiaaGreatDoor.QT
