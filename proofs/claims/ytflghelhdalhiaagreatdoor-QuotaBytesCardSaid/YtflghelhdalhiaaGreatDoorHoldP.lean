/-
  What is claimed at a node and the most that may be, in plain Lean; the bounds of both where a tree fits.
-/
import Derived.Test.YtflghelhdalhiaaGreatDoorFitsR
namespace Go.Proofs.YtflghelhdalhiaaGreatDoor.QT

/-- A sum of whole numbers. -/
def SI {α : Type} : List α → (α → Int) → Int
  | [], _ => 0
  | x :: r, F => F x + SI r F
theorem SI_append {α : Type} (l m : List α) (F : α → Int) : SI (l ++ m) F = SI l F + SI m F := by
  induction l with
  | nil => simp [SI]
  | cons x r ih => rw [List.cons_append, SI, SI, ih]; omega
theorem SI_bound {α : Type} {l : List α} {F : α → Int} {B : Nat} (h : ∀ x ∈ l, (F x).natAbs ≤ B) : (SI l F).natAbs ≤ l.length * B := by
  induction l with
  | nil => simp [SI]
  | cons x r ih =>
    have h1 := h x (by simp)
    have h2 := ih (fun y hy => h y (by simp [hy]))
    rw [SI, List.length_cons, Nat.add_mul]; omega
/-- A sum so far. -/
def partI {α : Type} (L : List α) (p : α → Bool) (f : α → Int) (i : Nat) : Int := SI ((L.take i).filter p) f
theorem partI_yes {α : Type} {L : List α} {p : α → Bool} (f : α → Int) {i : Nat} {x : α} (hx : L[i]? = some x) (h : p x = true) : partI L p f (i + 1) = partI L p f i + f x := by
  unfold partI
  rw [List.take_add_one, hx, List.filter_append, SI_append]
  simp [h, SI]
theorem partI_no {α : Type} {L : List α} {p : α → Bool} (f : α → Int) {i : Nat} {x : α} (hx : L[i]? = some x) (h : p x = false) : partI L p f (i + 1) = partI L p f i := by
  unfold partI
  rw [List.take_add_one, hx, List.filter_append, SI_append]
  simp [h, SI]
theorem partI_end {α : Type} {L : List α} {p : α → Bool} (f : α → Int) {i : Nat} (h : L.length ≤ i) : partI L p f i = SI (L.filter p) f := by
  unfold partI
  rw [List.take_of_length_le h]
theorem partI_le {α : Type} {L : List α} {p : α → Bool} {f : α → Int} {i B : Nat} (h : ∀ x ∈ L, (f x).natAbs ≤ B) : (partI L p f i).natAbs ≤ i * B := by
  unfold partI
  refine Nat.le_trans (SI_bound fun x hx => h x (List.mem_of_mem_take (List.mem_filter.1 hx).1)) (Nat.mul_le_mul_right _ ?_)
  exact Nat.le_trans (List.length_filter_le _ _) (List.length_take_le _ _)
/-- What is claimed at a node. -/
def asked1 (N : List Nd) (L : List Us) (s : Str) : Int := (here L Us.a1 s : Int) + SI (N.filter fun c => c.pr == s) (claim1 N L)
def asked2 (N : List Nd) (L : List Us) (s : Str) : Int := (here L Us.a2 s : Int) + SI (N.filter fun c => c.pr == s) (claim2 N L)
/-- The most that may be. -/
def limit1 (N : List Nd) (x : Nd) : Int := (Total N Nd.o1 x.nm : Int) + (if x.pr = [] then 0 else (x.b1 : Int))
def limit2 (N : List Nd) (x : Nd) : Int := (Total N Nd.o2 x.nm : Int) + (if x.pr = [] then 0 else (x.b2 : Int))
def holdsB (N : List Nd) (L : List Us) : Bool := N.all fun x => decide (asked1 N L x.nm ≤ limit1 N x) && decide (asked2 N L x.nm ≤ limit2 N x)
theorem fits_at {N : List Nd} {L : List Us} (h : fitsB N L = true) {x : Nd} (hx : x ∈ N) : (Total N Nd.o1 x.nm ≤ 1099511627776 ∧ Total N Nd.o2 x.nm ≤ 1099511627776) ∧ Used N L Us.a1 x.nm ≤ 1099511627776 ∧ Used N L Us.a2 x.nm ≤ 1099511627776 := by
  have := List.all_eq_true.1 h x hx
  rw [Bool.and_eq_true] at this
  exact ⟨of_decide_eq_true this.1, of_decide_eq_true this.2⟩
theorem claim_le {N : List Nd} {L : List Us} (h : fitsB N L = true) {x : Nd} (hx : x ∈ N) (hl : x.l1 ≤ 1099511627776 ∧ x.l2 ≤ 1099511627776) : (claim1 N L x).natAbs ≤ 1099511627776 ∧ (claim2 N L x).natAbs ≤ 1099511627776 := by
  obtain ⟨⟨a, b⟩, c, d⟩ := fits_at h hx
  unfold claim1 claim2
  generalize Total N Nd.o1 x.nm = T1 at *
  generalize Total N Nd.o2 x.nm = T2 at *
  generalize Used N L Us.a1 x.nm = U1 at *
  generalize Used N L Us.a2 x.nm = U2 at *
  have e1 := Int.max_def (U1 : Int) ((T1 : Int) - (x.l1 : Int))
  have e2 := Int.max_def (U2 : Int) ((T2 : Int) - (x.l2 : Int))
  rw [e1, e2]
  constructor
  · split <;> omega
  · split <;> omega
end Go.Proofs.YtflghelhdalhiaaGreatDoor.QT
