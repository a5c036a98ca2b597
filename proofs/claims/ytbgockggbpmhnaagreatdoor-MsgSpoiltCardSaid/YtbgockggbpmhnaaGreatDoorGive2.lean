/-
  The law's own helpers: longEntries, longMsg, giveMsg, by contracts.
  Conditions: what is given reads as such.
-/
import Derived.Test.YtbgockggbpmhnaaGreatDoorGive
import Derived.Test.YtbgockggbpmhnaaGreatDoorMsgP
namespace Go.Proofs.YtbgockggbpmhnaaGreatDoor
open Go Go.RowKit

/-- A message as it lies in memory. -/
structure RM where
  kd : Int
  fr : Int
  to : Int
  tm : Int
  ix : Int
  lt : Int
  cm : Int
  ro : Int
  ok : Bool
  off : Int
  da : Option Addr
  dn : Nat
  dc : Nat
  d : List UInt8
  ea : Option Addr
  en : Nat
  ec : Nat
  es : List RE
def RM.val (x : RM) : Value := .agg #[.int .i64 x.kd, .int .i64 x.fr, .int .i64 x.to, .int .i64 x.tm, .int .i64 x.ix, .int .i64 x.lt, .int .i64 x.cm, .int .i64 x.ro, .bool x.ok, .int .i64 x.off, .slice x.da x.dn x.dc, .slice x.ea x.en x.ec]
def RM.msg (x : RM) : PK.Msg := ⟨x.kd, x.fr, x.to, x.tm, x.ix, x.lt, x.cm, x.ro, x.ok, x.off, x.d, x.es.map RE.ent⟩
structure RM.Fit (w : World) (x : RM) : Prop where
  len : x.d.length = x.dn
  bytes : IsB w (.slice x.da x.dn x.dc) x.d
  ents : EsS w (.slice x.ea x.en x.ec) x.es
theorem RM.Fit.below {w w' : World} {x : RM} (h : x.Fit w) (b : Below w.heap.size w w') : x.Fit w' := ⟨h.len, h.bytes.below b, h.ents.below b⟩
def sumD : List RE → Nat
  | [] => 0
  | x :: r => x.n / 64 + sumD r
theorem sumD_append (a b : List RE) : sumD (a ++ b) = sumD a + sumD b := by
  induction a with
  | nil => simp [sumD]
  | cons x r ih => simp [sumD, ih]; omega
theorem sumD_mem {x : RE} : ∀ (l : List RE), x ∈ l → x.n / 64 ≤ sumD l
  | [], h => by simp at h
  | y :: r, h => by
    rcases List.mem_cons.1 h with rfl | h
    · simp [sumD]
    · have := sumD_mem r h; simp [sumD]; omega
theorem sumD_le (l : List RE) (h : ∀ x ∈ l, x.n ≤ roomB) : sumD l ≤ l.length * 2199023255552 := by
  induction l with
  | nil => simp [sumD]
  | cons y r ih =>
    have h1 := ih (fun x hx => h x (by simp [hx]))
    have h2 := h y (by simp)
    simp only [roomB] at h2
    simp only [sumD, List.length_cons]
    omega
/-- Are there more entries than are gone through, or longer ones? -/
def longE (xs : List RE) : Bool := decide (200 < xs.length) || decide (400 < sumD (xs.take 300))
def RM.long (x : RM) : Bool := decide (10000 < x.dn) || longE x.es
theorem longE_no {xs : List RE} (h : longE xs = false) : xs.length ≤ 200 ∧ ∀ x ∈ xs, x.n ≤ 30000 := by
  unfold longE at h
  rw [Bool.or_eq_false_iff] at h
  obtain ⟨h1, h2⟩ := h
  have h1 := of_decide_eq_false h1
  have h2 := of_decide_eq_false h2
  refine ⟨by omega, fun x hx => ?_⟩
  rw [List.take_of_length_le (by omega)] at h2
  have := sumD_mem xs hx
  omega
set_option maxRecDepth 100000 in
set_option maxHeartbeats 2000000 in
theorem longEntries_any (xs : List RE) (a : Option Addr) (n c : Nat) (w : World) (hv : EsS w (.slice a n c) xs) (hb : ∀ x ∈ xs, x.n ≤ roomB) :
    Calls Tryz.prog 23 #[.slice a n c] w fun e w' => e = .returned (.bool (longE xs)) ∧ w = w' := by
  have HV := Lib.hid hv
  have Hlen := Lib.hid hv.len
  have hn63 : (n : Int) ≤ 9223372036854775807 := by have := Hlen.out; simp only [maxLen] at this; omega
  have HS : Hid (∀ k, k ≤ 300 → sumD (xs.take k) ≤ 659706976665600) := fun k hk => by
    have h1 := sumD_le (xs.take k) (fun x hx => hb x (List.mem_of_mem_take hx))
    have h2 := List.length_take_le k xs
    omega
  have Hend : Hid (∀ k, (k = n ∧ k ≤ 300) ∨ (k = 300 ∧ k ≤ n) → longE xs = (decide (200 < n) || decide (400 < sumD (xs.take k)))) := fun k hk => by
    unfold longE
    have := Hlen.out
    rw [this.1]
    rcases hk with ⟨rfl, h⟩ | ⟨rfl, _⟩
    · rw [List.take_of_length_le (by omega : xs.length ≤ 300), List.take_of_length_le (by omega)]
    · rfl
  have HBn := Lib.hid hb
  clear hv hb
  go_enter Tryz.func23, Tryz.ntmps23
  go_wp2
  go_loop [3, 4] (fun v3 v4 => ∃ k : Nat, k ≤ n ∧ k ≤ 300 ∧ v4 = .int .i64 k ∧ v3 = .int .i64 ((sumD (xs.take k) : Nat) : Int)) (fun _ v4 => 300 - (intOf v4).toNat)
  case atStart => exact ⟨0, Nat.zero_le _, by decide, rfl, rfl⟩
  case round =>
    obtain ⟨k, hk, hk3, rfl, rfl⟩ := hrel
    have hs := HS.out k hk3
    by_cases hlt : k < n
    · by_cases hlt3 : k < 300
      · have hkx : k < xs.length := by have := Hlen.out; omega
        obtain ⟨x, hx⟩ : ∃ x, xs[k]? = some x := ⟨_, List.getElem?_eq_getElem hkx⟩
        obtain ⟨⟨b, o, rfl, c0, c1, c2, c3⟩, hf⟩ := HV.out.at k x hx
        have hsucc : sumD (xs.take (k + 1)) = sumD (xs.take k) + x.n / 64 := by
          have e : xs.take (k + 1) = xs.take k ++ [x] := by rw [List.take_succ_eq_append_getElem hkx]; congr 1; simpa [List.getElem?_eq_getElem hkx] using hx
          rw [e, sumD_append]; simp [sumD]
        have hxn : (x.n : Int) ≤ 140737488355328 := by have := HBn.out x (List.mem_of_getElem? hx); simp only [roomB] at this; omega
        have Hsucc := Lib.hid hsucc
        generalize sumD (xs.take k) = s at *
        generalize x.n = xn at *
        have hs64 : (s : Int) + (xn : Int) / 64 ≤ 9223372036854775807 := by omega
        clear HV HS Hend hsucc hf hx
        go_wp2
        refine ⟨⟨k + 1, hlt, hlt3, by simp, by rw [Hsucc.out]; simp⟩, by simp [intOf]; omega⟩
      · obtain rfl : k = 300 := by omega
        have he := Hend.out 300 (.inr ⟨rfl, hk⟩)
        have h200 : (200 : Int) < (n : Int) := by omega
        rw [decide_eq_true (by omega), Bool.true_or] at he
        generalize sumD (xs.take 300) = s at *
        clear HV HS Hend
        go_wp2
        go_ret
        exact ⟨rfl, rfl⟩
    · obtain rfl : k = n := by omega
      have he := Hend.out k (.inl ⟨rfl, hk3⟩)
      generalize sumD (xs.take k) = s at *
      clear HV HS Hend
      by_cases h200 : 200 < k
      · have h201 : (200 : Int) < (k : Int) := by omega
        rw [decide_eq_true h200, Bool.true_or] at he
        go_wp2
        go_ret
        exact ⟨rfl, rfl⟩
      · have h201 : ¬ ((200 : Int) < (k : Int)) := by omega
        rw [decide_eq_false h200, Bool.false_or] at he
        by_cases h400 : 400 < s
        · have h401 : (400 : Int) < (s : Int) := by omega
          rw [decide_eq_true h400] at he
          go_wp2
          go_ret
          exact ⟨rfl, rfl⟩
        · have h401 : ¬ ((400 : Int) < (s : Int)) := by omega
          rw [decide_eq_false h400] at he
          go_wp2
          go_ret
          exact ⟨rfl, rfl⟩
/-- Twelve cells. -/
theorem cells12 {w : World} {N : Nat} {x0 x1 x2 x3 x4 x5 x6 x7 x8 x9 xa xb : Value} {t : TypeId} (h : w.heap[N]? = some (.cells #[x0, x1, x2, x3, x4, x5, x6, x7, x8, x9, xa, xb] t)) :
    (w.cell? ⟨N, 0, none⟩ = some x0 ∧ w.cell? ⟨N, 1, none⟩ = some x1 ∧ w.cell? ⟨N, 2, none⟩ = some x2 ∧ w.cell? ⟨N, 3, none⟩ = some x3 ∧ w.cell? ⟨N, 4, none⟩ = some x4 ∧ w.cell? ⟨N, 5, none⟩ = some x5 ∧ w.cell? ⟨N, 6, none⟩ = some x6 ∧ w.cell? ⟨N, 7, none⟩ = some x7 ∧ w.cell? ⟨N, 8, none⟩ = some x8 ∧ w.cell? ⟨N, 9, none⟩ = some x9 ∧ w.cell? ⟨N, 10, none⟩ = some xa ∧ w.cell? ⟨N, 11, none⟩ = some xb) ∧
    ∀ j, w.frozen? ⟨N, j, none⟩ = false := by
  refine ⟨by simp [World.cell?, h], fun j => by simp [World.frozen?, h]⟩
set_option maxHeartbeats 2000000 in
theorem longMsg_any (x : RM) (w : World) (hf : x.Fit w) (hb : ∀ y ∈ x.es, y.n ≤ roomB) :
    Calls Tryz.prog 9 #[x.val] w fun e w' => e = .returned (.bool x.long) ∧ Below w.heap.size w w' := by
  obtain ⟨kd, fr, to, tm, ix, lt, cm, ro, ok, off, da, dn, dc, d, ea, en, ec, es⟩ := x
  have HL := Lib.hid (fun (W : World) (b : Below w.heap.size w W) => longEntries_any es ea en ec W (hf.ents.below b) hb)
  simp only [RM.val, RM.long]
  clear hf hb
  by_cases hd : 10000 < dn
  · have hd1 : (10000 : Int) < (dn : Int) := by omega
    rw [decide_eq_true hd, Bool.true_or]
    clear HL
    go_enter Tryz.func9, Tryz.ntmps9
    go_wp2
    go_ret
    refine ⟨rfl, ?_⟩
    go_grown
  · have hd1 : ¬ ((10000 : Int) < (dn : Int)) := by omega
    rw [decide_eq_false hd, Bool.false_or]
    generalize longE es = L at *
    go_enter Tryz.func9, Tryz.ntmps9
    go_wp2_with fail
    refine (HL.out _ ((Below.refl _ _).alloc (Nat.le_refl _) _)).mono ?_
    rintro e w1 ⟨rfl, rfl⟩
    go_wp2
    go_ret
    refine ⟨rfl, ?_⟩
    go_grown
end Go.Proofs.YtbgockggbpmhnaaGreatDoor
