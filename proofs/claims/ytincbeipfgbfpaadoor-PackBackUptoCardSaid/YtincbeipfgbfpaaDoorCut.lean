/-
  tollbarlaw01.PackCut by a contract: it answers true.
  Conditions: the listed variables read as listed ('Env'); the slice reads as Things ('ThS'); what is laid of them is at most 2^47 - 1000 bytes long.
-/
import Derived.Test.YtincbeipfgbfpaaDoorThings
import Derived.Test.YtincbeipfgbfpaaDoorLay
import Derived.Test.YtincbeipfgbfpaaDoorSure
import Derived.Test.YtincbeipfgbfpaaDoorRd8
import Derived.Deep.RegionHeld3
namespace Go.Proofs.YtincbeipfgbfpaaDoor
open Go Go.RowKit

/-- What is laid of the first k Things. -/
def layTo (xs : List RTh) (k : Nat) : List UInt8 := PK.layAll ((xs.take k).map RTh.th)
theorem layTo_zero (xs : List RTh) : layTo xs 0 = [] := rfl
theorem layTo_succ (xs : List RTh) (k : Nat) (h : k < xs.length) : layTo xs (k + 1) = layTo xs k ++ PK.layP xs[k].th := by
  unfold layTo
  rw [List.take_succ_eq_append_getElem h, List.map_append, PK.layAll_append]
  simp [PK.layAll]
theorem wt_append (xs ys : List RTh) : wt (xs ++ ys) = wt xs + wt ys := by simp [wt]
theorem layAll_le : ∀ (xs : List RTh) (w : World), (∀ x ∈ xs, x.Fit w) → (PK.layAll (xs.map RTh.th)).length ≤ wt xs
  | [], _, _ => by simp [PK.layAll, wt]
  | x :: r, w, h => by
    have h1 := PK.lay_length x.th (h x (by simp)).may
    have h2 := layAll_le r w (fun y hy => h y (by simp [hy]))
    have e : PK.layAll ((x :: r).map RTh.th) = PK.layP x.th ++ PK.layAll (r.map RTh.th) := by simp [PK.layAll]
    rw [e, wt_cons, List.length_append]
    have : x.th.b.length = x.b.length := rfl
    omega
theorem layTo_le (xs : List RTh) (w : World) (h : ∀ x ∈ xs, x.Fit w) (k : Nat) (hk : k < xs.length) : (layTo xs k).length + (xs[k].b.length + 25) ≤ wt xs := by
  have h1 := layAll_le (xs.take k) w (fun x hx => h x (List.mem_of_mem_take hx))
  have e : wt xs = wt (xs.take k) + wt (xs.drop k) := by rw [← wt_append, List.take_append_drop]
  rw [List.drop_eq_getElem_cons hk, wt_cons] at e
  unfold layTo
  omega
theorem layTo_all (xs : List RTh) (w : World) (h : ∀ x ∈ xs, x.Fit w) (k : Nat) : (layTo xs k).length ≤ wt xs := by
  have h1 := layAll_le (xs.take k) w (fun x hx => h x (List.mem_of_mem_take hx))
  have e : wt xs = wt (xs.take k) + wt (xs.drop k) := by rw [← wt_append, List.take_append_drop]
  unfold layTo
  omega

/-! ### What is left gets no longer -/
theorem uintP_le (m : Nat) (l : List UInt8) (e : Nat) : (PK.uintP m l e).2.1.length ≤ l.length := by
  unfold PK.uintP
  split
  · exact Nat.le_refl _
  · split
    · exact Nat.le_refl _
    · simp
theorem intP_le (l : List UInt8) (e : Nat) : (PK.intP l e).2.1.length ≤ l.length := by
  unfold PK.intP
  split
  · exact Nat.le_refl _
  · split
    · split
      · exact Nat.le_refl _
      · split
        · exact Nat.le_refl _
        · simp
    · split
      · exact Nat.le_refl _
      · simp
theorem boolP_le (l : List UInt8) (e : Nat) : (PK.boolP l e).2.1.length ≤ l.length := by
  unfold PK.boolP
  split
  · exact Nat.le_refl _
  · split
    · exact Nat.le_refl _
    · simp
theorem runP_le (c : UInt8) (m : Int) (l : List UInt8) (e : Nat) : (PK.runP c m l e).2.1.length ≤ l.length := by
  unfold PK.runP
  split
  · exact Nat.le_refl _
  · split
    · exact Nat.le_refl _
    · split
      · exact Nat.le_refl _
      · split
        · exact Nat.le_refl _
        · simp
theorem takeP_le (k : Nat) (m : Int) (l : List UInt8) (e : Nat) : (PK.takeP k m l e).1.length ≤ l.length := by
  unfold PK.takeP
  split
  · exact uintP_le _ _ _
  · split
    · exact intP_le _ _
    · split
      · exact boolP_le _ _
      · split
        · exact runP_le _ _ _ _
        · exact runP_le _ _ _ _
theorem takeAll_snoc : ∀ (l : List PK.Th) (x : PK.Th) (q : List UInt8 × Nat), PK.takeAll (l ++ [x]) q = PK.takeP x.k x.b.length (PK.takeAll l q).1 (PK.takeAll l q).2
  | [], _, _ => rfl
  | _ :: r, x, _ => takeAll_snoc r x _
theorem IsB.take {w : World} {a : Option Addr} {n c : Nat} {l : List UInt8} (h : IsB w (.slice a n c) l) (j : Nat) (hj : j ≤ l.length) : IsB w (.slice a j c) (l.take j) := by
  obtain ⟨a', cap', he, h1, h2, h0, h3⟩ := h
  simp only [Value.slice.injEq] at he
  obtain ⟨rfl, rfl, rfl⟩ := he
  have hl : (l.take j).length = j := by simp; omega
  refine ⟨_, _, by rw [hl], by omega, h2, h0, ?_⟩
  rcases h3 with rfl | ⟨b, o, rfl, hc⟩
  · exact .inl (by simp)
  · exact .inr ⟨b, o, rfl, fun i hi => by rw [at8_take _ _ _ (by omega)]; exact hc i (by omega)⟩
/-- What a take by a method answers. -/
def TakeR (N : Nat) (w w' : World) (v : Ending) (q : List UInt8 × Nat) : Prop := (∃ x, v = .returned x) ∧ Rd w' N q.1 q.2 ∧ Fr (fun i => i = N) w w'
/-- What is taken as the first k Things. -/
def takeTo (xs : List RTh) (k : Nat) (q : List UInt8) : List UInt8 × Nat := PK.takeAll ((xs.take k).map RTh.th) (q, 0)
theorem takeTo_succ (xs : List RTh) (k : Nat) (q : List UInt8) (h : k < xs.length) : takeTo xs (k + 1) q = PK.takeP (PK.u64 xs[k].kd % 5) xs[k].b.length (takeTo xs k q).1 (takeTo xs k q).2 := by
  unfold takeTo
  rw [List.take_succ_eq_append_getElem h, List.map_append]
  exact takeAll_snoc _ xs[k].th _
theorem Fr.belowM {B N : Nat} {w0 w w' : World} (b : Below B w0 w) (f : Fr (fun i => i = N) w w') (hB : B ≤ N) (hN : N < w.heap.size) : Below B w0 w' :=
  b.trans ⟨f.os, f.tape, f.output, f.size, fun k hk => f.block k (by omega) (by omega)⟩

set_option maxRecDepth 100000 in
set_option maxHeartbeats 8000000 in
/-- The first loop of PackCut, one round: a Thing laid. -/
theorem cut_any (v : Value) (xs : List RTh) (ak : Int) (w : World) (hE : Env w) (hv : ThS w v xs) (hT : wt xs + 1000 ≤ roomB) :
    Calls Tryd.prog 6 #[v, .int .i64 ak] w fun e w' => e = .returned (.bool true) ∧ Below w.heap.size w w' := by
  obtain ⟨a0, cap, rfl, hcap, hcm, hcells, hfit⟩ := hv
  have HN := Lib.hid (new_any w hE)
  have HE := Lib.hid hE
  have Hfit := Lib.hid hfit
  have HT := Lib.hid hT
  have Hcells := Lib.hid hcells
  have hlen : xs.length ≤ 9223372036854775807 := by simp only [maxLen] at hcm; omega
  obtain ⟨nn, hnn⟩ : ∃ nn : Nat, nn = min xs.length 40 := ⟨_, rfl⟩
  have hmin : min (xs.length : Int) 40 = (nn : Int) := by omega
  have hn40 : nn ≤ 40 := by omega
  have hnx : nn ≤ xs.length := by omega
  have Hnn := Lib.hid hnn
  clear hE hfit hT hcells hcap hcm hnn
  go_enter Tryd.func6, Tryd.ntmps6
  go_wp2_with fail
  refine HN.out.mono ?_
  rintro e w1 ⟨rfl, h1, b1⟩
  have W1 := Lib.hid h1
  have B1 := Lib.hid b1
  clear HN h1 b1
  have HLay : Hid (∀ (k : Nat) (hk : k < xs.length) (wr : World), Wr wr w.heap.size w.heap.size (layTo xs k) → Below w.heap.size w wr → Calls Tryd.prog 30 #[.pointer (some ⟨w.heap.size, 0, none⟩), .agg #[.int .i64 xs[k].kd, .int .i64 xs[k].n, .slice xs[k].a xs[k].m xs[k].c]] wr fun e w' =>
      e = .returned (.pointer (some ⟨w.heap.size, 0, none⟩)) ∧ Wr w' w.heap.size w.heap.size (layTo xs (k + 1)) ∧ Below w.heap.size w w') := by
    intro k hk wr h b
    have hx := Hfit.out xs[k] (List.getElem_mem hk)
    have hle := layTo_le xs w Hfit.out k hk
    refine (lay_of _ _ (layTo xs k) xs[k].kd xs[k].n xs[k].a xs[k].m xs[k].c xs[k].b wr h (hx.below b).bytes (fun hb j hj => hx.bytes.own_lt hb j hj) hx.n0 hx.n1 (by have := HT.out; omega) (HE.out.below b)).mono ?_
    rintro e w' ⟨rfl, h1, b1⟩
    rw [layTo_succ xs k hk]
    exact ⟨rfl, h1, b.trans b1⟩
  go_wp2_with fail
  go_loopw [5, 7] (fun v i wr => ∃ k : Nat, k ≤ nn ∧ i = .int .i64 k ∧ v = .pointer (some ⟨w.heap.size, 0, none⟩) ∧ Hid (Wr wr w.heap.size w.heap.size (layTo xs k)) ∧ Hid (Below w.heap.size w wr)) (fun _ i _ => nn - (intOf i).toNat)
  case atStart => exact ⟨0, Nat.zero_le _, rfl, rfl, W1.out, B1.out⟩
  case round =>
    obtain ⟨k, hk, rfl, rfl, W2, B2⟩ := hrel
    by_cases hlt : k < nn
    · have hkx : k < xs.length := by omega
      have hcell : ∃ b o, a0 = some ⟨b, o, none⟩ ∧ w.cell? ⟨b, o + k * 3, none⟩ = some (.int .i64 xs[k].kd) ∧ w.cell? ⟨b, o + k * 3 + 1, none⟩ = some (.int .i64 xs[k].n) ∧ w.cell? ⟨b, o + k * 3 + 2, none⟩ = some (.slice xs[k].a xs[k].m xs[k].c) := by
        rcases Hcells.out with h | ⟨b, o, h1, h2⟩
        · subst h; simp at hkx
        · obtain ⟨c0, c1, c2⟩ := h2 k xs[k] (List.getElem?_eq_getElem hkx)
          exact ⟨b, o, h1, c0, c1, c2⟩
      obtain ⟨b, o, rfl, c0, c1, c2⟩ := hcell
      have e0 := B2.out.cell (p := ⟨b, o + k * 3, none⟩) (World.block_lt_of_cell? w _ c0)
      have e1 := B2.out.cell (p := ⟨b, o + k * 3 + 1, none⟩) (World.block_lt_of_cell? w _ c1)
      have e2 := B2.out.cell (p := ⟨b, o + k * 3 + 2, none⟩) (World.block_lt_of_cell? w _ c2)
      rw [c0] at e0
      rw [c1] at e1
      rw [c2] at e2
      have HL := Lib.hid (HLay.out k hkx wr W2.out B2.out)
      clear c0 c1 c2 HLay W1 B1 W2 B2
      go_wp2_with fail
      refine HL.out.mono ?_
      rintro e w2 ⟨rfl, h2, b2⟩
      have W2 := Lib.hid h2
      have B2 := Lib.hid b2
      clear h2 b2 HL e0 e1 e2
      go_wp2
      go_roundw
      case rel => exact ⟨k + 1, by omega, by go_num, rfl, W2.out, B2.out⟩
      case measure => simp [intOf]; omega
    · obtain rfl : k = nn := by omega
      have HDone := Lib.hid (wdone_any w.heap.size w.heap.size (layTo xs k) wr W2.out (by have := layTo_all xs w Hfit.out k; have := HT.out; omega))
      clear HLay W1 B1 W2
      obtain ⟨L, hL⟩ : ∃ L, L = layTo xs k := ⟨_, rfl⟩
      rw [← hL] at HDone
      have HL := Lib.hid hL
      clear hL
      go_wp2_with fail
      refine HDone.out.mono ?_
      rintro e w3 ⟨⟨a3, c3, rfl, o3, _⟩, b3⟩
      have O3 := Lib.hid o3
      have B3 : Hid (Below w.heap.size w w3) := B2.out.trans (b3.mono B2.out.size)
      clear o3 b3 B2 HDone
      by_cases hk0 : k = 0
      · subst hk0
        have hLn : L = [] := HL.out
        subst hLn
        have HS := Lib.hid (sure_any w3 (HE.out.below B3.out))
        go_wp2_with fail
        refine HS.out.mono ?_
        rintro e w4 ⟨rfl, b4⟩
        have B4 : Hid (Below w.heap.size w w4) := B3.out.trans (b4.mono B3.out.size)
        clear b4 HS
        go_wp2
        go_ret
        exact ⟨rfl, B4.out⟩
      · have hLn : L ≠ [] := by
          rw [HL.out]
          obtain ⟨k', rfl⟩ : ∃ k', k = k' + 1 := ⟨k - 1, by omega⟩
          rw [layTo_succ xs k' (by omega)]
          have := PK.lay_ne (xs[k']'(by omega)).th
          simp [this]
        have hLp : 0 < L.length := List.length_pos_iff.2 hLn
        have hLm : L.length + 1000 ≤ roomB := by rw [HL.out]; have := layTo_all xs w Hfit.out k; have := HT.out; omega
        have hL63 : (L.length : Int) ≤ 9223372036854775807 := by simp only [roomB] at hLm; omega
        have hz : ((L.length : Int) == 0) = false := by rw [beq_eq_false_iff_ne]; omega
        have hwa := wrap_u64_nat ak
        have hwl : IntKind.u64.wrap (L.length : Int) = (L.length : Int) := by rw [IntKind.wrap_u64]; omega
        obtain ⟨j, hj⟩ : ∃ j : Nat, j = PK.u64 ak % L.length := ⟨_, rfl⟩
        have hjl : j < L.length := by rw [hj]; exact Nat.mod_lt _ hLp
        have hmj : (PK.u64 ak : Int) % (L.length : Int) = (j : Int) := by rw [hj]; simp
        have hjb : (j : Int) ≤ 9223372036854775807 := by omega
        have hcl : L.length ≤ c3 := by obtain ⟨_, cap', he', h1, _⟩ := O3.out.isB; simp at he'; omega
        have hjc : (j : Int) ≤ (c3 : Int) := by omega
        have hcut := O3.out.isB.take j (by omega)
        have hjt : (L.take j).length = j := by simp; omega
        have hRd := read_any a3 c3 (L.take j) w3 (HE.out.below B3.out) (by rw [hjt]; exact hcut)
        rw [hjt] at hRd
        have HRd := Lib.hid hRd
        have HLm := Lib.hid hLm
        have Hjl := Lib.hid hjl
        have Hkx : Hid (k ≤ xs.length) := Lib.hid hnx
        have hua := PK.u64_lt ak
        clear hRd hcut hjt hLm hLn hjl hj hk0 O3
        generalize PK.u64 ak = ua at *
        go_wp2_with fail
        refine HRd.out.mono ?_
        rintro e w4 ⟨rfl, r4, b4⟩
        have R4 := Lib.hid r4
        have B4 : Hid (Below w.heap.size w w4) := B3.out.trans (b4.mono B3.out.size)
        obtain ⟨N, hN⟩ : ∃ N, w3.heap.size = N := ⟨_, rfl⟩
        have HwN : Hid (w.heap.size ≤ N) := by rw [← hN]; exact Lib.hid B3.out.size
        rw [hN] at R4 ⊢
        clear r4 b4 HRd hwa hwl hmj hjb hjc hcl hz hN B3 hua
        have HRU : Hid (∀ (m : Nat) (b : List UInt8) (_ : b.length = m) (q1 : List UInt8) (q2 : Nat) (W : World), Env W → Rd W N q1 q2 → q1.length ≤ L.length → Calls Tryd.prog 22 #[.pointer (some ⟨N, 0, none⟩), .int .u64 18446744073709551615] W fun v w' => TakeR N W w' v (PK.takeP 0 b.length q1 q2)) := fun m b _ q1 q2 W hE hr _ =>
          (uint_any N 18446744073709551615 q1 q2 W hE hr).mono fun e w' ⟨e1, e2, e3⟩ => ⟨⟨_, e1⟩, e2, e3⟩
        have HRI : Hid (∀ (m : Nat) (b : List UInt8) (_ : b.length = m) (q1 : List UInt8) (q2 : Nat) (W : World), Env W → Rd W N q1 q2 → q1.length ≤ L.length → Calls Tryd.prog 10 #[.pointer (some ⟨N, 0, none⟩)] W fun v w' => TakeR N W w' v (PK.takeP 1 b.length q1 q2)) := fun m b _ q1 q2 W hE hr _ =>
          (int_any N q1 q2 W hE hr).mono fun e w' ⟨e1, e2, e3⟩ => ⟨⟨_, e1⟩, e2, e3⟩
        have HRB : Hid (∀ (m : Nat) (b : List UInt8) (_ : b.length = m) (q1 : List UInt8) (q2 : Nat) (W : World), Env W → Rd W N q1 q2 → q1.length ≤ L.length → Calls Tryd.prog 31 #[.pointer (some ⟨N, 0, none⟩)] W fun v w' => TakeR N W w' v (PK.takeP 2 b.length q1 q2)) := fun m b _ q1 q2 W _ hr _ =>
          (bool_any N q1 q2 W hr).mono fun e w' ⟨e1, e2, e3⟩ => ⟨⟨_, e1⟩, e2, e3⟩
        have HRT : Hid (∀ (m : Nat) (b : List UInt8) (_ : b.length = m) (q1 : List UInt8) (q2 : Nat) (W : World), Env W → Rd W N q1 q2 → q1.length ≤ L.length → m ≤ 9223372036854775807 → Calls Tryd.prog 32 #[.pointer (some ⟨N, 0, none⟩), .int .i64 (m : Int)] W fun v w' => TakeR N W w' v (PK.takeP 3 b.length q1 q2)) := fun m b hb q1 q2 W hE hr hq hm => by
          subst hb
          exact (text_any N q1 q2 b.length W hE hr (by omega) (by have := HLm.out; omega)).mono fun e w' ⟨e1, e2, e3⟩ => ⟨⟨_, e1⟩, e2, e3⟩
        have HRX : Hid (∀ (m : Nat) (b : List UInt8) (_ : b.length = m) (q1 : List UInt8) (q2 : Nat) (W : World), Env W → Rd W N q1 q2 → q1.length ≤ L.length → m ≤ 9223372036854775807 → Calls Tryd.prog 33 #[.pointer (some ⟨N, 0, none⟩), .int .i64 (m : Int)] W fun v w' => TakeR N W w' v (PK.takeP 4 b.length q1 q2)) := fun m b hb q1 q2 W hE hr hq hm => by
          subst hb
          exact (bytes_any N q1 q2 b.length W hE hr (by omega) (by have := HLm.out; omega)).mono fun e w' ⟨⟨a, m, c, e1, _⟩, e2, e3⟩ => ⟨⟨_, e1⟩, e2, e3⟩
        go_wp2_with fail
        go_loopw [10] (fun v wr => ∃ (i : Nat) (q1 : List UInt8) (q2 : Nat), i ≤ k ∧ v = .int .i64 i ∧ Hid (Rd wr N q1 q2) ∧ Hid (Below w.heap.size w wr) ∧ Hid (q1.length ≤ L.length) ∧ Hid (takeTo xs i (L.take j) = (q1, q2))) (fun v _ => k - (intOf v).toNat)
        case atStart => exact ⟨0, L.take j, 0, Nat.zero_le _, rfl, R4.out, B4.out, List.length_take_le' _ _, rfl⟩
        case round =>
          obtain ⟨i, q1, q2, hik, rfl, R6, B6, Hq1, Hq⟩ := hrel
          by_cases hlt : i < k
          · have hix : i < xs.length := by omega
            have hcell : ∃ b o, a0 = some ⟨b, o, none⟩ ∧ w.cell? ⟨b, o + i * 3, none⟩ = some (.int .i64 xs[i].kd) ∧ w.cell? ⟨b, o + i * 3 + 2, none⟩ = some (.slice xs[i].a xs[i].m xs[i].c) := by
              rcases Hcells.out with h | ⟨b, o, h1, h2⟩
              · subst h; simp at hix
              · obtain ⟨c0, c1, c2⟩ := h2 i xs[i] (List.getElem?_eq_getElem hix)
                exact ⟨b, o, h1, c0, c2⟩
            obtain ⟨b, o, rfl, c0, c2⟩ := hcell
            have e0 := B6.out.cell (p := ⟨b, o + i * 3, none⟩) (World.block_lt_of_cell? w _ c0)
            have e2 := B6.out.cell (p := ⟨b, o + i * 3 + 2, none⟩) (World.block_lt_of_cell? w _ c2)
            rw [c0] at e0
            rw [c2] at e2
            have hfx := Hfit.out xs[i] (List.getElem_mem hix)
            have hst := takeTo_succ xs i (L.take j) hix
            rw [Hq.out] at hst
            have h5 : PK.u64 xs[i].kd % 5 = 0 ∨ PK.u64 xs[i].kd % 5 = 1 ∨ PK.u64 xs[i].kd % 5 = 2 ∨ PK.u64 xs[i].kd % 5 = 3 ∨ PK.u64 xs[i].kd % 5 = 4 := by omega
            clear c0 c2 R4 B4
            rcases h5 with h5 | h5 | h5 | h5 | h5
            · have hmk : (PK.u64 xs[i].kd : Int) % 5 = 0 := by omega
              rw [h5] at hst
              have Hst := Lib.hid hst
              have hR := Lib.hid (HRU.out xs[i].m xs[i].b hfx.len q1 q2 wr (HE.out.below B6.out) R6.out Hq1.out)
              have hwk := wrap_u64_nat xs[i].kd
              have hul := PK.u64_lt xs[i].kd
              clear hst h5 HRU HRI HRB HRT HRX hfx
              generalize PK.u64 xs[i].kd = u at *
              go_wp2_with fail
              refine hR.out.mono ?_
              rintro e w7 ⟨⟨y, rfl⟩, r7, f7⟩
              have R7 := Lib.hid r7
              have B7 := Lib.hid (Fr.belowM B6.out f7 HwN.out R6.out.lt)
              clear r7 f7 R6 B6 hR e0 e2 hwk hmk hul
              go_wp2
              go_roundw
              case rel => exact ⟨i + 1, _, _, by omega, by go_num, R7.out, B7.out, Nat.le_trans (takeP_le _ _ _ _) Hq1.out, Hst.out⟩
              case measure => simp [intOf]; omega
            · have hmk : (PK.u64 xs[i].kd : Int) % 5 = 1 := by omega
              rw [h5] at hst
              have Hst := Lib.hid hst
              have hR := Lib.hid (HRI.out xs[i].m xs[i].b hfx.len q1 q2 wr (HE.out.below B6.out) R6.out Hq1.out)
              have hwk := wrap_u64_nat xs[i].kd
              have hul := PK.u64_lt xs[i].kd
              clear hst h5 HRU HRI HRB HRT HRX hfx
              generalize PK.u64 xs[i].kd = u at *
              go_wp2_with fail
              refine hR.out.mono ?_
              rintro e w7 ⟨⟨y, rfl⟩, r7, f7⟩
              have R7 := Lib.hid r7
              have B7 := Lib.hid (Fr.belowM B6.out f7 HwN.out R6.out.lt)
              clear r7 f7 R6 B6 hR e0 e2 hwk hmk hul
              go_wp2
              go_roundw
              case rel => exact ⟨i + 1, _, _, by omega, by go_num, R7.out, B7.out, Nat.le_trans (takeP_le _ _ _ _) Hq1.out, Hst.out⟩
              case measure => simp [intOf]; omega
            · have hmk : (PK.u64 xs[i].kd : Int) % 5 = 2 := by omega
              rw [h5] at hst
              have Hst := Lib.hid hst
              have hR := Lib.hid (HRB.out xs[i].m xs[i].b hfx.len q1 q2 wr (HE.out.below B6.out) R6.out Hq1.out)
              have hwk := wrap_u64_nat xs[i].kd
              have hul := PK.u64_lt xs[i].kd
              clear hst h5 HRU HRI HRB HRT HRX hfx
              generalize PK.u64 xs[i].kd = u at *
              go_wp2_with fail
              refine hR.out.mono ?_
              rintro e w7 ⟨⟨y, rfl⟩, r7, f7⟩
              have R7 := Lib.hid r7
              have B7 := Lib.hid (Fr.belowM B6.out f7 HwN.out R6.out.lt)
              clear r7 f7 R6 B6 hR e0 e2 hwk hmk hul
              go_wp2
              go_roundw
              case rel => exact ⟨i + 1, _, _, by omega, by go_num, R7.out, B7.out, Nat.le_trans (takeP_le _ _ _ _) Hq1.out, Hst.out⟩
              case measure => simp [intOf]; omega
            · have hmk : (PK.u64 xs[i].kd : Int) % 5 = 3 := by omega
              rw [h5] at hst
              have Hst := Lib.hid hst
              have hR := Lib.hid (HRT.out xs[i].m xs[i].b hfx.len q1 q2 wr (HE.out.below B6.out) R6.out Hq1.out (by have := hfx.bytes.len; rw [hfx.len] at this; simp only [maxLen] at this; exact this))
              have hwk := wrap_u64_nat xs[i].kd
              have hul := PK.u64_lt xs[i].kd
              clear hst h5 HRU HRI HRB HRT HRX hfx
              generalize PK.u64 xs[i].kd = u at *
              go_wp2_with fail
              refine hR.out.mono ?_
              rintro e w7 ⟨⟨y, rfl⟩, r7, f7⟩
              have R7 := Lib.hid r7
              have B7 := Lib.hid (Fr.belowM B6.out f7 HwN.out R6.out.lt)
              clear r7 f7 R6 B6 hR e0 e2 hwk hmk hul
              go_wp2
              go_roundw
              case rel => exact ⟨i + 1, _, _, by omega, by go_num, R7.out, B7.out, Nat.le_trans (takeP_le _ _ _ _) Hq1.out, Hst.out⟩
              case measure => simp [intOf]; omega
            · have hmk : (PK.u64 xs[i].kd : Int) % 5 = 4 := by omega
              rw [h5] at hst
              have Hst := Lib.hid hst
              have hR := Lib.hid (HRX.out xs[i].m xs[i].b hfx.len q1 q2 wr (HE.out.below B6.out) R6.out Hq1.out (by have := hfx.bytes.len; rw [hfx.len] at this; simp only [maxLen] at this; exact this))
              have hwk := wrap_u64_nat xs[i].kd
              have hul := PK.u64_lt xs[i].kd
              clear hst h5 HRU HRI HRB HRT HRX hfx
              generalize PK.u64 xs[i].kd = u at *
              go_wp2_with fail
              refine hR.out.mono ?_
              rintro e w7 ⟨⟨y, rfl⟩, r7, f7⟩
              have R7 := Lib.hid r7
              have B7 := Lib.hid (Fr.belowM B6.out f7 HwN.out R6.out.lt)
              clear r7 f7 R6 B6 hR e0 e2 hwk hmk hul
              go_wp2
              go_roundw
              case rel => exact ⟨i + 1, _, _, by omega, by go_num, R7.out, B7.out, Nat.le_trans (takeP_le _ _ _ _) Hq1.out, Hst.out⟩
              case measure => simp [intOf]; omega
          · obtain rfl : i = k := by omega
            have h12 : q2 = 12 := by
              have h := PK.takeAll_cut ((xs.take i).map RTh.th) (fun x hx => by
                obtain ⟨y, hy, rfl⟩ := List.mem_map.1 hx
                exact (Hfit.out y (List.mem_of_mem_take hy)).may) j (by have := Hjl.out; rw [HL.out] at this; exact this)
              have e : PK.layAll ((xs.take i).map RTh.th) = L := HL.out.symm
              rw [e] at h
              have h2 := Hq.out
              unfold takeTo at h2
              rw [h2] at h
              exact h
            subst h12
            have HDn := Lib.hid (done_any N q1 12 wr R6.out)
            have hd12 : PK.doneP q1 12 = 12 := PK.doneP_err q1 11
            rw [hd12] at HDn
            have HNm := Lib.hid (num_any 12 wr (HE.out.below B6.out))
            clear hd12 HRU HRI HRB HRT HRX R4 B4
            go_wp2_with fail
            refine HDn.out.mono ?_
            rintro e w5 ⟨rfl, rfl⟩
            go_wp2_with fail
            refine HNm.out.mono ?_
            rintro e w5 ⟨rfl, b5⟩
            have B5 := Lib.hid (B6.out.trans (b5.mono B6.out.size))
            have HS := Lib.hid (sure_any w5 (HE.out.below B5.out))
            clear b5 HNm HDn
            go_wp2_with fail
            refine HS.out.mono ?_
            rintro e w6 ⟨rfl, b6⟩
            have B7 := Lib.hid (B5.out.trans (b6.mono B5.out.size))
            clear b6 HS
            go_wp2
            go_ret
            exact ⟨rfl, B7.out⟩
end Go.Proofs.YtincbeipfgbfpaaDoor
