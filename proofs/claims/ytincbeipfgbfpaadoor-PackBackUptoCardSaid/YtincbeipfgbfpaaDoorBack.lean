/-
  tollbarlaw01.PackBack by a contract: it answers true.
  Conditions: the listed variables read as listed ('Env'); the slice reads as Things ('ThS'); what is laid of them is at most 2^47 - 1000 bytes long.
-/
import Derived.Test.YtincbeipfgbfpaaDoorCut
import Derived.Test.YtincbeipfgbfpaaDoorKind
namespace Go.Proofs.YtincbeipfgbfpaaDoor
open Go Go.RowKit

/-- What is left of n Things when k have been taken. -/
def layFrom (xs : List RTh) (n k : Nat) : List UInt8 := PK.layAll (((xs.take n).drop k).map RTh.th)
theorem layFrom_zero (xs : List RTh) (n : Nat) : layFrom xs n 0 = layTo xs n := rfl
theorem layFrom_succ (xs : List RTh) (n k : Nat) (h : k < n) (hx : k < xs.length) : layFrom xs n k = PK.layP xs[k].th ++ layFrom xs n (k + 1) := by
  unfold layFrom
  rw [List.drop_eq_getElem_cons (by simp; omega)]
  simp [PK.layAll]
theorem layFrom_end (xs : List RTh) (n : Nat) : layFrom xs n n = [] := by
  unfold layFrom
  rw [List.drop_eq_nil_of_le (by simp; omega)]
  simp [PK.layAll]
theorem layFrom_le (xs : List RTh) (n : Nat) : ∀ k, (layFrom xs n k).length ≤ (layTo xs n).length
  | 0 => Nat.le_refl _
  | k + 1 => by
    refine Nat.le_trans ?_ (layFrom_le xs n k)
    by_cases h : k < n ∧ k < xs.length
    · rw [layFrom_succ xs n k h.1 h.2]; simp
    · have : layFrom xs n (k + 1) = [] := by
        unfold layFrom
        rw [List.drop_eq_nil_of_le (by simp; omega)]
        simp [PK.layAll]
      rw [this]; simp
/-- The letter of a thing. -/
theorem kindP_lay (x : PK.Th) (r : List UInt8) : PK.kindP (PK.layP x ++ r) 0 = ((PK.layP x).head?.map (·.toNat)).getD 0 := by
  obtain ⟨c, t, e, h0, h1, h2, h3, h4⟩ := PK.lay_head x
  rw [e]
  have hk : x.k = 0 ∨ x.k = 1 ∨ x.k = 2 ∨ x.k = 3 ∨ 4 ≤ x.k := by omega
  have hb : PK.begP [110, 105, 121, 122, 116, 98] (c :: t ++ r) = 0 := by
    have : c = 110 ∨ c = 105 ∨ (c = 121 ∨ c = 122) ∨ c = 116 ∨ c = 98 := by
      rcases hk with h | h | h | h | h
      · exact .inl (h0.2 h)
      · exact .inr (.inl (h1.2 h))
      · exact .inr (.inr (.inl (h2.2 h)))
      · exact .inr (.inr (.inr (.inl (h3.2 h))))
      · exact .inr (.inr (.inr (.inr (h4.2 h))))
    rcases this with h | h | (h | h) | h | h <;> subst h <;> simp [PK.begP]
  unfold PK.kindP
  rw [if_neg (by simp), if_neg (by rw [hb]; simp)]
  rfl

set_option maxRecDepth 100000 in
set_option maxHeartbeats 8000000 in
theorem back_short (v : Value) (xs : List RTh) (w : World) (hE : Env w) (hv : ThS w v xs) (hT : wt xs + 1000 ≤ roomB) (hs : xs.length ≤ 200) :
    Calls Tryd.prog 7 #[v] w fun e w' => e = .returned (.bool true) ∧ Below w.heap.size w w' := by
  obtain ⟨a0, cap, rfl, hcap, hcm, hcells, hfit⟩ := hv
  have HN := Lib.hid (new_any w hE)
  have HE := Lib.hid hE
  have Hfit := Lib.hid hfit
  have HT := Lib.hid hT
  have Hcells := Lib.hid hcells
  have hlen : xs.length ≤ 9223372036854775807 := by simp only [maxLen] at hcm; omega
  have HLay : Hid (∀ (k : Nat) (hk : k < xs.length) (wr : World), Wr wr w.heap.size w.heap.size (layTo xs k) → Below w.heap.size w wr → Calls Tryd.prog 30 #[.pointer (some ⟨w.heap.size, 0, none⟩), .agg #[.int .i64 xs[k].kd, .int .i64 xs[k].n, .slice xs[k].a xs[k].m xs[k].c]] wr fun e w' =>
      e = .returned (.pointer (some ⟨w.heap.size, 0, none⟩)) ∧ Wr w' w.heap.size w.heap.size (layTo xs (k + 1)) ∧ Below w.heap.size w w') := by
    intro k hk wr h b
    have hx := Hfit.out xs[k] (List.getElem_mem hk)
    have hle := layTo_le xs w Hfit.out k hk
    refine (lay_of _ _ (layTo xs k) xs[k].kd xs[k].n xs[k].a xs[k].m xs[k].c xs[k].b wr h (hx.below b).bytes (fun hb j hj => hx.bytes.own_lt hb j hj) hx.n0 hx.n1 (by have := HT.out; omega) (HE.out.below b)).mono ?_
    rintro e w' ⟨rfl, h1, b1⟩
    rw [layTo_succ xs k hk]
    exact ⟨rfl, h1, b.trans b1⟩
  have cells : Hid (∀ k (hk : k < xs.length) (wr : World), Below w.heap.size w wr → ∃ b o, a0 = some ⟨b, o, none⟩ ∧ wr.cell? ⟨b, o + k * 3, none⟩ = some (.int .i64 xs[k].kd) ∧ wr.cell? ⟨b, o + k * 3 + 1, none⟩ = some (.int .i64 xs[k].n) ∧ wr.cell? ⟨b, o + k * 3 + 2, none⟩ = some (.slice xs[k].a xs[k].m xs[k].c)) := by
    intro k hk wr B
    rcases Hcells.out with h | ⟨b, o, h1, h2⟩
    · subst h; simp at hk
    · obtain ⟨c0, c1, c2⟩ := h2 k xs[k] (List.getElem?_eq_getElem hk)
      exact ⟨b, o, h1, (B.cell (p := ⟨b, o + k * 3, none⟩) (World.block_lt_of_cell? w _ c0)).trans c0, (B.cell (p := ⟨b, o + k * 3 + 1, none⟩) (World.block_lt_of_cell? w _ c1)).trans c1, (B.cell (p := ⟨b, o + k * 3 + 2, none⟩) (World.block_lt_of_cell? w _ c2)).trans c2⟩
  clear hE hfit hT hcells hcap hcm
  go_enter Tryd.func7, Tryd.ntmps7
  go_wp2_with fail
  refine HN.out.mono ?_
  rintro e w1 ⟨rfl, h1, b1⟩
  have W1 := Lib.hid h1
  have B1 := Lib.hid b1
  clear HN h1 b1
  go_wp2_with fail
  go_loopw [3, 4] (fun v i wr => ∃ k : Nat, k ≤ xs.length ∧ i = .int .i64 k ∧ v = .pointer (some ⟨w.heap.size, 0, none⟩) ∧ Hid (Wr wr w.heap.size w.heap.size (layTo xs k)) ∧ Hid (Below w.heap.size w wr)) (fun _ i _ => xs.length - (intOf i).toNat)
  case atStart => exact ⟨0, Nat.zero_le _, rfl, rfl, W1.out, B1.out⟩
  case round =>
    obtain ⟨k, hk, rfl, rfl, W2, B2⟩ := hrel
    by_cases hlt : k < xs.length
    · have hkx : k < xs.length := by omega
      have h200 : (k : Int) < 200 := by omega
      obtain ⟨b, o, rfl, e0, e1, e2⟩ := cells.out k hkx wr B2.out
      have HL := Lib.hid (HLay.out k hkx wr W2.out B2.out)
      clear HLay W1 B1 W2 B2
      go_wp2_with fail
      refine HL.out.mono ?_
      rintro e w2 ⟨rfl, h2, b2⟩
      have W2 := Lib.hid h2
      have B2 := Lib.hid b2
      clear h2 b2 HL e0 e1 e2
      go_wp2
      go_roundw
      case rel => exact ⟨k + 1, by omega, by go_num, rfl, W2.out, B2.out⟩
      case measure => simp [intOf]; omega
    · obtain rfl : k = xs.length := by omega
      have HDone := Lib.hid (wdone_any w.heap.size w.heap.size (layTo xs xs.length) wr W2.out (by have := layTo_all xs w Hfit.out xs.length; have := HT.out; omega))
      clear HLay W1 B1 W2
      obtain ⟨L, hL⟩ : ∃ L, L = layTo xs xs.length := ⟨_, rfl⟩
      rw [← hL] at HDone
      have HL := Lib.hid hL
      have HLm : Hid (L.length + 1000 ≤ roomB) := by rw [hL]; exact Lib.hid (by have := layTo_all xs w Hfit.out xs.length; have := HT.out; omega)
      clear hL
      go_wp2_with fail
      refine HDone.out.mono ?_
      rintro e w3 ⟨⟨a3, c3, rfl, o3, _⟩, b3⟩
      have O3 := Lib.hid o3.isB
      have B3 : Hid (Below w.heap.size w w3) := B2.out.trans (b3.mono B2.out.size)
      have HRd := Lib.hid (read_any a3 c3 L w3 (HE.out.below B3.out) o3.isB)
      clear o3 b3 B2 HDone
      go_wp2_with fail
      refine HRd.out.mono ?_
      rintro e w4 ⟨rfl, r4, b4⟩
      have O4 := Lib.hid (O3.out.below b4)
      have B4 : Hid (Below w.heap.size w w4) := B3.out.trans (b4.mono B3.out.size)
      obtain ⟨N, hN⟩ : ∃ N, w3.heap.size = N := ⟨_, rfl⟩
      have HwN : Hid (w.heap.size ≤ N) := by rw [← hN]; exact Lib.hid B3.out.size
      rw [hN] at r4 ⊢
      have R4 : Hid (Rd w4 N (layFrom xs xs.length 0) 0) := by rw [layFrom_zero, ← HL.out]; exact r4
      clear r4 b4 HRd hN B3 O3
      go_wp2_with fail
      go_loopw [7] (fun v wr => ∃ i : Nat, i ≤ xs.length ∧ v = .int .i64 i ∧ Hid (Rd wr N (layFrom xs xs.length i) 0) ∧ Hid (Below w.heap.size w wr) ∧ Hid (Fr (fun j => j = N) w4 wr)) (fun v _ => xs.length - (intOf v).toNat)
      case atStart => exact ⟨0, Nat.zero_le _, rfl, R4.out, B4.out, Fr.refl _ _⟩
      case round =>
        obtain ⟨i, hi, rfl, R6, B6, F6⟩ := hrel
        by_cases hlt2 : i < xs.length
        · have hix : i < xs.length := by omega
          have h200 : (i : Int) < 200 := by omega
          obtain ⟨b, o, rfl, e0, e1, e2⟩ := cells.out i hix wr B6.out
          have hfx := Hfit.out xs[i] (List.getElem_mem hix)
          have h5 : PK.u64 xs[i].kd % 5 = 0 ∨ PK.u64 xs[i].kd % 5 = 1 ∨ PK.u64 xs[i].kd % 5 = 2 ∨ PK.u64 xs[i].kd % 5 = 3 ∨ PK.u64 xs[i].kd % 5 = 4 := by omega
          have hr := layFrom_succ xs xs.length i hlt2 hix
          have Hr := Lib.hid hr
          rw [hr] at R6
          clear R4 B4 hr
          rcases h5 with h5 | h5 | h5 | h5 | h5
          · have hmk : (PK.u64 xs[i].kd : Int) % 5 = 0 := by omega
            have hwk := wrap_u64_nat xs[i].kd
            have hul := PK.u64_lt xs[i].kd
            have hth : xs[i].th.k = 0 := h5
            have hlay : PK.layP xs[i].th = 110 :: Lib.decDigits (PK.u64 xs[i].n) ++ [59] := by
              unfold PK.layP
              rw [hth]
              rfl
            have hkind : ((PK.kindP (PK.layP xs[i].th ++ layFrom xs xs.length (i + 1)) 0 : Nat) : Int) = 110 := by
              rw [kindP_lay, hlay]
              rfl
            have hm63 : (xs[i].m : Int) ≤ 9223372036854775807 := by have := hfx.bytes.len; rw [hfx.len] at this; simp only [maxLen] at this; omega
            have hroom : (PK.layP xs[i].th ++ layFrom xs xs.length (i + 1)).length ≤ roomB := by
              have h1 := layFrom_le xs xs.length i
              rw [Hr.out, ← HL.out] at h1
              have := HLm.out
              omega
            have heq := PK.uint_full (PK.u64 xs[i].n) 18446744073709551615 (PK.u64_lt _) (by have := PK.u64_lt xs[i].n; omega) (layFrom xs xs.length (i + 1))
            rw [← hlay] at heq
            have HV : Hid (∀ W, Env W → Rd W N (PK.layP xs[i].th ++ layFrom xs xs.length (i + 1)) 0 → Calls Tryd.prog 22 #[.pointer (some ⟨N, 0, none⟩), .int .u64 18446744073709551615] W fun e w' => e = .returned (.int .u64 ((PK.u64 xs[i].n : Nat) : Int)) ∧ Rd w' N (layFrom xs xs.length (i + 1)) 0 ∧ Fr (fun i => i = N) W w') := fun W hE hr =>
              (uint_any N 18446744073709551615 (PK.layP xs[i].th ++ layFrom xs xs.length (i + 1)) 0 W hE hr).mono fun e w' ⟨e1, e2, e3⟩ => by rw [heq] at e1 e2; exact ⟨e1, e2, e3⟩
            have HKd := Lib.hid hkind
            clear hkind heq hlay hroom hfx hth h5 Hr
            generalize PK.layP xs[i].th ++ layFrom xs xs.length (i + 1) = l0 at *
            have HR' : Hid (∃ r, r = layFrom xs xs.length (i + 1)) := ⟨_, rfl⟩
            go_wp2_with fail
            have q1 : (wr.alloc (.cells #[.int .i64 xs[i].kd, .int .i64 xs[i].n, .slice xs[i].a xs[i].m xs[i].c] 61)).cell? ⟨wr.heap.size, 1, none⟩ = some (.int .i64 xs[i].n) := World.cell?_alloc_new _ _ _ 1
            have q2 : (wr.alloc (.cells #[.int .i64 xs[i].kd, .int .i64 xs[i].n, .slice xs[i].a xs[i].m xs[i].c] 61)).cell? ⟨wr.heap.size, 2, none⟩ = some (.slice xs[i].a xs[i].m xs[i].c) := World.cell?_alloc_new _ _ _ 2
            have b01 : Below wr.heap.size wr (wr.alloc (.cells #[.int .i64 xs[i].kd, .int .i64 xs[i].n, .slice xs[i].a xs[i].m xs[i].c] 61)) := (Below.refl _ _).alloc (Nat.le_refl _) _
            have hXs : wr.heap.size < (wr.alloc (.cells #[.int .i64 xs[i].kd, .int .i64 xs[i].n, .slice xs[i].a xs[i].m xs[i].c] 61)).heap.size := by simp
            have hNX : N < wr.heap.size := R6.out.lt
            generalize (wr.alloc (.cells #[.int .i64 xs[i].kd, .int .i64 xs[i].n, .slice xs[i].a xs[i].m xs[i].c] 61)) = W0 at *
            have R0 := Lib.hid (R6.out.below b01)
            have B0 := Lib.hid (B6.out.trans (b01.mono B6.out.size))
            have F0 := Lib.hid (F6.out.trans (Fr.of_below b01))
            generalize wr.heap.size = X at *
            have next : Hid (∀ W W' : World, (Hid (Fr (fun j => j = N) W0 W) ∧ W.cell? ⟨X, 1, none⟩ = some (.int .i64 xs[i].n) ∧ W.cell? ⟨X, 2, none⟩ = some (.slice xs[i].a xs[i].m xs[i].c)) → Fr (fun j => j = N) W W' → (Hid (Fr (fun j => j = N) W0 W') ∧ W'.cell? ⟨X, 1, none⟩ = some (.int .i64 xs[i].n) ∧ W'.cell? ⟨X, 2, none⟩ = some (.slice xs[i].a xs[i].m xs[i].c))) := by
              rintro W W' ⟨h, _⟩ f
              have ff := h.out.trans f
              exact ⟨Lib.hid ff, ff.cell q1 (fun e => by have : X = N := e; omega), ff.cell q2 (fun e => by have : X = N := e; omega)⟩
            have envS : Hid (∀ W, (Hid (Fr (fun j => j = N) W0 W) ∧ W.cell? ⟨X, 1, none⟩ = some (.int .i64 xs[i].n) ∧ W.cell? ⟨X, 2, none⟩ = some (.slice xs[i].a xs[i].m xs[i].c)) → Env W) := fun W h => HE.out.below (Fr.belowM B0.out h.1.out HwN.out R0.out.lt)
            have C34 : Hid (∀ W, (Hid (Fr (fun j => j = N) W0 W) ∧ W.cell? ⟨X, 1, none⟩ = some (.int .i64 xs[i].n) ∧ W.cell? ⟨X, 2, none⟩ = some (.slice xs[i].a xs[i].m xs[i].c)) → Hid (Rd W N l0 0) → Calls Tryd.prog 34 #[.pointer (some ⟨N, 0, none⟩)] W fun e w' => e = .returned (.int .u8 110) ∧ (Hid (Fr (fun j => j = N) W0 w') ∧ w'.cell? ⟨X, 1, none⟩ = some (.int .i64 xs[i].n) ∧ w'.cell? ⟨X, 2, none⟩ = some (.slice xs[i].a xs[i].m xs[i].c)) ∧ Hid (Rd w' N l0 0)) := fun W h hr =>
              (kind_any N l0 0 W hr.out).mono fun e w' ⟨e1, e2⟩ => ⟨by rw [HKd.out] at e1; exact e1, next.out W w' h (Fr.of_below e2), hr.out.below e2⟩
            have CV : Hid (∀ W, (Hid (Fr (fun j => j = N) W0 W) ∧ W.cell? ⟨X, 1, none⟩ = some (.int .i64 xs[i].n) ∧ W.cell? ⟨X, 2, none⟩ = some (.slice xs[i].a xs[i].m xs[i].c)) → Hid (Rd W N l0 0) → Calls Tryd.prog 22 #[.pointer (some ⟨N, 0, none⟩), .int .u64 18446744073709551615] W fun e w' => e = .returned (.int .u64 ((PK.u64 xs[i].n : Nat) : Int)) ∧ (Hid (Fr (fun j => j = N) W0 w') ∧ w'.cell? ⟨X, 1, none⟩ = some (.int .i64 xs[i].n) ∧ w'.cell? ⟨X, 2, none⟩ = some (.slice xs[i].a xs[i].m xs[i].c)) ∧ Hid (Rd w' N (layFrom xs xs.length (i + 1)) 0)) := fun W h hr =>
              (HV.out W (envS.out W h) hr.out).mono fun e w' ⟨e1, e2, e3⟩ => ⟨e1, next.out W w' h e3, e2⟩
            have hwn := wrap_u64_nat xs[i].n
            have S0 : (Hid (Fr (fun j => j = N) W0 W0.drew) ∧ W0.drew.cell? ⟨X, 1, none⟩ = some (.int .i64 xs[i].n) ∧ W0.drew.cell? ⟨X, 2, none⟩ = some (.slice xs[i].a xs[i].m xs[i].c)) := ⟨Lib.hid (Fr.refl _ _).drew, q1, q2⟩
            have RD : Hid (Rd W0.drew N l0 0) := R0.out.below (Below.refl _ _).drew
            have HlN : Hid (N < W0.heap.size) := R0.out.lt
            clear next envS HV HKd R0 R6 q1 q2 b01 hXs hwk hmk hul B6 F6 HE Hfit HT Hcells cells HLm HL hm63 
            go_region_held3 (fun W => (Hid (Fr (fun j => j = N) W0 W) ∧ W.cell? ⟨X, 1, none⟩ = some (.int .i64 xs[i].n) ∧ W.cell? ⟨X, 2, none⟩ = some (.slice xs[i].a xs[i].m xs[i].c))) (assumption)
              (first
                | (go_at_call 34; refine (C34.out _ ?_ ?_).mono ?_; assumption; assumption; rintro e w7 ⟨rfl, hk7, hr7⟩)
                | (go_at_call 22; refine (CV.out _ ?_ ?_).mono ?_; assumption; assumption; rintro e w8 ⟨rfl, hk8, hr8⟩))
            have B8 := Lib.hid (Fr.belowM B0.out hk8.1.out HwN.out HlN.out)
            have R8 := hr8
            have F8 := Lib.hid (F0.out.trans hk8.1.out)
            clear F0 B0 C34 CV S0 RD hk7 hr7 hk8 hr8 HlN 
            go_wp2
            go_roundw
            case rel => exact ⟨i + 1, by omega, by go_num, R8.out, B8.out, F8.out⟩
            case measure => simp [intOf]; omega
          · have hmk : (PK.u64 xs[i].kd : Int) % 5 = 1 := by omega
            have hwk := wrap_u64_nat xs[i].kd
            have hul := PK.u64_lt xs[i].kd
            have hth : xs[i].th.k = 1 := h5
            have hlay : PK.layP xs[i].th = 105 :: Lib.itoa xs[i].n ++ [59] := by
              unfold PK.layP
              rw [hth]
              rfl
            have hkind : ((PK.kindP (PK.layP xs[i].th ++ layFrom xs xs.length (i + 1)) 0 : Nat) : Int) = 105 := by
              rw [kindP_lay, hlay]
              rfl
            have hm63 : (xs[i].m : Int) ≤ 9223372036854775807 := by have := hfx.bytes.len; rw [hfx.len] at this; simp only [maxLen] at this; omega
            have hroom : (PK.layP xs[i].th ++ layFrom xs xs.length (i + 1)).length ≤ roomB := by
              have h1 := layFrom_le xs xs.length i
              rw [Hr.out, ← HL.out] at h1
              have := HLm.out
              omega
            have heq := PK.int_full xs[i].n hfx.n0 hfx.n1 (layFrom xs xs.length (i + 1))
            rw [← hlay] at heq
            have HV : Hid (∀ W, Env W → Rd W N (PK.layP xs[i].th ++ layFrom xs xs.length (i + 1)) 0 → Calls Tryd.prog 10 #[.pointer (some ⟨N, 0, none⟩)] W fun e w' => e = .returned (.int .i64 xs[i].n) ∧ Rd w' N (layFrom xs xs.length (i + 1)) 0 ∧ Fr (fun i => i = N) W w') := fun W hE hr =>
              (int_any N (PK.layP xs[i].th ++ layFrom xs xs.length (i + 1)) 0 W hE hr).mono fun e w' ⟨e1, e2, e3⟩ => by rw [heq] at e1 e2; exact ⟨e1, e2, e3⟩
            have HKd := Lib.hid hkind
            clear hkind heq hlay hroom hfx hth h5 Hr
            generalize PK.layP xs[i].th ++ layFrom xs xs.length (i + 1) = l0 at *
            have HR' : Hid (∃ r, r = layFrom xs xs.length (i + 1)) := ⟨_, rfl⟩
            go_wp2_with fail
            have q1 : (wr.alloc (.cells #[.int .i64 xs[i].kd, .int .i64 xs[i].n, .slice xs[i].a xs[i].m xs[i].c] 61)).cell? ⟨wr.heap.size, 1, none⟩ = some (.int .i64 xs[i].n) := World.cell?_alloc_new _ _ _ 1
            have q2 : (wr.alloc (.cells #[.int .i64 xs[i].kd, .int .i64 xs[i].n, .slice xs[i].a xs[i].m xs[i].c] 61)).cell? ⟨wr.heap.size, 2, none⟩ = some (.slice xs[i].a xs[i].m xs[i].c) := World.cell?_alloc_new _ _ _ 2
            have b01 : Below wr.heap.size wr (wr.alloc (.cells #[.int .i64 xs[i].kd, .int .i64 xs[i].n, .slice xs[i].a xs[i].m xs[i].c] 61)) := (Below.refl _ _).alloc (Nat.le_refl _) _
            have hXs : wr.heap.size < (wr.alloc (.cells #[.int .i64 xs[i].kd, .int .i64 xs[i].n, .slice xs[i].a xs[i].m xs[i].c] 61)).heap.size := by simp
            have hNX : N < wr.heap.size := R6.out.lt
            generalize (wr.alloc (.cells #[.int .i64 xs[i].kd, .int .i64 xs[i].n, .slice xs[i].a xs[i].m xs[i].c] 61)) = W0 at *
            have R0 := Lib.hid (R6.out.below b01)
            have B0 := Lib.hid (B6.out.trans (b01.mono B6.out.size))
            have F0 := Lib.hid (F6.out.trans (Fr.of_below b01))
            generalize wr.heap.size = X at *
            have next : Hid (∀ W W' : World, (Hid (Fr (fun j => j = N) W0 W) ∧ W.cell? ⟨X, 1, none⟩ = some (.int .i64 xs[i].n) ∧ W.cell? ⟨X, 2, none⟩ = some (.slice xs[i].a xs[i].m xs[i].c)) → Fr (fun j => j = N) W W' → (Hid (Fr (fun j => j = N) W0 W') ∧ W'.cell? ⟨X, 1, none⟩ = some (.int .i64 xs[i].n) ∧ W'.cell? ⟨X, 2, none⟩ = some (.slice xs[i].a xs[i].m xs[i].c))) := by
              rintro W W' ⟨h, _⟩ f
              have ff := h.out.trans f
              exact ⟨Lib.hid ff, ff.cell q1 (fun e => by have : X = N := e; omega), ff.cell q2 (fun e => by have : X = N := e; omega)⟩
            have envS : Hid (∀ W, (Hid (Fr (fun j => j = N) W0 W) ∧ W.cell? ⟨X, 1, none⟩ = some (.int .i64 xs[i].n) ∧ W.cell? ⟨X, 2, none⟩ = some (.slice xs[i].a xs[i].m xs[i].c)) → Env W) := fun W h => HE.out.below (Fr.belowM B0.out h.1.out HwN.out R0.out.lt)
            have C34 : Hid (∀ W, (Hid (Fr (fun j => j = N) W0 W) ∧ W.cell? ⟨X, 1, none⟩ = some (.int .i64 xs[i].n) ∧ W.cell? ⟨X, 2, none⟩ = some (.slice xs[i].a xs[i].m xs[i].c)) → Hid (Rd W N l0 0) → Calls Tryd.prog 34 #[.pointer (some ⟨N, 0, none⟩)] W fun e w' => e = .returned (.int .u8 105) ∧ (Hid (Fr (fun j => j = N) W0 w') ∧ w'.cell? ⟨X, 1, none⟩ = some (.int .i64 xs[i].n) ∧ w'.cell? ⟨X, 2, none⟩ = some (.slice xs[i].a xs[i].m xs[i].c)) ∧ Hid (Rd w' N l0 0)) := fun W h hr =>
              (kind_any N l0 0 W hr.out).mono fun e w' ⟨e1, e2⟩ => ⟨by rw [HKd.out] at e1; exact e1, next.out W w' h (Fr.of_below e2), hr.out.below e2⟩
            have CV : Hid (∀ W, (Hid (Fr (fun j => j = N) W0 W) ∧ W.cell? ⟨X, 1, none⟩ = some (.int .i64 xs[i].n) ∧ W.cell? ⟨X, 2, none⟩ = some (.slice xs[i].a xs[i].m xs[i].c)) → Hid (Rd W N l0 0) → Calls Tryd.prog 10 #[.pointer (some ⟨N, 0, none⟩)] W fun e w' => e = .returned (.int .i64 xs[i].n) ∧ (Hid (Fr (fun j => j = N) W0 w') ∧ w'.cell? ⟨X, 1, none⟩ = some (.int .i64 xs[i].n) ∧ w'.cell? ⟨X, 2, none⟩ = some (.slice xs[i].a xs[i].m xs[i].c)) ∧ Hid (Rd w' N (layFrom xs xs.length (i + 1)) 0)) := fun W h hr =>
              (HV.out W (envS.out W h) hr.out).mono fun e w' ⟨e1, e2, e3⟩ => ⟨e1, next.out W w' h e3, e2⟩
            have S0 : (Hid (Fr (fun j => j = N) W0 W0.drew) ∧ W0.drew.cell? ⟨X, 1, none⟩ = some (.int .i64 xs[i].n) ∧ W0.drew.cell? ⟨X, 2, none⟩ = some (.slice xs[i].a xs[i].m xs[i].c)) := ⟨Lib.hid (Fr.refl _ _).drew, q1, q2⟩
            have RD : Hid (Rd W0.drew N l0 0) := R0.out.below (Below.refl _ _).drew
            have HlN : Hid (N < W0.heap.size) := R0.out.lt
            clear next envS HV HKd R0 R6 q1 q2 b01 hXs hwk hmk hul B6 F6 HE Hfit HT Hcells cells HLm HL hm63 
            go_region_held3 (fun W => (Hid (Fr (fun j => j = N) W0 W) ∧ W.cell? ⟨X, 1, none⟩ = some (.int .i64 xs[i].n) ∧ W.cell? ⟨X, 2, none⟩ = some (.slice xs[i].a xs[i].m xs[i].c))) (assumption)
              (first
                | (go_at_call 34; refine (C34.out _ ?_ ?_).mono ?_; assumption; assumption; rintro e w7 ⟨rfl, hk7, hr7⟩)
                | (go_at_call 10; refine (CV.out _ ?_ ?_).mono ?_; assumption; assumption; rintro e w8 ⟨rfl, hk8, hr8⟩))
            have B8 := Lib.hid (Fr.belowM B0.out hk8.1.out HwN.out HlN.out)
            have R8 := hr8
            have F8 := Lib.hid (F0.out.trans hk8.1.out)
            clear F0 B0 C34 CV S0 RD hk7 hr7 hk8 hr8 HlN 
            go_wp2
            go_roundw
            case rel => exact ⟨i + 1, by omega, by go_num, R8.out, B8.out, F8.out⟩
            case measure => simp [intOf]; omega
          · have hmk : (PK.u64 xs[i].kd : Int) % 5 = 2 := by omega
            have hwk := wrap_u64_nat xs[i].kd
            have hul := PK.u64_lt xs[i].kd
            have hth : xs[i].th.k = 2 := h5
            have hlay : PK.layP xs[i].th = [if decide (0 < xs[i].n) then 121 else 122] := by
              unfold PK.layP
              rw [hth]
              rfl
            obtain ⟨cc, hcc⟩ : ∃ cc : Int, cc = ((if decide (0 < xs[i].n) then (121 : UInt8) else 122).toNat : Int) := ⟨_, rfl⟩
            have hc0 : (cc == 0) = false := by rw [beq_eq_false_iff_ne, hcc]; split <;> decide
            have hkind : ((PK.kindP (PK.layP xs[i].th ++ layFrom xs xs.length (i + 1)) 0 : Nat) : Int) = cc := by
              rw [kindP_lay, hlay]
              rw [hcc]; rfl
            have hm63 : (xs[i].m : Int) ≤ 9223372036854775807 := by have := hfx.bytes.len; rw [hfx.len] at this; simp only [maxLen] at this; omega
            have hroom : (PK.layP xs[i].th ++ layFrom xs xs.length (i + 1)).length ≤ roomB := by
              have h1 := layFrom_le xs xs.length i
              rw [Hr.out, ← HL.out] at h1
              have := HLm.out
              omega
            have heq := PK.bool_full (decide (0 < xs[i].n)) (layFrom xs xs.length (i + 1))
            have hcons : PK.layP xs[i].th ++ layFrom xs xs.length (i + 1) = (if decide (0 < xs[i].n) then 121 else 122) :: layFrom xs xs.length (i + 1) := by rw [hlay]; rfl
            rw [← hcons] at heq
            have HV : Hid (∀ W, Env W → Rd W N (PK.layP xs[i].th ++ layFrom xs xs.length (i + 1)) 0 → Calls Tryd.prog 31 #[.pointer (some ⟨N, 0, none⟩)] W fun e w' => e = .returned (.bool (decide (0 < xs[i].n))) ∧ Rd w' N (layFrom xs xs.length (i + 1)) 0 ∧ Fr (fun i => i = N) W w') := fun W hE hr =>
              (bool_any N (PK.layP xs[i].th ++ layFrom xs xs.length (i + 1)) 0 W hr).mono fun e w' ⟨e1, e2, e3⟩ => by rw [heq] at e1 e2; exact ⟨e1, e2, e3⟩
            have HKd := Lib.hid hkind
            clear hkind heq hlay hroom hfx hth h5 hcons hcc Hr
            generalize PK.layP xs[i].th ++ layFrom xs xs.length (i + 1) = l0 at *
            have HR' : Hid (∃ r, r = layFrom xs xs.length (i + 1)) := ⟨_, rfl⟩
            go_wp2_with fail
            have q1 : (wr.alloc (.cells #[.int .i64 xs[i].kd, .int .i64 xs[i].n, .slice xs[i].a xs[i].m xs[i].c] 61)).cell? ⟨wr.heap.size, 1, none⟩ = some (.int .i64 xs[i].n) := World.cell?_alloc_new _ _ _ 1
            have q2 : (wr.alloc (.cells #[.int .i64 xs[i].kd, .int .i64 xs[i].n, .slice xs[i].a xs[i].m xs[i].c] 61)).cell? ⟨wr.heap.size, 2, none⟩ = some (.slice xs[i].a xs[i].m xs[i].c) := World.cell?_alloc_new _ _ _ 2
            have b01 : Below wr.heap.size wr (wr.alloc (.cells #[.int .i64 xs[i].kd, .int .i64 xs[i].n, .slice xs[i].a xs[i].m xs[i].c] 61)) := (Below.refl _ _).alloc (Nat.le_refl _) _
            have hXs : wr.heap.size < (wr.alloc (.cells #[.int .i64 xs[i].kd, .int .i64 xs[i].n, .slice xs[i].a xs[i].m xs[i].c] 61)).heap.size := by simp
            have hNX : N < wr.heap.size := R6.out.lt
            generalize (wr.alloc (.cells #[.int .i64 xs[i].kd, .int .i64 xs[i].n, .slice xs[i].a xs[i].m xs[i].c] 61)) = W0 at *
            have R0 := Lib.hid (R6.out.below b01)
            have B0 := Lib.hid (B6.out.trans (b01.mono B6.out.size))
            have F0 := Lib.hid (F6.out.trans (Fr.of_below b01))
            generalize wr.heap.size = X at *
            have next : Hid (∀ W W' : World, (Hid (Fr (fun j => j = N) W0 W) ∧ W.cell? ⟨X, 1, none⟩ = some (.int .i64 xs[i].n) ∧ W.cell? ⟨X, 2, none⟩ = some (.slice xs[i].a xs[i].m xs[i].c)) → Fr (fun j => j = N) W W' → (Hid (Fr (fun j => j = N) W0 W') ∧ W'.cell? ⟨X, 1, none⟩ = some (.int .i64 xs[i].n) ∧ W'.cell? ⟨X, 2, none⟩ = some (.slice xs[i].a xs[i].m xs[i].c))) := by
              rintro W W' ⟨h, _⟩ f
              have ff := h.out.trans f
              exact ⟨Lib.hid ff, ff.cell q1 (fun e => by have : X = N := e; omega), ff.cell q2 (fun e => by have : X = N := e; omega)⟩
            have envS : Hid (∀ W, (Hid (Fr (fun j => j = N) W0 W) ∧ W.cell? ⟨X, 1, none⟩ = some (.int .i64 xs[i].n) ∧ W.cell? ⟨X, 2, none⟩ = some (.slice xs[i].a xs[i].m xs[i].c)) → Env W) := fun W h => HE.out.below (Fr.belowM B0.out h.1.out HwN.out R0.out.lt)
            have C34 : Hid (∀ W, (Hid (Fr (fun j => j = N) W0 W) ∧ W.cell? ⟨X, 1, none⟩ = some (.int .i64 xs[i].n) ∧ W.cell? ⟨X, 2, none⟩ = some (.slice xs[i].a xs[i].m xs[i].c)) → Hid (Rd W N l0 0) → Calls Tryd.prog 34 #[.pointer (some ⟨N, 0, none⟩)] W fun e w' => e = .returned (.int .u8 cc) ∧ (Hid (Fr (fun j => j = N) W0 w') ∧ w'.cell? ⟨X, 1, none⟩ = some (.int .i64 xs[i].n) ∧ w'.cell? ⟨X, 2, none⟩ = some (.slice xs[i].a xs[i].m xs[i].c)) ∧ Hid (Rd w' N l0 0)) := fun W h hr =>
              (kind_any N l0 0 W hr.out).mono fun e w' ⟨e1, e2⟩ => ⟨by rw [HKd.out] at e1; exact e1, next.out W w' h (Fr.of_below e2), hr.out.below e2⟩
            have CV : Hid (∀ W, (Hid (Fr (fun j => j = N) W0 W) ∧ W.cell? ⟨X, 1, none⟩ = some (.int .i64 xs[i].n) ∧ W.cell? ⟨X, 2, none⟩ = some (.slice xs[i].a xs[i].m xs[i].c)) → Hid (Rd W N l0 0) → Calls Tryd.prog 31 #[.pointer (some ⟨N, 0, none⟩)] W fun e w' => e = .returned (.bool (decide (0 < xs[i].n))) ∧ (Hid (Fr (fun j => j = N) W0 w') ∧ w'.cell? ⟨X, 1, none⟩ = some (.int .i64 xs[i].n) ∧ w'.cell? ⟨X, 2, none⟩ = some (.slice xs[i].a xs[i].m xs[i].c)) ∧ Hid (Rd w' N (layFrom xs xs.length (i + 1)) 0)) := fun W h hr =>
              (HV.out W (envS.out W h) hr.out).mono fun e w' ⟨e1, e2, e3⟩ => ⟨e1, next.out W w' h e3, e2⟩
            have S0 : (Hid (Fr (fun j => j = N) W0 W0.drew) ∧ W0.drew.cell? ⟨X, 1, none⟩ = some (.int .i64 xs[i].n) ∧ W0.drew.cell? ⟨X, 2, none⟩ = some (.slice xs[i].a xs[i].m xs[i].c)) := ⟨Lib.hid (Fr.refl _ _).drew, q1, q2⟩
            have RD : Hid (Rd W0.drew N l0 0) := R0.out.below (Below.refl _ _).drew
            have HlN : Hid (N < W0.heap.size) := R0.out.lt
            clear next envS HV HKd R0 R6 q1 q2 b01 hXs hwk hmk hul B6 F6 HE Hfit HT Hcells cells HLm HL hm63 
            go_region_held3 (fun W => (Hid (Fr (fun j => j = N) W0 W) ∧ W.cell? ⟨X, 1, none⟩ = some (.int .i64 xs[i].n) ∧ W.cell? ⟨X, 2, none⟩ = some (.slice xs[i].a xs[i].m xs[i].c))) (assumption)
              (first
                | (go_at_call 34; refine (C34.out _ ?_ ?_).mono ?_; assumption; assumption; rintro e w7 ⟨rfl, hk7, hr7⟩)
                | (go_at_call 31; refine (CV.out _ ?_ ?_).mono ?_; assumption; assumption; rintro e w8 ⟨rfl, hk8, hr8⟩))
            have B8 := Lib.hid (Fr.belowM B0.out hk8.1.out HwN.out HlN.out)
            have R8 := hr8
            have F8 := Lib.hid (F0.out.trans hk8.1.out)
            clear F0 B0 C34 CV S0 RD hk7 hr7 hk8 hr8 HlN 
            go_wp2
            go_roundw
            case rel => exact ⟨i + 1, by omega, by go_num, R8.out, B8.out, F8.out⟩
            case measure => simp [intOf]; omega
          · have hmk : (PK.u64 xs[i].kd : Int) % 5 = 3 := by omega
            have hwk := wrap_u64_nat xs[i].kd
            have hul := PK.u64_lt xs[i].kd
            have hth : xs[i].th.k = 3 := h5
            have hlay : PK.layP xs[i].th = 116 :: Lib.itoa xs[i].b.length ++ [58] ++ xs[i].b := by
              unfold PK.layP
              rw [hth]
              rfl
            have hkind : ((PK.kindP (PK.layP xs[i].th ++ layFrom xs xs.length (i + 1)) 0 : Nat) : Int) = 116 := by
              rw [kindP_lay, hlay]
              rfl
            have hm63 : (xs[i].m : Int) ≤ 9223372036854775807 := by have := hfx.bytes.len; rw [hfx.len] at this; simp only [maxLen] at this; omega
            have hroom : (PK.layP xs[i].th ++ layFrom xs xs.length (i + 1)).length ≤ roomB := by
              have h1 := layFrom_le xs xs.length i
              rw [Hr.out, ← HL.out] at h1
              have := HLm.out
              omega
            have heq := PK.run_full 116 xs[i].b (layFrom xs xs.length (i + 1)) xs[i].m hfx.may.b (by have := hfx.len; omega)
            rw [← hlay] at heq
            have HV : Hid (∀ W, Env W → Rd W N (PK.layP xs[i].th ++ layFrom xs xs.length (i + 1)) 0 → Calls Tryd.prog 32 #[.pointer (some ⟨N, 0, none⟩), .int .i64 (xs[i].m : Int)] W fun e w' => e = .returned (.string (str xs[i].b)) ∧ Rd w' N (layFrom xs xs.length (i + 1)) 0 ∧ Fr (fun i => i = N) W w') := fun W hE hr =>
              (text_any N (PK.layP xs[i].th ++ layFrom xs xs.length (i + 1)) 0 xs[i].m W hE hr hm63 hroom).mono fun e w' ⟨e1, e2, e3⟩ => by rw [heq] at e1 e2; exact ⟨e1, e2, e3⟩
            have HX := Lib.hid hfx.bytes
            have HKd := Lib.hid hkind
            clear hkind heq hlay hroom hfx hth h5 Hr
            generalize PK.layP xs[i].th ++ layFrom xs xs.length (i + 1) = l0 at *
            have HR' : Hid (∃ r, r = layFrom xs xs.length (i + 1)) := ⟨_, rfl⟩
            go_wp2_with fail
            have q1 : (wr.alloc (.cells #[.int .i64 xs[i].kd, .int .i64 xs[i].n, .slice xs[i].a xs[i].m xs[i].c] 61)).cell? ⟨wr.heap.size, 1, none⟩ = some (.int .i64 xs[i].n) := World.cell?_alloc_new _ _ _ 1
            have q2 : (wr.alloc (.cells #[.int .i64 xs[i].kd, .int .i64 xs[i].n, .slice xs[i].a xs[i].m xs[i].c] 61)).cell? ⟨wr.heap.size, 2, none⟩ = some (.slice xs[i].a xs[i].m xs[i].c) := World.cell?_alloc_new _ _ _ 2
            have b01 : Below wr.heap.size wr (wr.alloc (.cells #[.int .i64 xs[i].kd, .int .i64 xs[i].n, .slice xs[i].a xs[i].m xs[i].c] 61)) := (Below.refl _ _).alloc (Nat.le_refl _) _
            have hXs : wr.heap.size < (wr.alloc (.cells #[.int .i64 xs[i].kd, .int .i64 xs[i].n, .slice xs[i].a xs[i].m xs[i].c] 61)).heap.size := by simp
            have hNX : N < wr.heap.size := R6.out.lt
            generalize (wr.alloc (.cells #[.int .i64 xs[i].kd, .int .i64 xs[i].n, .slice xs[i].a xs[i].m xs[i].c] 61)) = W0 at *
            have R0 := Lib.hid (R6.out.below b01)
            have B0 := Lib.hid (B6.out.trans (b01.mono B6.out.size))
            have F0 := Lib.hid (F6.out.trans (Fr.of_below b01))
            generalize wr.heap.size = X at *
            have next : Hid (∀ W W' : World, (Hid (Fr (fun j => j = N) W0 W) ∧ W.cell? ⟨X, 1, none⟩ = some (.int .i64 xs[i].n) ∧ W.cell? ⟨X, 2, none⟩ = some (.slice xs[i].a xs[i].m xs[i].c)) → Fr (fun j => j = N) W W' → (Hid (Fr (fun j => j = N) W0 W') ∧ W'.cell? ⟨X, 1, none⟩ = some (.int .i64 xs[i].n) ∧ W'.cell? ⟨X, 2, none⟩ = some (.slice xs[i].a xs[i].m xs[i].c))) := by
              rintro W W' ⟨h, _⟩ f
              have ff := h.out.trans f
              exact ⟨Lib.hid ff, ff.cell q1 (fun e => by have : X = N := e; omega), ff.cell q2 (fun e => by have : X = N := e; omega)⟩
            have envS : Hid (∀ W, (Hid (Fr (fun j => j = N) W0 W) ∧ W.cell? ⟨X, 1, none⟩ = some (.int .i64 xs[i].n) ∧ W.cell? ⟨X, 2, none⟩ = some (.slice xs[i].a xs[i].m xs[i].c)) → Env W) := fun W h => HE.out.below (Fr.belowM B0.out h.1.out HwN.out R0.out.lt)
            have C34 : Hid (∀ W, (Hid (Fr (fun j => j = N) W0 W) ∧ W.cell? ⟨X, 1, none⟩ = some (.int .i64 xs[i].n) ∧ W.cell? ⟨X, 2, none⟩ = some (.slice xs[i].a xs[i].m xs[i].c)) → Hid (Rd W N l0 0) → Calls Tryd.prog 34 #[.pointer (some ⟨N, 0, none⟩)] W fun e w' => e = .returned (.int .u8 116) ∧ (Hid (Fr (fun j => j = N) W0 w') ∧ w'.cell? ⟨X, 1, none⟩ = some (.int .i64 xs[i].n) ∧ w'.cell? ⟨X, 2, none⟩ = some (.slice xs[i].a xs[i].m xs[i].c)) ∧ Hid (Rd w' N l0 0)) := fun W h hr =>
              (kind_any N l0 0 W hr.out).mono fun e w' ⟨e1, e2⟩ => ⟨by rw [HKd.out] at e1; exact e1, next.out W w' h (Fr.of_below e2), hr.out.below e2⟩
            have CV : Hid (∀ W, (Hid (Fr (fun j => j = N) W0 W) ∧ W.cell? ⟨X, 1, none⟩ = some (.int .i64 xs[i].n) ∧ W.cell? ⟨X, 2, none⟩ = some (.slice xs[i].a xs[i].m xs[i].c)) → Hid (Rd W N l0 0) → Calls Tryd.prog 32 #[.pointer (some ⟨N, 0, none⟩), .int .i64 (xs[i].m : Int)] W fun e w' => e = .returned (.string (str xs[i].b)) ∧ (Hid (Fr (fun j => j = N) W0 w') ∧ w'.cell? ⟨X, 1, none⟩ = some (.int .i64 xs[i].n) ∧ w'.cell? ⟨X, 2, none⟩ = some (.slice xs[i].a xs[i].m xs[i].c)) ∧ Hid (Rd w' N (layFrom xs xs.length (i + 1)) 0)) := fun W h hr =>
              (HV.out W (envS.out W h) hr.out).mono fun e w' ⟨e1, e2, e3⟩ => ⟨e1, next.out W w' h e3, e2⟩
            have ecv : ∀ W, Hid (Fr (fun j => j = N) W0 W) → (convert 22 9 (.slice xs[i].a xs[i].m xs[i].c)).run Tryd.prog W = .ok (.string (str xs[i].b)) W := fun W h => run_toStr T22 U9 (HX.out.below (Fr.belowM B0.out h.out HwN.out R0.out.lt))
            have S0 : (Hid (Fr (fun j => j = N) W0 W0.drew) ∧ W0.drew.cell? ⟨X, 1, none⟩ = some (.int .i64 xs[i].n) ∧ W0.drew.cell? ⟨X, 2, none⟩ = some (.slice xs[i].a xs[i].m xs[i].c)) := ⟨Lib.hid (Fr.refl _ _).drew, q1, q2⟩
            have RD : Hid (Rd W0.drew N l0 0) := R0.out.below (Below.refl _ _).drew
            have HlN : Hid (N < W0.heap.size) := R0.out.lt
            clear next envS HV HKd R0 R6 q1 q2 b01 hXs hwk hmk hul B6 F6 HE Hfit HT Hcells cells HLm HL HX hm63 
            go_region_held3 (fun W => (Hid (Fr (fun j => j = N) W0 W) ∧ W.cell? ⟨X, 1, none⟩ = some (.int .i64 xs[i].n) ∧ W.cell? ⟨X, 2, none⟩ = some (.slice xs[i].a xs[i].m xs[i].c))) (assumption)
              (first
                | (go_at_call 34; refine (C34.out _ ?_ ?_).mono ?_; assumption; assumption; rintro e w7 ⟨rfl, hk7, hr7⟩)
                | (go_at_call 32; refine (CV.out _ ?_ ?_).mono ?_; assumption; assumption; rintro e w8 ⟨rfl, hk8, hr8⟩))
            have B8 := Lib.hid (Fr.belowM B0.out hk8.1.out HwN.out HlN.out)
            have R8 := hr8
            have F8 := Lib.hid (F0.out.trans hk8.1.out)
            clear F0 B0 C34 CV S0 RD hk7 hr7 hk8 hr8 HlN ecv 
            go_wp2
            go_roundw
            case rel => exact ⟨i + 1, by omega, by go_num, R8.out, B8.out, F8.out⟩
            case measure => simp [intOf]; omega
          · have hmk : (PK.u64 xs[i].kd : Int) % 5 = 4 := by omega
            have hwk := wrap_u64_nat xs[i].kd
            have hul := PK.u64_lt xs[i].kd
            have hth : xs[i].th.k = 4 := h5
            have hlay : PK.layP xs[i].th = 98 :: Lib.itoa xs[i].b.length ++ [58] ++ xs[i].b := by
              unfold PK.layP
              rw [hth]
              rfl
            have hkind : ((PK.kindP (PK.layP xs[i].th ++ layFrom xs xs.length (i + 1)) 0 : Nat) : Int) = 98 := by
              rw [kindP_lay, hlay]
              rfl
            have hm63 : (xs[i].m : Int) ≤ 9223372036854775807 := by have := hfx.bytes.len; rw [hfx.len] at this; simp only [maxLen] at this; omega
            have hroom : (PK.layP xs[i].th ++ layFrom xs xs.length (i + 1)).length ≤ roomB := by
              have h1 := layFrom_le xs xs.length i
              rw [Hr.out, ← HL.out] at h1
              have := HLm.out
              omega
            have heq := PK.run_full 98 xs[i].b (layFrom xs xs.length (i + 1)) xs[i].m hfx.may.b (by have := hfx.len; omega)
            rw [← hlay] at heq
            have HV : Hid (∀ W, Env W → Rd W N (PK.layP xs[i].th ++ layFrom xs xs.length (i + 1)) 0 → Calls Tryd.prog 33 #[.pointer (some ⟨N, 0, none⟩), .int .i64 (xs[i].m : Int)] W fun e w' => (∃ a n c, e = .returned (.slice a n c) ∧ (convert 22 9 (.slice a n c)).run Tryd.prog w' = .ok (.string (str xs[i].b)) w') ∧ Rd w' N (layFrom xs xs.length (i + 1)) 0 ∧ Fr (fun i => i = N) W w') := fun W hE hr =>
              (bytes_any N (PK.layP xs[i].th ++ layFrom xs xs.length (i + 1)) 0 xs[i].m W hE hr hm63 hroom).mono fun e w' ⟨⟨a, n, c, e0, _, e1⟩, e2, e3⟩ => by rw [heq] at e1 e2; exact ⟨⟨a, n, c, e0, run_toStr T22 U9 e1.isB⟩, e2, e3⟩
            have HX := Lib.hid hfx.bytes
            have HKd := Lib.hid hkind
            clear hkind heq hlay hroom hfx hth h5 Hr
            generalize PK.layP xs[i].th ++ layFrom xs xs.length (i + 1) = l0 at *
            have HR' : Hid (∃ r, r = layFrom xs xs.length (i + 1)) := ⟨_, rfl⟩
            go_wp2_with fail
            have q1 : (wr.alloc (.cells #[.int .i64 xs[i].kd, .int .i64 xs[i].n, .slice xs[i].a xs[i].m xs[i].c] 61)).cell? ⟨wr.heap.size, 1, none⟩ = some (.int .i64 xs[i].n) := World.cell?_alloc_new _ _ _ 1
            have q2 : (wr.alloc (.cells #[.int .i64 xs[i].kd, .int .i64 xs[i].n, .slice xs[i].a xs[i].m xs[i].c] 61)).cell? ⟨wr.heap.size, 2, none⟩ = some (.slice xs[i].a xs[i].m xs[i].c) := World.cell?_alloc_new _ _ _ 2
            have b01 : Below wr.heap.size wr (wr.alloc (.cells #[.int .i64 xs[i].kd, .int .i64 xs[i].n, .slice xs[i].a xs[i].m xs[i].c] 61)) := (Below.refl _ _).alloc (Nat.le_refl _) _
            have hXs : wr.heap.size < (wr.alloc (.cells #[.int .i64 xs[i].kd, .int .i64 xs[i].n, .slice xs[i].a xs[i].m xs[i].c] 61)).heap.size := by simp
            have hNX : N < wr.heap.size := R6.out.lt
            generalize (wr.alloc (.cells #[.int .i64 xs[i].kd, .int .i64 xs[i].n, .slice xs[i].a xs[i].m xs[i].c] 61)) = W0 at *
            have R0 := Lib.hid (R6.out.below b01)
            have B0 := Lib.hid (B6.out.trans (b01.mono B6.out.size))
            have F0 := Lib.hid (F6.out.trans (Fr.of_below b01))
            generalize wr.heap.size = X at *
            have next : Hid (∀ W W' : World, (Hid (Fr (fun j => j = N) W0 W) ∧ W.cell? ⟨X, 1, none⟩ = some (.int .i64 xs[i].n) ∧ W.cell? ⟨X, 2, none⟩ = some (.slice xs[i].a xs[i].m xs[i].c)) → Fr (fun j => j = N) W W' → (Hid (Fr (fun j => j = N) W0 W') ∧ W'.cell? ⟨X, 1, none⟩ = some (.int .i64 xs[i].n) ∧ W'.cell? ⟨X, 2, none⟩ = some (.slice xs[i].a xs[i].m xs[i].c))) := by
              rintro W W' ⟨h, _⟩ f
              have ff := h.out.trans f
              exact ⟨Lib.hid ff, ff.cell q1 (fun e => by have : X = N := e; omega), ff.cell q2 (fun e => by have : X = N := e; omega)⟩
            have envS : Hid (∀ W, (Hid (Fr (fun j => j = N) W0 W) ∧ W.cell? ⟨X, 1, none⟩ = some (.int .i64 xs[i].n) ∧ W.cell? ⟨X, 2, none⟩ = some (.slice xs[i].a xs[i].m xs[i].c)) → Env W) := fun W h => HE.out.below (Fr.belowM B0.out h.1.out HwN.out R0.out.lt)
            have C34 : Hid (∀ W, (Hid (Fr (fun j => j = N) W0 W) ∧ W.cell? ⟨X, 1, none⟩ = some (.int .i64 xs[i].n) ∧ W.cell? ⟨X, 2, none⟩ = some (.slice xs[i].a xs[i].m xs[i].c)) → Hid (Rd W N l0 0) → Calls Tryd.prog 34 #[.pointer (some ⟨N, 0, none⟩)] W fun e w' => e = .returned (.int .u8 98) ∧ (Hid (Fr (fun j => j = N) W0 w') ∧ w'.cell? ⟨X, 1, none⟩ = some (.int .i64 xs[i].n) ∧ w'.cell? ⟨X, 2, none⟩ = some (.slice xs[i].a xs[i].m xs[i].c)) ∧ Hid (Rd w' N l0 0)) := fun W h hr =>
              (kind_any N l0 0 W hr.out).mono fun e w' ⟨e1, e2⟩ => ⟨by rw [HKd.out] at e1; exact e1, next.out W w' h (Fr.of_below e2), hr.out.below e2⟩
            have CV : Hid (∀ W, (Hid (Fr (fun j => j = N) W0 W) ∧ W.cell? ⟨X, 1, none⟩ = some (.int .i64 xs[i].n) ∧ W.cell? ⟨X, 2, none⟩ = some (.slice xs[i].a xs[i].m xs[i].c)) → Hid (Rd W N l0 0) → Calls Tryd.prog 33 #[.pointer (some ⟨N, 0, none⟩), .int .i64 (xs[i].m : Int)] W fun e w' => (∃ a n c, e = .returned (.slice a n c) ∧ (convert 22 9 (.slice a n c)).run Tryd.prog w' = .ok (.string (str xs[i].b)) w') ∧ (Hid (Fr (fun j => j = N) W0 w') ∧ w'.cell? ⟨X, 1, none⟩ = some (.int .i64 xs[i].n) ∧ w'.cell? ⟨X, 2, none⟩ = some (.slice xs[i].a xs[i].m xs[i].c)) ∧ Hid (Rd w' N (layFrom xs xs.length (i + 1)) 0)) := fun W h hr =>
              (HV.out W (envS.out W h) hr.out).mono fun e w' ⟨e1, e2, e3⟩ => ⟨e1, next.out W w' h e3, e2⟩
            have ecv : ∀ W, Hid (Fr (fun j => j = N) W0 W) → (convert 22 9 (.slice xs[i].a xs[i].m xs[i].c)).run Tryd.prog W = .ok (.string (str xs[i].b)) W := fun W h => run_toStr T22 U9 (HX.out.below (Fr.belowM B0.out h.out HwN.out R0.out.lt))
            have S0 : (Hid (Fr (fun j => j = N) W0 W0.drew) ∧ W0.drew.cell? ⟨X, 1, none⟩ = some (.int .i64 xs[i].n) ∧ W0.drew.cell? ⟨X, 2, none⟩ = some (.slice xs[i].a xs[i].m xs[i].c)) := ⟨Lib.hid (Fr.refl _ _).drew, q1, q2⟩
            have RD : Hid (Rd W0.drew N l0 0) := R0.out.below (Below.refl _ _).drew
            have HlN : Hid (N < W0.heap.size) := R0.out.lt
            clear next envS HV HKd R0 R6 q1 q2 b01 hXs hwk hmk hul B6 F6 HE Hfit HT Hcells cells HLm HL HX hm63 
            refine wp_region_noPanic ?_
            refine wp_region_held_drew (S := fun W => (Hid (Fr (fun j => j = N) W0 W) ∧ W.cell? ⟨X, 1, none⟩ = some (.int .i64 xs[i].n) ∧ W.cell? ⟨X, 2, none⟩ = some (.slice xs[i].a xs[i].m xs[i].c))) (by kernel_rfl) S0 (fun hHeld => ?_)
            refine wpAnyH_take (i := 0) (v := ?hv0) (List.getElem?_toArray.trans rfl) (by kernel_rfl) (by kernel_rfl) (by kernel_rfl) (fun _ _ _ h => h) (Or.inl ⟨by rfl, ?hy0⟩) (by assumption) ?hr0
            case hy0 => (intro wt hSw; (try dsimp only at hSw); go_simp; try (with_reducible rfl))
            try simp only [Act.put, List.setIfInBounds_toArray, List.set_cons_zero, List.set_cons_succ]
            refine wpAnyH_ready (rs := [1]) (by kernel_rfl) (by simp) ?_
            refine AllReadyH.cons (List.getElem?_toArray.trans rfl) (fun K hK => ?_) AllReadyH.nil
            go_simp
            go_at_call 34
            refine (C34.out _ ?_ ?_).mono ?_
            · assumption
            · assumption
            rintro e w7 ⟨rfl, hk7, hr7⟩
            try (go_wp2_with fail)
            refine hK.out _ _ ?_ (fun hHeld => ?_)
            · (try dsimp only)
              assumption
            clear hK K
            try simp only [Act.put, List.setIfInBounds_toArray, List.set_cons_zero, List.set_cons_succ]
            refine wpAnyH_take (i := 2) (v := ?hv2) (List.getElem?_toArray.trans rfl) (by kernel_rfl) (by kernel_rfl) (by kernel_rfl) (fun _ _ _ h => h) (Or.inl ⟨by rfl, ?hy2⟩) (by assumption) ?hr2
            case hy2 => (intro wt hSw; (try dsimp only at hSw); go_simp; try (with_reducible rfl))
            try simp only [Act.put, List.setIfInBounds_toArray, List.set_cons_zero, List.set_cons_succ]
            refine wpAnyH_take (i := 3) (v := ?hv3) (List.getElem?_toArray.trans rfl) (by kernel_rfl) (by kernel_rfl) (by kernel_rfl) (fun _ _ _ h => h) (Or.inl ⟨by rfl, ?hy3⟩) (by assumption) ?hr3
            case hy3 => (intro wt hSw; (try dsimp only at hSw); go_simp; try (with_reducible rfl))
            try simp only [Act.put, List.setIfInBounds_toArray, List.set_cons_zero, List.set_cons_succ]
            refine wpAnyH_take (i := 4) (v := ?hv4) (List.getElem?_toArray.trans rfl) (by kernel_rfl) (by kernel_rfl) (by kernel_rfl) (fun _ _ _ h => h) (Or.inl ⟨by rfl, ?hy4⟩) (by assumption) ?hr4
            case hy4 => (intro wt hSw; (try dsimp only at hSw); go_simp; try (with_reducible rfl))
            try simp only [Act.put, List.setIfInBounds_toArray, List.set_cons_zero, List.set_cons_succ]
            refine wpAnyH_take (i := 5) (v := ?hv5) (List.getElem?_toArray.trans rfl) (by kernel_rfl) (by kernel_rfl) (by kernel_rfl) (fun _ _ _ h => h) (Or.inl ⟨by rfl, ?hy5⟩) (by assumption) ?hr5
            case hy5 => (intro wt hSw; (try dsimp only at hSw); go_simp; try (with_reducible rfl))
            try simp only [Act.put, List.setIfInBounds_toArray, List.set_cons_zero, List.set_cons_succ]
            refine wpAnyH_take (i := 6) (v := ?hv6) (List.getElem?_toArray.trans rfl) (by kernel_rfl) (by kernel_rfl) (by kernel_rfl) (fun _ _ _ h => h) (Or.inl ⟨by rfl, ?hy6⟩) (by assumption) ?hr6
            case hy6 => (intro wt hSw; (try dsimp only at hSw); go_simp; try (with_reducible rfl))
            try simp only [Act.put, List.setIfInBounds_toArray, List.set_cons_zero, List.set_cons_succ]
            refine wpAnyH_take (i := 7) (v := ?hv7) (List.getElem?_toArray.trans rfl) (by kernel_rfl) (by kernel_rfl) (by kernel_rfl) (fun _ _ _ h => h) (Or.inl ⟨by rfl, ?hy7⟩) (by assumption) ?hr7
            case hy7 => (intro wt hSw; (try dsimp only at hSw); go_simp; try (with_reducible rfl))
            try simp only [Act.put, List.setIfInBounds_toArray, List.set_cons_zero, List.set_cons_succ]
            refine wpAnyH_take (i := 10) (v := ?hv10) (List.getElem?_toArray.trans rfl) (by kernel_rfl) (by kernel_rfl) (by kernel_rfl) (fun _ _ _ h => h) (Or.inl ⟨by rfl, ?hy10⟩) (by assumption) ?hr10
            case hy10 => (intro wt hSw; (try dsimp only at hSw); go_simp; try (with_reducible rfl))
            try simp only [Act.put, List.setIfInBounds_toArray, List.set_cons_zero, List.set_cons_succ]
            refine wpAnyH_take (i := 11) (v := ?hv11) (List.getElem?_toArray.trans rfl) (by kernel_rfl) (by kernel_rfl) (by kernel_rfl) (fun _ _ _ h => h) (Or.inl ⟨by rfl, ?hy11⟩) (by assumption) ?hr11
            case hy11 => (intro wt hSw; (try dsimp only at hSw); go_simp; try (with_reducible rfl))
            try simp only [Act.put, List.setIfInBounds_toArray, List.set_cons_zero, List.set_cons_succ]
            refine wpAnyH_take (i := 12) (v := ?hv12) (List.getElem?_toArray.trans rfl) (by kernel_rfl) (by kernel_rfl) (by kernel_rfl) (fun _ _ _ h => h) (Or.inl ⟨by rfl, ?hy12⟩) (by assumption) ?hr12
            case hy12 => (intro wt hSw; (try dsimp only at hSw); go_simp; try (with_reducible rfl))
            try simp only [Act.put, List.setIfInBounds_toArray, List.set_cons_zero, List.set_cons_succ]
            refine wpAnyH_ready (rs := [8]) (by kernel_rfl) (by simp) ?_
            refine AllReadyH.cons (List.getElem?_toArray.trans rfl) (fun K hK => ?_) AllReadyH.nil
            go_simp
            go_at_call 33
            refine (CV.out _ ?_ ?_).mono ?_
            · assumption
            · assumption
            rintro e w8 ⟨⟨ab, nb, cb, rfl, ecb⟩, hk8, hr8⟩
            try (go_wp2_with fail)
            refine hK.out _ _ ?_ (fun hHeld => ?_)
            · (try dsimp only)
              assumption
            clear hK K
            try simp only [Act.put, List.setIfInBounds_toArray, List.set_cons_zero, List.set_cons_succ]
            refine wpAnyH_take (i := 15) (v := ?hv15) (List.getElem?_toArray.trans rfl) (by kernel_rfl) (by kernel_rfl) (by kernel_rfl) (fun _ _ _ h => h) (Or.inl ⟨by rfl, ?hy15⟩) (by assumption) ?hr15
            case hy15 => (intro wt hSw; (try dsimp only at hSw); go_simp; try (with_reducible rfl))
            try simp only [Act.put, List.setIfInBounds_toArray, List.set_cons_zero, List.set_cons_succ]
            refine wpAnyH_ready (rs := [9]) (by kernel_rfl) (by simp) ?_
            refine AllReadyH.cons (List.getElem?_toArray.trans rfl) (fun K hK => ?_) AllReadyH.nil
            go_simp
            refine hK.out _ _ ?_ (fun hHeld => ?_)
            · (try dsimp only)
              assumption
            clear hK K
            try simp only [Act.put, List.setIfInBounds_toArray, List.set_cons_zero, List.set_cons_succ]
            refine wpAnyH_take (i := 13) (v := ?hv13) (List.getElem?_toArray.trans rfl) (by kernel_rfl) (by kernel_rfl) (by kernel_rfl) (fun _ _ _ h => h) (Or.inl ⟨by rfl, ?hy13⟩) (by assumption) ?hr13
            case hy13 => (intro wt hSw; (try dsimp only at hSw); go_simp; try (with_reducible rfl))
            try simp only [Act.put, List.setIfInBounds_toArray, List.set_cons_zero, List.set_cons_succ]
            refine wpAnyH_take (i := 14) (v := ?hv14) (List.getElem?_toArray.trans rfl) (by kernel_rfl) (by kernel_rfl) (by kernel_rfl) (fun _ _ _ h => h) (Or.inl ⟨by rfl, ?hy14⟩) (by assumption) ?hr14
            case hy14 => (intro wt hSw; (try dsimp only at hSw); go_simp; try (with_reducible rfl))
            try simp only [Act.put, List.setIfInBounds_toArray, List.set_cons_zero, List.set_cons_succ]
            refine wpAnyH_take (i := 16) (v := ?hv16) (List.getElem?_toArray.trans rfl) (by kernel_rfl) (by kernel_rfl) (by kernel_rfl) (fun _ _ _ h => h) (Or.inl ⟨by rfl, ?hy16⟩) (by assumption) ?hr16
            case hy16 => (intro wt hSw; (try dsimp only at hSw); go_simp; try (with_reducible rfl))
            try simp only [Act.put, List.setIfInBounds_toArray, List.set_cons_zero, List.set_cons_succ]
            refine wpAnyH_done (by kernel_rfl) ?_ _
            refine NoPanic.normal ?_
            have B8 := Lib.hid (Fr.belowM B0.out hk8.1.out HwN.out HlN.out)
            have R8 := hr8
            have F8 := Lib.hid (F0.out.trans hk8.1.out)
            clear F0 B0 C34 CV S0 RD hk7 hr7 hk8 hr8 HlN ecv 
            go_wp2
            go_roundw
            case rel => exact ⟨i + 1, by omega, by go_num, R8.out, B8.out, F8.out⟩
            case measure => simp [intOf]; omega
        · obtain rfl : i = xs.length := by omega
          rw [layFrom_end] at R6
          have HDn := Lib.hid (done_any N [] 0 wr R6.out)
          replace HDn : Hid (Calls Tryd.prog 13 #[.pointer (some ⟨N, 0, none⟩)] wr fun e w' => e = .returned .nilIface ∧ wr = w') := HDn
          have HLf := Lib.hid (left_any N [] 0 wr R6.out)
          have O6 : Hid (IsB wr (.slice a3 L.length c3) L) := by
            obtain ⟨_, a, c, hh, _⟩ := R4.out
            exact Rd.bytes hh O4.out F6.out
          have HS := Lib.hid (sure_any wr (HE.out.below B6.out))
          clear R4 B4 F6 R6 O4
          by_cases hx0 : xs.length = 0
          · have hxn := List.eq_nil_of_length_eq_zero hx0
            subst hxn
            clear hx0
            go_wp2_with fail
            refine HDn.out.mono ?_
            rintro e w5 ⟨rfl, rfl⟩
            go_wp2_with fail
            refine HLf.out.mono ?_
            rintro e w5 ⟨rfl, rfl⟩
            clear HDn HLf
            go_wp2_with fail
            refine HS.out.mono ?_
            rintro e w6 ⟨rfl, b6⟩
            have B7 := Lib.hid (B6.out.trans (b6.mono B6.out.size))
            clear HS b6
            go_wp2
            go_ret
            exact ⟨rfl, B7.out⟩
          · have hpos : 0 < xs.length := by omega
            obtain ⟨b, o, rfl, e0, _, _⟩ := cells.out 0 hpos wr B6.out
            rw [Nat.zero_mul, Nat.add_zero] at e0
            have hwk := wrap_u64_nat xs[0].kd
            have hul := PK.u64_lt xs[0].kd
            by_cases hk1 : PK.u64 xs[0].kd % 5 = 1
            · have hmk : (PK.u64 xs[0].kd : Int) % 5 = 1 := by omega
              clear hk1
              generalize PK.u64 xs[0].kd = u at *
              go_wp2_with fail
              refine HDn.out.mono ?_
              rintro e w5 ⟨rfl, rfl⟩
              go_wp2_with fail
              refine HLf.out.mono ?_
              rintro e w5 ⟨rfl, rfl⟩
              clear HDn HLf
              go_wp2_with fail
              refine HS.out.mono ?_
              rintro e w6 ⟨rfl, b6⟩
              have B7 := Lib.hid (B6.out.trans (b6.mono B6.out.size))
              clear HS b6
              go_wp2
              go_ret
              exact ⟨rfl, B7.out⟩
            · obtain ⟨q, hmk⟩ : ∃ q : Int, (PK.u64 xs[0].kd : Int) % 5 = q := ⟨_, rfl⟩
              have hq1 : (q != 1) = true := by rw [bne_iff_ne]; omega
              have hq0 : 0 ≤ q := by omega
              have hq4 : q ≤ 4 := by omega
              have hint : PK.intP L 0 = (0, L, 3) := by
                have e : L = PK.layP xs[0].th ++ layFrom xs xs.length 1 := by rw [HL.out, ← layFrom_zero, layFrom_succ xs xs.length 0 (by omega) hpos]
                obtain ⟨c, t, e2, _, c1, _⟩ := PK.lay_head xs[0].th
                rw [e, e2, List.cons_append]
                exact PK.int_other c _ (fun q => hk1 (c1.1 q))
              have HRd2 := Lib.hid (read_any a3 c3 L wr (HE.out.below B6.out) O6.out)
              have hwx : w.heap.size ≤ wr.heap.size := B6.out.size
              obtain ⟨N2, hN2⟩ : ∃ N2, wr.heap.size = N2 := ⟨_, rfl⟩
              have HI2 : Hid (∀ W, Env W → Rd W N2 L 0 → Calls Tryd.prog 10 #[.pointer (some ⟨N2, 0, none⟩)] W fun v w' => v = .returned (.int .i64 0) ∧ Rd w' N2 L 3 ∧ Fr (fun i => i = N2) W w') := fun W hE hr => by
                have := int_any N2 L 0 W hE hr
                rw [hint] at this
                exact this
              have HD2 : Hid (∀ W, Rd W N2 L 3 → Calls Tryd.prog 13 #[.pointer (some ⟨N2, 0, none⟩)] W fun e w' => e = .returned (.iface 75 (.int .i64 3)) ∧ W = w') := fun W hr => done_any N2 L 3 W hr
              have HNm : Hid (∀ W, Env W → Calls Tryd.prog 12 #[.iface 75 (.int .i64 3)] W fun e w' => e = .returned (.int .i64 3) ∧ Below W.heap.size W w') := fun W hE => num_any 3 W hE
              have HN2 := Lib.hid hN2
              have HwN2 : Hid (w.heap.size ≤ N2) := by rw [← hN2]; exact hwx
              clear hk1 hint hN2 hwx
              generalize PK.u64 xs[0].kd = u at *
              go_wp2_with fail
              refine HDn.out.mono ?_
              rintro e w5 ⟨rfl, rfl⟩
              go_wp2_with fail
              refine HLf.out.mono ?_
              rintro e w5 ⟨rfl, rfl⟩
              clear HDn HLf
              go_wp2_with fail
              refine HRd2.out.mono ?_
              rintro e w6 ⟨rfl, r6, b6⟩
              have B7 := Lib.hid (B6.out.trans (b6.mono B6.out.size))
              rw [HN2.out] at r6 ⊢
              have HI := Lib.hid (HI2.out w6 (HE.out.below B7.out) r6)
              have R7 := Lib.hid r6.lt
              clear HRd2 r6 b6 B6 HI2 e0 hwk hul hmk hq1 hq0 hq4
              go_wp2_with fail
              refine HI.out.mono ?_
              rintro e w7 ⟨rfl, r7, f7⟩
              have B8 := Lib.hid (Fr.belowM B7.out f7 HwN2.out R7.out)
              have R8 := Lib.hid r7
              have HD := Lib.hid (HD2.out w7 r7)
              have HM := Lib.hid (HNm.out w7 (HE.out.below B8.out))
              clear HI r7 f7 B7 R7 HD2 HNm
              go_wp2_with fail
              refine HD.out.mono ?_
              rintro e w8 ⟨rfl, rfl⟩
              go_wp2_with fail
              refine HM.out.mono ?_
              rintro e w8 ⟨rfl, b8⟩
              have B9 := Lib.hid (B8.out.trans (b8.mono B8.out.size))
              have HLe := Lib.hid (left_any N2 L 3 w8 (R8.out.below b8))
              clear HD HM b8 R8 B8
              go_wp2_with fail
              refine HLe.out.mono ?_
              rintro e w9 ⟨rfl, rfl⟩
              have HS := Lib.hid (sure_any w8 (HE.out.below B9.out))
              clear HLe
              go_wp2_with fail
              refine HS.out.mono ?_
              rintro e w10 ⟨rfl, b10⟩
              have B10 := Lib.hid (B9.out.trans (b10.mono B9.out.size))
              clear HS b10
              go_wp2
              go_ret
              exact ⟨rfl, B10.out⟩

set_option maxRecDepth 100000 in
set_option maxHeartbeats 8000000 in
theorem back_long (v : Value) (xs : List RTh) (w : World) (hE : Env w) (hv : ThS w v xs) (hT : wt xs + 1000 ≤ roomB) (hs : 200 < xs.length) :
    Calls Tryd.prog 7 #[v] w fun e w' => e = .returned (.bool true) ∧ Below w.heap.size w w' := by
  obtain ⟨a0, cap, rfl, hcap, hcm, hcells, hfit⟩ := hv
  have HN := Lib.hid (new_any w hE)
  have HE := Lib.hid hE
  have Hfit := Lib.hid hfit
  have HT := Lib.hid hT
  have Hcells := Lib.hid hcells
  have hlen : xs.length ≤ 9223372036854775807 := by simp only [maxLen] at hcm; omega
  have HLay : Hid (∀ (k : Nat) (hk : k < xs.length) (wr : World), Wr wr w.heap.size w.heap.size (layTo xs k) → Below w.heap.size w wr → Calls Tryd.prog 30 #[.pointer (some ⟨w.heap.size, 0, none⟩), .agg #[.int .i64 xs[k].kd, .int .i64 xs[k].n, .slice xs[k].a xs[k].m xs[k].c]] wr fun e w' =>
      e = .returned (.pointer (some ⟨w.heap.size, 0, none⟩)) ∧ Wr w' w.heap.size w.heap.size (layTo xs (k + 1)) ∧ Below w.heap.size w w') := by
    intro k hk wr h b
    have hx := Hfit.out xs[k] (List.getElem_mem hk)
    have hle := layTo_le xs w Hfit.out k hk
    refine (lay_of _ _ (layTo xs k) xs[k].kd xs[k].n xs[k].a xs[k].m xs[k].c xs[k].b wr h (hx.below b).bytes (fun hb j hj => hx.bytes.own_lt hb j hj) hx.n0 hx.n1 (by have := HT.out; omega) (HE.out.below b)).mono ?_
    rintro e w' ⟨rfl, h1, b1⟩
    rw [layTo_succ xs k hk]
    exact ⟨rfl, h1, b.trans b1⟩
  have cells : Hid (∀ k (hk : k < xs.length) (wr : World), Below w.heap.size w wr → ∃ b o, a0 = some ⟨b, o, none⟩ ∧ wr.cell? ⟨b, o + k * 3, none⟩ = some (.int .i64 xs[k].kd) ∧ wr.cell? ⟨b, o + k * 3 + 1, none⟩ = some (.int .i64 xs[k].n) ∧ wr.cell? ⟨b, o + k * 3 + 2, none⟩ = some (.slice xs[k].a xs[k].m xs[k].c)) := by
    intro k hk wr B
    rcases Hcells.out with h | ⟨b, o, h1, h2⟩
    · subst h; simp at hk
    · obtain ⟨c0, c1, c2⟩ := h2 k xs[k] (List.getElem?_eq_getElem hk)
      exact ⟨b, o, h1, (B.cell (p := ⟨b, o + k * 3, none⟩) (World.block_lt_of_cell? w _ c0)).trans c0, (B.cell (p := ⟨b, o + k * 3 + 1, none⟩) (World.block_lt_of_cell? w _ c1)).trans c1, (B.cell (p := ⟨b, o + k * 3 + 2, none⟩) (World.block_lt_of_cell? w _ c2)).trans c2⟩
  clear hE hfit hT hcells hcap hcm
  go_enter Tryd.func7, Tryd.ntmps7
  go_wp2_with fail
  refine HN.out.mono ?_
  rintro e w1 ⟨rfl, h1, b1⟩
  have W1 := Lib.hid h1
  have B1 := Lib.hid b1
  clear HN h1 b1
  go_wp2_with fail
  go_loopw [3, 4] (fun v i wr => ∃ k : Nat, k ≤ 200 ∧ i = .int .i64 k ∧ v = .pointer (some ⟨w.heap.size, 0, none⟩) ∧ Hid (Wr wr w.heap.size w.heap.size (layTo xs k)) ∧ Hid (Below w.heap.size w wr)) (fun _ i _ => 200 - (intOf i).toNat)
  case atStart => exact ⟨0, Nat.zero_le _, rfl, rfl, W1.out, B1.out⟩
  case round =>
    obtain ⟨k, hk, rfl, rfl, W2, B2⟩ := hrel
    by_cases hlt : k < 200
    · have hkx : k < xs.length := by omega
      have hkl : (k : Int) < (xs.length : Int) := by omega
      obtain ⟨b, o, rfl, e0, e1, e2⟩ := cells.out k hkx wr B2.out
      have HL := Lib.hid (HLay.out k hkx wr W2.out B2.out)
      clear HLay W1 B1 W2 B2
      go_wp2_with fail
      refine HL.out.mono ?_
      rintro e w2 ⟨rfl, h2, b2⟩
      have W2 := Lib.hid h2
      have B2 := Lib.hid b2
      clear h2 b2 HL e0 e1 e2
      go_wp2
      go_roundw
      case rel => exact ⟨k + 1, by omega, by go_num, rfl, W2.out, B2.out⟩
      case measure => simp [intOf]; omega
    · obtain rfl : k = 200 := by omega
      have HDone := Lib.hid (wdone_any w.heap.size w.heap.size (layTo xs 200) wr W2.out (by have := layTo_all xs w Hfit.out 200; have := HT.out; omega))
      clear HLay W1 B1 W2
      obtain ⟨L, hL⟩ : ∃ L, L = layTo xs 200 := ⟨_, rfl⟩
      rw [← hL] at HDone
      have HL := Lib.hid hL
      have HLm : Hid (L.length + 1000 ≤ roomB) := by rw [hL]; exact Lib.hid (by have := layTo_all xs w Hfit.out 200; have := HT.out; omega)
      clear hL
      go_wp2_with fail
      refine HDone.out.mono ?_
      rintro e w3 ⟨⟨a3, c3, rfl, o3, _⟩, b3⟩
      have O3 := Lib.hid o3.isB
      have B3 : Hid (Below w.heap.size w w3) := B2.out.trans (b3.mono B2.out.size)
      have HRd := Lib.hid (read_any a3 c3 L w3 (HE.out.below B3.out) o3.isB)
      clear o3 b3 B2 HDone
      go_wp2_with fail
      refine HRd.out.mono ?_
      rintro e w4 ⟨rfl, r4, b4⟩
      have O4 := Lib.hid (O3.out.below b4)
      have B4 : Hid (Below w.heap.size w w4) := B3.out.trans (b4.mono B3.out.size)
      obtain ⟨N, hN⟩ : ∃ N, w3.heap.size = N := ⟨_, rfl⟩
      have HwN : Hid (w.heap.size ≤ N) := by rw [← hN]; exact Lib.hid B3.out.size
      rw [hN] at r4 ⊢
      have R4 : Hid (Rd w4 N (layFrom xs 200 0) 0) := by rw [layFrom_zero, ← HL.out]; exact r4
      clear r4 b4 HRd hN B3 O3
      go_wp2_with fail
      go_loopw [7] (fun v wr => ∃ i : Nat, i ≤ 200 ∧ v = .int .i64 i ∧ Hid (Rd wr N (layFrom xs 200 i) 0) ∧ Hid (Below w.heap.size w wr) ∧ Hid (Fr (fun j => j = N) w4 wr)) (fun v _ => 200 - (intOf v).toNat)
      case atStart => exact ⟨0, Nat.zero_le _, rfl, R4.out, B4.out, Fr.refl _ _⟩
      case round =>
        obtain ⟨i, hi, rfl, R6, B6, F6⟩ := hrel
        by_cases hlt2 : i < 200
        · have hix : i < xs.length := by omega
          have hkl : (i : Int) < (xs.length : Int) := by omega
          obtain ⟨b, o, rfl, e0, e1, e2⟩ := cells.out i hix wr B6.out
          have hfx := Hfit.out xs[i] (List.getElem_mem hix)
          have h5 : PK.u64 xs[i].kd % 5 = 0 ∨ PK.u64 xs[i].kd % 5 = 1 ∨ PK.u64 xs[i].kd % 5 = 2 ∨ PK.u64 xs[i].kd % 5 = 3 ∨ PK.u64 xs[i].kd % 5 = 4 := by omega
          have hr := layFrom_succ xs 200 i hlt2 hix
          have Hr := Lib.hid hr
          rw [hr] at R6
          clear R4 B4 hr
          rcases h5 with h5 | h5 | h5 | h5 | h5
          · have hmk : (PK.u64 xs[i].kd : Int) % 5 = 0 := by omega
            have hwk := wrap_u64_nat xs[i].kd
            have hul := PK.u64_lt xs[i].kd
            have hth : xs[i].th.k = 0 := h5
            have hlay : PK.layP xs[i].th = 110 :: Lib.decDigits (PK.u64 xs[i].n) ++ [59] := by
              unfold PK.layP
              rw [hth]
              rfl
            have hkind : ((PK.kindP (PK.layP xs[i].th ++ layFrom xs 200 (i + 1)) 0 : Nat) : Int) = 110 := by
              rw [kindP_lay, hlay]
              rfl
            have hm63 : (xs[i].m : Int) ≤ 9223372036854775807 := by have := hfx.bytes.len; rw [hfx.len] at this; simp only [maxLen] at this; omega
            have hroom : (PK.layP xs[i].th ++ layFrom xs 200 (i + 1)).length ≤ roomB := by
              have h1 := layFrom_le xs 200 i
              rw [Hr.out, ← HL.out] at h1
              have := HLm.out
              omega
            have heq := PK.uint_full (PK.u64 xs[i].n) 18446744073709551615 (PK.u64_lt _) (by have := PK.u64_lt xs[i].n; omega) (layFrom xs 200 (i + 1))
            rw [← hlay] at heq
            have HV : Hid (∀ W, Env W → Rd W N (PK.layP xs[i].th ++ layFrom xs 200 (i + 1)) 0 → Calls Tryd.prog 22 #[.pointer (some ⟨N, 0, none⟩), .int .u64 18446744073709551615] W fun e w' => e = .returned (.int .u64 ((PK.u64 xs[i].n : Nat) : Int)) ∧ Rd w' N (layFrom xs 200 (i + 1)) 0 ∧ Fr (fun i => i = N) W w') := fun W hE hr =>
              (uint_any N 18446744073709551615 (PK.layP xs[i].th ++ layFrom xs 200 (i + 1)) 0 W hE hr).mono fun e w' ⟨e1, e2, e3⟩ => by rw [heq] at e1 e2; exact ⟨e1, e2, e3⟩
            have HKd := Lib.hid hkind
            clear hkind heq hlay hroom hfx hth h5 Hr
            generalize PK.layP xs[i].th ++ layFrom xs 200 (i + 1) = l0 at *
            have HR' : Hid (∃ r, r = layFrom xs 200 (i + 1)) := ⟨_, rfl⟩
            go_wp2_with fail
            have q1 : (wr.alloc (.cells #[.int .i64 xs[i].kd, .int .i64 xs[i].n, .slice xs[i].a xs[i].m xs[i].c] 61)).cell? ⟨wr.heap.size, 1, none⟩ = some (.int .i64 xs[i].n) := World.cell?_alloc_new _ _ _ 1
            have q2 : (wr.alloc (.cells #[.int .i64 xs[i].kd, .int .i64 xs[i].n, .slice xs[i].a xs[i].m xs[i].c] 61)).cell? ⟨wr.heap.size, 2, none⟩ = some (.slice xs[i].a xs[i].m xs[i].c) := World.cell?_alloc_new _ _ _ 2
            have b01 : Below wr.heap.size wr (wr.alloc (.cells #[.int .i64 xs[i].kd, .int .i64 xs[i].n, .slice xs[i].a xs[i].m xs[i].c] 61)) := (Below.refl _ _).alloc (Nat.le_refl _) _
            have hXs : wr.heap.size < (wr.alloc (.cells #[.int .i64 xs[i].kd, .int .i64 xs[i].n, .slice xs[i].a xs[i].m xs[i].c] 61)).heap.size := by simp
            have hNX : N < wr.heap.size := R6.out.lt
            generalize (wr.alloc (.cells #[.int .i64 xs[i].kd, .int .i64 xs[i].n, .slice xs[i].a xs[i].m xs[i].c] 61)) = W0 at *
            have R0 := Lib.hid (R6.out.below b01)
            have B0 := Lib.hid (B6.out.trans (b01.mono B6.out.size))
            have F0 := Lib.hid (F6.out.trans (Fr.of_below b01))
            generalize wr.heap.size = X at *
            have next : Hid (∀ W W' : World, (Hid (Fr (fun j => j = N) W0 W) ∧ W.cell? ⟨X, 1, none⟩ = some (.int .i64 xs[i].n) ∧ W.cell? ⟨X, 2, none⟩ = some (.slice xs[i].a xs[i].m xs[i].c)) → Fr (fun j => j = N) W W' → (Hid (Fr (fun j => j = N) W0 W') ∧ W'.cell? ⟨X, 1, none⟩ = some (.int .i64 xs[i].n) ∧ W'.cell? ⟨X, 2, none⟩ = some (.slice xs[i].a xs[i].m xs[i].c))) := by
              rintro W W' ⟨h, _⟩ f
              have ff := h.out.trans f
              exact ⟨Lib.hid ff, ff.cell q1 (fun e => by have : X = N := e; omega), ff.cell q2 (fun e => by have : X = N := e; omega)⟩
            have envS : Hid (∀ W, (Hid (Fr (fun j => j = N) W0 W) ∧ W.cell? ⟨X, 1, none⟩ = some (.int .i64 xs[i].n) ∧ W.cell? ⟨X, 2, none⟩ = some (.slice xs[i].a xs[i].m xs[i].c)) → Env W) := fun W h => HE.out.below (Fr.belowM B0.out h.1.out HwN.out R0.out.lt)
            have C34 : Hid (∀ W, (Hid (Fr (fun j => j = N) W0 W) ∧ W.cell? ⟨X, 1, none⟩ = some (.int .i64 xs[i].n) ∧ W.cell? ⟨X, 2, none⟩ = some (.slice xs[i].a xs[i].m xs[i].c)) → Hid (Rd W N l0 0) → Calls Tryd.prog 34 #[.pointer (some ⟨N, 0, none⟩)] W fun e w' => e = .returned (.int .u8 110) ∧ (Hid (Fr (fun j => j = N) W0 w') ∧ w'.cell? ⟨X, 1, none⟩ = some (.int .i64 xs[i].n) ∧ w'.cell? ⟨X, 2, none⟩ = some (.slice xs[i].a xs[i].m xs[i].c)) ∧ Hid (Rd w' N l0 0)) := fun W h hr =>
              (kind_any N l0 0 W hr.out).mono fun e w' ⟨e1, e2⟩ => ⟨by rw [HKd.out] at e1; exact e1, next.out W w' h (Fr.of_below e2), hr.out.below e2⟩
            have CV : Hid (∀ W, (Hid (Fr (fun j => j = N) W0 W) ∧ W.cell? ⟨X, 1, none⟩ = some (.int .i64 xs[i].n) ∧ W.cell? ⟨X, 2, none⟩ = some (.slice xs[i].a xs[i].m xs[i].c)) → Hid (Rd W N l0 0) → Calls Tryd.prog 22 #[.pointer (some ⟨N, 0, none⟩), .int .u64 18446744073709551615] W fun e w' => e = .returned (.int .u64 ((PK.u64 xs[i].n : Nat) : Int)) ∧ (Hid (Fr (fun j => j = N) W0 w') ∧ w'.cell? ⟨X, 1, none⟩ = some (.int .i64 xs[i].n) ∧ w'.cell? ⟨X, 2, none⟩ = some (.slice xs[i].a xs[i].m xs[i].c)) ∧ Hid (Rd w' N (layFrom xs 200 (i + 1)) 0)) := fun W h hr =>
              (HV.out W (envS.out W h) hr.out).mono fun e w' ⟨e1, e2, e3⟩ => ⟨e1, next.out W w' h e3, e2⟩
            have hwn := wrap_u64_nat xs[i].n
            have S0 : (Hid (Fr (fun j => j = N) W0 W0.drew) ∧ W0.drew.cell? ⟨X, 1, none⟩ = some (.int .i64 xs[i].n) ∧ W0.drew.cell? ⟨X, 2, none⟩ = some (.slice xs[i].a xs[i].m xs[i].c)) := ⟨Lib.hid (Fr.refl _ _).drew, q1, q2⟩
            have RD : Hid (Rd W0.drew N l0 0) := R0.out.below (Below.refl _ _).drew
            have HlN : Hid (N < W0.heap.size) := R0.out.lt
            clear next envS HV HKd R0 R6 q1 q2 b01 hXs hwk hmk hul B6 F6 HE Hfit HT Hcells cells HLm HL hm63 
            go_region_held3 (fun W => (Hid (Fr (fun j => j = N) W0 W) ∧ W.cell? ⟨X, 1, none⟩ = some (.int .i64 xs[i].n) ∧ W.cell? ⟨X, 2, none⟩ = some (.slice xs[i].a xs[i].m xs[i].c))) (assumption)
              (first
                | (go_at_call 34; refine (C34.out _ ?_ ?_).mono ?_; assumption; assumption; rintro e w7 ⟨rfl, hk7, hr7⟩)
                | (go_at_call 22; refine (CV.out _ ?_ ?_).mono ?_; assumption; assumption; rintro e w8 ⟨rfl, hk8, hr8⟩))
            have B8 := Lib.hid (Fr.belowM B0.out hk8.1.out HwN.out HlN.out)
            have R8 := hr8
            have F8 := Lib.hid (F0.out.trans hk8.1.out)
            clear F0 B0 C34 CV S0 RD hk7 hr7 hk8 hr8 HlN 
            go_wp2
            go_roundw
            case rel => exact ⟨i + 1, by omega, by go_num, R8.out, B8.out, F8.out⟩
            case measure => simp [intOf]; omega
          · have hmk : (PK.u64 xs[i].kd : Int) % 5 = 1 := by omega
            have hwk := wrap_u64_nat xs[i].kd
            have hul := PK.u64_lt xs[i].kd
            have hth : xs[i].th.k = 1 := h5
            have hlay : PK.layP xs[i].th = 105 :: Lib.itoa xs[i].n ++ [59] := by
              unfold PK.layP
              rw [hth]
              rfl
            have hkind : ((PK.kindP (PK.layP xs[i].th ++ layFrom xs 200 (i + 1)) 0 : Nat) : Int) = 105 := by
              rw [kindP_lay, hlay]
              rfl
            have hm63 : (xs[i].m : Int) ≤ 9223372036854775807 := by have := hfx.bytes.len; rw [hfx.len] at this; simp only [maxLen] at this; omega
            have hroom : (PK.layP xs[i].th ++ layFrom xs 200 (i + 1)).length ≤ roomB := by
              have h1 := layFrom_le xs 200 i
              rw [Hr.out, ← HL.out] at h1
              have := HLm.out
              omega
            have heq := PK.int_full xs[i].n hfx.n0 hfx.n1 (layFrom xs 200 (i + 1))
            rw [← hlay] at heq
            have HV : Hid (∀ W, Env W → Rd W N (PK.layP xs[i].th ++ layFrom xs 200 (i + 1)) 0 → Calls Tryd.prog 10 #[.pointer (some ⟨N, 0, none⟩)] W fun e w' => e = .returned (.int .i64 xs[i].n) ∧ Rd w' N (layFrom xs 200 (i + 1)) 0 ∧ Fr (fun i => i = N) W w') := fun W hE hr =>
              (int_any N (PK.layP xs[i].th ++ layFrom xs 200 (i + 1)) 0 W hE hr).mono fun e w' ⟨e1, e2, e3⟩ => by rw [heq] at e1 e2; exact ⟨e1, e2, e3⟩
            have HKd := Lib.hid hkind
            clear hkind heq hlay hroom hfx hth h5 Hr
            generalize PK.layP xs[i].th ++ layFrom xs 200 (i + 1) = l0 at *
            have HR' : Hid (∃ r, r = layFrom xs 200 (i + 1)) := ⟨_, rfl⟩
            go_wp2_with fail
            have q1 : (wr.alloc (.cells #[.int .i64 xs[i].kd, .int .i64 xs[i].n, .slice xs[i].a xs[i].m xs[i].c] 61)).cell? ⟨wr.heap.size, 1, none⟩ = some (.int .i64 xs[i].n) := World.cell?_alloc_new _ _ _ 1
            have q2 : (wr.alloc (.cells #[.int .i64 xs[i].kd, .int .i64 xs[i].n, .slice xs[i].a xs[i].m xs[i].c] 61)).cell? ⟨wr.heap.size, 2, none⟩ = some (.slice xs[i].a xs[i].m xs[i].c) := World.cell?_alloc_new _ _ _ 2
            have b01 : Below wr.heap.size wr (wr.alloc (.cells #[.int .i64 xs[i].kd, .int .i64 xs[i].n, .slice xs[i].a xs[i].m xs[i].c] 61)) := (Below.refl _ _).alloc (Nat.le_refl _) _
            have hXs : wr.heap.size < (wr.alloc (.cells #[.int .i64 xs[i].kd, .int .i64 xs[i].n, .slice xs[i].a xs[i].m xs[i].c] 61)).heap.size := by simp
            have hNX : N < wr.heap.size := R6.out.lt
            generalize (wr.alloc (.cells #[.int .i64 xs[i].kd, .int .i64 xs[i].n, .slice xs[i].a xs[i].m xs[i].c] 61)) = W0 at *
            have R0 := Lib.hid (R6.out.below b01)
            have B0 := Lib.hid (B6.out.trans (b01.mono B6.out.size))
            have F0 := Lib.hid (F6.out.trans (Fr.of_below b01))
            generalize wr.heap.size = X at *
            have next : Hid (∀ W W' : World, (Hid (Fr (fun j => j = N) W0 W) ∧ W.cell? ⟨X, 1, none⟩ = some (.int .i64 xs[i].n) ∧ W.cell? ⟨X, 2, none⟩ = some (.slice xs[i].a xs[i].m xs[i].c)) → Fr (fun j => j = N) W W' → (Hid (Fr (fun j => j = N) W0 W') ∧ W'.cell? ⟨X, 1, none⟩ = some (.int .i64 xs[i].n) ∧ W'.cell? ⟨X, 2, none⟩ = some (.slice xs[i].a xs[i].m xs[i].c))) := by
              rintro W W' ⟨h, _⟩ f
              have ff := h.out.trans f
              exact ⟨Lib.hid ff, ff.cell q1 (fun e => by have : X = N := e; omega), ff.cell q2 (fun e => by have : X = N := e; omega)⟩
            have envS : Hid (∀ W, (Hid (Fr (fun j => j = N) W0 W) ∧ W.cell? ⟨X, 1, none⟩ = some (.int .i64 xs[i].n) ∧ W.cell? ⟨X, 2, none⟩ = some (.slice xs[i].a xs[i].m xs[i].c)) → Env W) := fun W h => HE.out.below (Fr.belowM B0.out h.1.out HwN.out R0.out.lt)
            have C34 : Hid (∀ W, (Hid (Fr (fun j => j = N) W0 W) ∧ W.cell? ⟨X, 1, none⟩ = some (.int .i64 xs[i].n) ∧ W.cell? ⟨X, 2, none⟩ = some (.slice xs[i].a xs[i].m xs[i].c)) → Hid (Rd W N l0 0) → Calls Tryd.prog 34 #[.pointer (some ⟨N, 0, none⟩)] W fun e w' => e = .returned (.int .u8 105) ∧ (Hid (Fr (fun j => j = N) W0 w') ∧ w'.cell? ⟨X, 1, none⟩ = some (.int .i64 xs[i].n) ∧ w'.cell? ⟨X, 2, none⟩ = some (.slice xs[i].a xs[i].m xs[i].c)) ∧ Hid (Rd w' N l0 0)) := fun W h hr =>
              (kind_any N l0 0 W hr.out).mono fun e w' ⟨e1, e2⟩ => ⟨by rw [HKd.out] at e1; exact e1, next.out W w' h (Fr.of_below e2), hr.out.below e2⟩
            have CV : Hid (∀ W, (Hid (Fr (fun j => j = N) W0 W) ∧ W.cell? ⟨X, 1, none⟩ = some (.int .i64 xs[i].n) ∧ W.cell? ⟨X, 2, none⟩ = some (.slice xs[i].a xs[i].m xs[i].c)) → Hid (Rd W N l0 0) → Calls Tryd.prog 10 #[.pointer (some ⟨N, 0, none⟩)] W fun e w' => e = .returned (.int .i64 xs[i].n) ∧ (Hid (Fr (fun j => j = N) W0 w') ∧ w'.cell? ⟨X, 1, none⟩ = some (.int .i64 xs[i].n) ∧ w'.cell? ⟨X, 2, none⟩ = some (.slice xs[i].a xs[i].m xs[i].c)) ∧ Hid (Rd w' N (layFrom xs 200 (i + 1)) 0)) := fun W h hr =>
              (HV.out W (envS.out W h) hr.out).mono fun e w' ⟨e1, e2, e3⟩ => ⟨e1, next.out W w' h e3, e2⟩
            have S0 : (Hid (Fr (fun j => j = N) W0 W0.drew) ∧ W0.drew.cell? ⟨X, 1, none⟩ = some (.int .i64 xs[i].n) ∧ W0.drew.cell? ⟨X, 2, none⟩ = some (.slice xs[i].a xs[i].m xs[i].c)) := ⟨Lib.hid (Fr.refl _ _).drew, q1, q2⟩
            have RD : Hid (Rd W0.drew N l0 0) := R0.out.below (Below.refl _ _).drew
            have HlN : Hid (N < W0.heap.size) := R0.out.lt
            clear next envS HV HKd R0 R6 q1 q2 b01 hXs hwk hmk hul B6 F6 HE Hfit HT Hcells cells HLm HL hm63 
            go_region_held3 (fun W => (Hid (Fr (fun j => j = N) W0 W) ∧ W.cell? ⟨X, 1, none⟩ = some (.int .i64 xs[i].n) ∧ W.cell? ⟨X, 2, none⟩ = some (.slice xs[i].a xs[i].m xs[i].c))) (assumption)
              (first
                | (go_at_call 34; refine (C34.out _ ?_ ?_).mono ?_; assumption; assumption; rintro e w7 ⟨rfl, hk7, hr7⟩)
                | (go_at_call 10; refine (CV.out _ ?_ ?_).mono ?_; assumption; assumption; rintro e w8 ⟨rfl, hk8, hr8⟩))
            have B8 := Lib.hid (Fr.belowM B0.out hk8.1.out HwN.out HlN.out)
            have R8 := hr8
            have F8 := Lib.hid (F0.out.trans hk8.1.out)
            clear F0 B0 C34 CV S0 RD hk7 hr7 hk8 hr8 HlN 
            go_wp2
            go_roundw
            case rel => exact ⟨i + 1, by omega, by go_num, R8.out, B8.out, F8.out⟩
            case measure => simp [intOf]; omega
          · have hmk : (PK.u64 xs[i].kd : Int) % 5 = 2 := by omega
            have hwk := wrap_u64_nat xs[i].kd
            have hul := PK.u64_lt xs[i].kd
            have hth : xs[i].th.k = 2 := h5
            have hlay : PK.layP xs[i].th = [if decide (0 < xs[i].n) then 121 else 122] := by
              unfold PK.layP
              rw [hth]
              rfl
            obtain ⟨cc, hcc⟩ : ∃ cc : Int, cc = ((if decide (0 < xs[i].n) then (121 : UInt8) else 122).toNat : Int) := ⟨_, rfl⟩
            have hc0 : (cc == 0) = false := by rw [beq_eq_false_iff_ne, hcc]; split <;> decide
            have hkind : ((PK.kindP (PK.layP xs[i].th ++ layFrom xs 200 (i + 1)) 0 : Nat) : Int) = cc := by
              rw [kindP_lay, hlay]
              rw [hcc]; rfl
            have hm63 : (xs[i].m : Int) ≤ 9223372036854775807 := by have := hfx.bytes.len; rw [hfx.len] at this; simp only [maxLen] at this; omega
            have hroom : (PK.layP xs[i].th ++ layFrom xs 200 (i + 1)).length ≤ roomB := by
              have h1 := layFrom_le xs 200 i
              rw [Hr.out, ← HL.out] at h1
              have := HLm.out
              omega
            have heq := PK.bool_full (decide (0 < xs[i].n)) (layFrom xs 200 (i + 1))
            have hcons : PK.layP xs[i].th ++ layFrom xs 200 (i + 1) = (if decide (0 < xs[i].n) then 121 else 122) :: layFrom xs 200 (i + 1) := by rw [hlay]; rfl
            rw [← hcons] at heq
            have HV : Hid (∀ W, Env W → Rd W N (PK.layP xs[i].th ++ layFrom xs 200 (i + 1)) 0 → Calls Tryd.prog 31 #[.pointer (some ⟨N, 0, none⟩)] W fun e w' => e = .returned (.bool (decide (0 < xs[i].n))) ∧ Rd w' N (layFrom xs 200 (i + 1)) 0 ∧ Fr (fun i => i = N) W w') := fun W hE hr =>
              (bool_any N (PK.layP xs[i].th ++ layFrom xs 200 (i + 1)) 0 W hr).mono fun e w' ⟨e1, e2, e3⟩ => by rw [heq] at e1 e2; exact ⟨e1, e2, e3⟩
            have HKd := Lib.hid hkind
            clear hkind heq hlay hroom hfx hth h5 hcons hcc Hr
            generalize PK.layP xs[i].th ++ layFrom xs 200 (i + 1) = l0 at *
            have HR' : Hid (∃ r, r = layFrom xs 200 (i + 1)) := ⟨_, rfl⟩
            go_wp2_with fail
            have q1 : (wr.alloc (.cells #[.int .i64 xs[i].kd, .int .i64 xs[i].n, .slice xs[i].a xs[i].m xs[i].c] 61)).cell? ⟨wr.heap.size, 1, none⟩ = some (.int .i64 xs[i].n) := World.cell?_alloc_new _ _ _ 1
            have q2 : (wr.alloc (.cells #[.int .i64 xs[i].kd, .int .i64 xs[i].n, .slice xs[i].a xs[i].m xs[i].c] 61)).cell? ⟨wr.heap.size, 2, none⟩ = some (.slice xs[i].a xs[i].m xs[i].c) := World.cell?_alloc_new _ _ _ 2
            have b01 : Below wr.heap.size wr (wr.alloc (.cells #[.int .i64 xs[i].kd, .int .i64 xs[i].n, .slice xs[i].a xs[i].m xs[i].c] 61)) := (Below.refl _ _).alloc (Nat.le_refl _) _
            have hXs : wr.heap.size < (wr.alloc (.cells #[.int .i64 xs[i].kd, .int .i64 xs[i].n, .slice xs[i].a xs[i].m xs[i].c] 61)).heap.size := by simp
            have hNX : N < wr.heap.size := R6.out.lt
            generalize (wr.alloc (.cells #[.int .i64 xs[i].kd, .int .i64 xs[i].n, .slice xs[i].a xs[i].m xs[i].c] 61)) = W0 at *
            have R0 := Lib.hid (R6.out.below b01)
            have B0 := Lib.hid (B6.out.trans (b01.mono B6.out.size))
            have F0 := Lib.hid (F6.out.trans (Fr.of_below b01))
            generalize wr.heap.size = X at *
            have next : Hid (∀ W W' : World, (Hid (Fr (fun j => j = N) W0 W) ∧ W.cell? ⟨X, 1, none⟩ = some (.int .i64 xs[i].n) ∧ W.cell? ⟨X, 2, none⟩ = some (.slice xs[i].a xs[i].m xs[i].c)) → Fr (fun j => j = N) W W' → (Hid (Fr (fun j => j = N) W0 W') ∧ W'.cell? ⟨X, 1, none⟩ = some (.int .i64 xs[i].n) ∧ W'.cell? ⟨X, 2, none⟩ = some (.slice xs[i].a xs[i].m xs[i].c))) := by
              rintro W W' ⟨h, _⟩ f
              have ff := h.out.trans f
              exact ⟨Lib.hid ff, ff.cell q1 (fun e => by have : X = N := e; omega), ff.cell q2 (fun e => by have : X = N := e; omega)⟩
            have envS : Hid (∀ W, (Hid (Fr (fun j => j = N) W0 W) ∧ W.cell? ⟨X, 1, none⟩ = some (.int .i64 xs[i].n) ∧ W.cell? ⟨X, 2, none⟩ = some (.slice xs[i].a xs[i].m xs[i].c)) → Env W) := fun W h => HE.out.below (Fr.belowM B0.out h.1.out HwN.out R0.out.lt)
            have C34 : Hid (∀ W, (Hid (Fr (fun j => j = N) W0 W) ∧ W.cell? ⟨X, 1, none⟩ = some (.int .i64 xs[i].n) ∧ W.cell? ⟨X, 2, none⟩ = some (.slice xs[i].a xs[i].m xs[i].c)) → Hid (Rd W N l0 0) → Calls Tryd.prog 34 #[.pointer (some ⟨N, 0, none⟩)] W fun e w' => e = .returned (.int .u8 cc) ∧ (Hid (Fr (fun j => j = N) W0 w') ∧ w'.cell? ⟨X, 1, none⟩ = some (.int .i64 xs[i].n) ∧ w'.cell? ⟨X, 2, none⟩ = some (.slice xs[i].a xs[i].m xs[i].c)) ∧ Hid (Rd w' N l0 0)) := fun W h hr =>
              (kind_any N l0 0 W hr.out).mono fun e w' ⟨e1, e2⟩ => ⟨by rw [HKd.out] at e1; exact e1, next.out W w' h (Fr.of_below e2), hr.out.below e2⟩
            have CV : Hid (∀ W, (Hid (Fr (fun j => j = N) W0 W) ∧ W.cell? ⟨X, 1, none⟩ = some (.int .i64 xs[i].n) ∧ W.cell? ⟨X, 2, none⟩ = some (.slice xs[i].a xs[i].m xs[i].c)) → Hid (Rd W N l0 0) → Calls Tryd.prog 31 #[.pointer (some ⟨N, 0, none⟩)] W fun e w' => e = .returned (.bool (decide (0 < xs[i].n))) ∧ (Hid (Fr (fun j => j = N) W0 w') ∧ w'.cell? ⟨X, 1, none⟩ = some (.int .i64 xs[i].n) ∧ w'.cell? ⟨X, 2, none⟩ = some (.slice xs[i].a xs[i].m xs[i].c)) ∧ Hid (Rd w' N (layFrom xs 200 (i + 1)) 0)) := fun W h hr =>
              (HV.out W (envS.out W h) hr.out).mono fun e w' ⟨e1, e2, e3⟩ => ⟨e1, next.out W w' h e3, e2⟩
            have S0 : (Hid (Fr (fun j => j = N) W0 W0.drew) ∧ W0.drew.cell? ⟨X, 1, none⟩ = some (.int .i64 xs[i].n) ∧ W0.drew.cell? ⟨X, 2, none⟩ = some (.slice xs[i].a xs[i].m xs[i].c)) := ⟨Lib.hid (Fr.refl _ _).drew, q1, q2⟩
            have RD : Hid (Rd W0.drew N l0 0) := R0.out.below (Below.refl _ _).drew
            have HlN : Hid (N < W0.heap.size) := R0.out.lt
            clear next envS HV HKd R0 R6 q1 q2 b01 hXs hwk hmk hul B6 F6 HE Hfit HT Hcells cells HLm HL hm63 
            go_region_held3 (fun W => (Hid (Fr (fun j => j = N) W0 W) ∧ W.cell? ⟨X, 1, none⟩ = some (.int .i64 xs[i].n) ∧ W.cell? ⟨X, 2, none⟩ = some (.slice xs[i].a xs[i].m xs[i].c))) (assumption)
              (first
                | (go_at_call 34; refine (C34.out _ ?_ ?_).mono ?_; assumption; assumption; rintro e w7 ⟨rfl, hk7, hr7⟩)
                | (go_at_call 31; refine (CV.out _ ?_ ?_).mono ?_; assumption; assumption; rintro e w8 ⟨rfl, hk8, hr8⟩))
            have B8 := Lib.hid (Fr.belowM B0.out hk8.1.out HwN.out HlN.out)
            have R8 := hr8
            have F8 := Lib.hid (F0.out.trans hk8.1.out)
            clear F0 B0 C34 CV S0 RD hk7 hr7 hk8 hr8 HlN 
            go_wp2
            go_roundw
            case rel => exact ⟨i + 1, by omega, by go_num, R8.out, B8.out, F8.out⟩
            case measure => simp [intOf]; omega
          · have hmk : (PK.u64 xs[i].kd : Int) % 5 = 3 := by omega
            have hwk := wrap_u64_nat xs[i].kd
            have hul := PK.u64_lt xs[i].kd
            have hth : xs[i].th.k = 3 := h5
            have hlay : PK.layP xs[i].th = 116 :: Lib.itoa xs[i].b.length ++ [58] ++ xs[i].b := by
              unfold PK.layP
              rw [hth]
              rfl
            have hkind : ((PK.kindP (PK.layP xs[i].th ++ layFrom xs 200 (i + 1)) 0 : Nat) : Int) = 116 := by
              rw [kindP_lay, hlay]
              rfl
            have hm63 : (xs[i].m : Int) ≤ 9223372036854775807 := by have := hfx.bytes.len; rw [hfx.len] at this; simp only [maxLen] at this; omega
            have hroom : (PK.layP xs[i].th ++ layFrom xs 200 (i + 1)).length ≤ roomB := by
              have h1 := layFrom_le xs 200 i
              rw [Hr.out, ← HL.out] at h1
              have := HLm.out
              omega
            have heq := PK.run_full 116 xs[i].b (layFrom xs 200 (i + 1)) xs[i].m hfx.may.b (by have := hfx.len; omega)
            rw [← hlay] at heq
            have HV : Hid (∀ W, Env W → Rd W N (PK.layP xs[i].th ++ layFrom xs 200 (i + 1)) 0 → Calls Tryd.prog 32 #[.pointer (some ⟨N, 0, none⟩), .int .i64 (xs[i].m : Int)] W fun e w' => e = .returned (.string (str xs[i].b)) ∧ Rd w' N (layFrom xs 200 (i + 1)) 0 ∧ Fr (fun i => i = N) W w') := fun W hE hr =>
              (text_any N (PK.layP xs[i].th ++ layFrom xs 200 (i + 1)) 0 xs[i].m W hE hr hm63 hroom).mono fun e w' ⟨e1, e2, e3⟩ => by rw [heq] at e1 e2; exact ⟨e1, e2, e3⟩
            have HX := Lib.hid hfx.bytes
            have HKd := Lib.hid hkind
            clear hkind heq hlay hroom hfx hth h5 Hr
            generalize PK.layP xs[i].th ++ layFrom xs 200 (i + 1) = l0 at *
            have HR' : Hid (∃ r, r = layFrom xs 200 (i + 1)) := ⟨_, rfl⟩
            go_wp2_with fail
            have q1 : (wr.alloc (.cells #[.int .i64 xs[i].kd, .int .i64 xs[i].n, .slice xs[i].a xs[i].m xs[i].c] 61)).cell? ⟨wr.heap.size, 1, none⟩ = some (.int .i64 xs[i].n) := World.cell?_alloc_new _ _ _ 1
            have q2 : (wr.alloc (.cells #[.int .i64 xs[i].kd, .int .i64 xs[i].n, .slice xs[i].a xs[i].m xs[i].c] 61)).cell? ⟨wr.heap.size, 2, none⟩ = some (.slice xs[i].a xs[i].m xs[i].c) := World.cell?_alloc_new _ _ _ 2
            have b01 : Below wr.heap.size wr (wr.alloc (.cells #[.int .i64 xs[i].kd, .int .i64 xs[i].n, .slice xs[i].a xs[i].m xs[i].c] 61)) := (Below.refl _ _).alloc (Nat.le_refl _) _
            have hXs : wr.heap.size < (wr.alloc (.cells #[.int .i64 xs[i].kd, .int .i64 xs[i].n, .slice xs[i].a xs[i].m xs[i].c] 61)).heap.size := by simp
            have hNX : N < wr.heap.size := R6.out.lt
            generalize (wr.alloc (.cells #[.int .i64 xs[i].kd, .int .i64 xs[i].n, .slice xs[i].a xs[i].m xs[i].c] 61)) = W0 at *
            have R0 := Lib.hid (R6.out.below b01)
            have B0 := Lib.hid (B6.out.trans (b01.mono B6.out.size))
            have F0 := Lib.hid (F6.out.trans (Fr.of_below b01))
            generalize wr.heap.size = X at *
            have next : Hid (∀ W W' : World, (Hid (Fr (fun j => j = N) W0 W) ∧ W.cell? ⟨X, 1, none⟩ = some (.int .i64 xs[i].n) ∧ W.cell? ⟨X, 2, none⟩ = some (.slice xs[i].a xs[i].m xs[i].c)) → Fr (fun j => j = N) W W' → (Hid (Fr (fun j => j = N) W0 W') ∧ W'.cell? ⟨X, 1, none⟩ = some (.int .i64 xs[i].n) ∧ W'.cell? ⟨X, 2, none⟩ = some (.slice xs[i].a xs[i].m xs[i].c))) := by
              rintro W W' ⟨h, _⟩ f
              have ff := h.out.trans f
              exact ⟨Lib.hid ff, ff.cell q1 (fun e => by have : X = N := e; omega), ff.cell q2 (fun e => by have : X = N := e; omega)⟩
            have envS : Hid (∀ W, (Hid (Fr (fun j => j = N) W0 W) ∧ W.cell? ⟨X, 1, none⟩ = some (.int .i64 xs[i].n) ∧ W.cell? ⟨X, 2, none⟩ = some (.slice xs[i].a xs[i].m xs[i].c)) → Env W) := fun W h => HE.out.below (Fr.belowM B0.out h.1.out HwN.out R0.out.lt)
            have C34 : Hid (∀ W, (Hid (Fr (fun j => j = N) W0 W) ∧ W.cell? ⟨X, 1, none⟩ = some (.int .i64 xs[i].n) ∧ W.cell? ⟨X, 2, none⟩ = some (.slice xs[i].a xs[i].m xs[i].c)) → Hid (Rd W N l0 0) → Calls Tryd.prog 34 #[.pointer (some ⟨N, 0, none⟩)] W fun e w' => e = .returned (.int .u8 116) ∧ (Hid (Fr (fun j => j = N) W0 w') ∧ w'.cell? ⟨X, 1, none⟩ = some (.int .i64 xs[i].n) ∧ w'.cell? ⟨X, 2, none⟩ = some (.slice xs[i].a xs[i].m xs[i].c)) ∧ Hid (Rd w' N l0 0)) := fun W h hr =>
              (kind_any N l0 0 W hr.out).mono fun e w' ⟨e1, e2⟩ => ⟨by rw [HKd.out] at e1; exact e1, next.out W w' h (Fr.of_below e2), hr.out.below e2⟩
            have CV : Hid (∀ W, (Hid (Fr (fun j => j = N) W0 W) ∧ W.cell? ⟨X, 1, none⟩ = some (.int .i64 xs[i].n) ∧ W.cell? ⟨X, 2, none⟩ = some (.slice xs[i].a xs[i].m xs[i].c)) → Hid (Rd W N l0 0) → Calls Tryd.prog 32 #[.pointer (some ⟨N, 0, none⟩), .int .i64 (xs[i].m : Int)] W fun e w' => e = .returned (.string (str xs[i].b)) ∧ (Hid (Fr (fun j => j = N) W0 w') ∧ w'.cell? ⟨X, 1, none⟩ = some (.int .i64 xs[i].n) ∧ w'.cell? ⟨X, 2, none⟩ = some (.slice xs[i].a xs[i].m xs[i].c)) ∧ Hid (Rd w' N (layFrom xs 200 (i + 1)) 0)) := fun W h hr =>
              (HV.out W (envS.out W h) hr.out).mono fun e w' ⟨e1, e2, e3⟩ => ⟨e1, next.out W w' h e3, e2⟩
            have ecv : ∀ W, Hid (Fr (fun j => j = N) W0 W) → (convert 22 9 (.slice xs[i].a xs[i].m xs[i].c)).run Tryd.prog W = .ok (.string (str xs[i].b)) W := fun W h => run_toStr T22 U9 (HX.out.below (Fr.belowM B0.out h.out HwN.out R0.out.lt))
            have S0 : (Hid (Fr (fun j => j = N) W0 W0.drew) ∧ W0.drew.cell? ⟨X, 1, none⟩ = some (.int .i64 xs[i].n) ∧ W0.drew.cell? ⟨X, 2, none⟩ = some (.slice xs[i].a xs[i].m xs[i].c)) := ⟨Lib.hid (Fr.refl _ _).drew, q1, q2⟩
            have RD : Hid (Rd W0.drew N l0 0) := R0.out.below (Below.refl _ _).drew
            have HlN : Hid (N < W0.heap.size) := R0.out.lt
            clear next envS HV HKd R0 R6 q1 q2 b01 hXs hwk hmk hul B6 F6 HE Hfit HT Hcells cells HLm HL HX hm63 
            go_region_held3 (fun W => (Hid (Fr (fun j => j = N) W0 W) ∧ W.cell? ⟨X, 1, none⟩ = some (.int .i64 xs[i].n) ∧ W.cell? ⟨X, 2, none⟩ = some (.slice xs[i].a xs[i].m xs[i].c))) (assumption)
              (first
                | (go_at_call 34; refine (C34.out _ ?_ ?_).mono ?_; assumption; assumption; rintro e w7 ⟨rfl, hk7, hr7⟩)
                | (go_at_call 32; refine (CV.out _ ?_ ?_).mono ?_; assumption; assumption; rintro e w8 ⟨rfl, hk8, hr8⟩))
            have B8 := Lib.hid (Fr.belowM B0.out hk8.1.out HwN.out HlN.out)
            have R8 := hr8
            have F8 := Lib.hid (F0.out.trans hk8.1.out)
            clear F0 B0 C34 CV S0 RD hk7 hr7 hk8 hr8 HlN ecv 
            go_wp2
            go_roundw
            case rel => exact ⟨i + 1, by omega, by go_num, R8.out, B8.out, F8.out⟩
            case measure => simp [intOf]; omega
          · have hmk : (PK.u64 xs[i].kd : Int) % 5 = 4 := by omega
            have hwk := wrap_u64_nat xs[i].kd
            have hul := PK.u64_lt xs[i].kd
            have hth : xs[i].th.k = 4 := h5
            have hlay : PK.layP xs[i].th = 98 :: Lib.itoa xs[i].b.length ++ [58] ++ xs[i].b := by
              unfold PK.layP
              rw [hth]
              rfl
            have hkind : ((PK.kindP (PK.layP xs[i].th ++ layFrom xs 200 (i + 1)) 0 : Nat) : Int) = 98 := by
              rw [kindP_lay, hlay]
              rfl
            have hm63 : (xs[i].m : Int) ≤ 9223372036854775807 := by have := hfx.bytes.len; rw [hfx.len] at this; simp only [maxLen] at this; omega
            have hroom : (PK.layP xs[i].th ++ layFrom xs 200 (i + 1)).length ≤ roomB := by
              have h1 := layFrom_le xs 200 i
              rw [Hr.out, ← HL.out] at h1
              have := HLm.out
              omega
            have heq := PK.run_full 98 xs[i].b (layFrom xs 200 (i + 1)) xs[i].m hfx.may.b (by have := hfx.len; omega)
            rw [← hlay] at heq
            have HV : Hid (∀ W, Env W → Rd W N (PK.layP xs[i].th ++ layFrom xs 200 (i + 1)) 0 → Calls Tryd.prog 33 #[.pointer (some ⟨N, 0, none⟩), .int .i64 (xs[i].m : Int)] W fun e w' => (∃ a n c, e = .returned (.slice a n c) ∧ (convert 22 9 (.slice a n c)).run Tryd.prog w' = .ok (.string (str xs[i].b)) w') ∧ Rd w' N (layFrom xs 200 (i + 1)) 0 ∧ Fr (fun i => i = N) W w') := fun W hE hr =>
              (bytes_any N (PK.layP xs[i].th ++ layFrom xs 200 (i + 1)) 0 xs[i].m W hE hr hm63 hroom).mono fun e w' ⟨⟨a, n, c, e0, _, e1⟩, e2, e3⟩ => by rw [heq] at e1 e2; exact ⟨⟨a, n, c, e0, run_toStr T22 U9 e1.isB⟩, e2, e3⟩
            have HX := Lib.hid hfx.bytes
            have HKd := Lib.hid hkind
            clear hkind heq hlay hroom hfx hth h5 Hr
            generalize PK.layP xs[i].th ++ layFrom xs 200 (i + 1) = l0 at *
            have HR' : Hid (∃ r, r = layFrom xs 200 (i + 1)) := ⟨_, rfl⟩
            go_wp2_with fail
            have q1 : (wr.alloc (.cells #[.int .i64 xs[i].kd, .int .i64 xs[i].n, .slice xs[i].a xs[i].m xs[i].c] 61)).cell? ⟨wr.heap.size, 1, none⟩ = some (.int .i64 xs[i].n) := World.cell?_alloc_new _ _ _ 1
            have q2 : (wr.alloc (.cells #[.int .i64 xs[i].kd, .int .i64 xs[i].n, .slice xs[i].a xs[i].m xs[i].c] 61)).cell? ⟨wr.heap.size, 2, none⟩ = some (.slice xs[i].a xs[i].m xs[i].c) := World.cell?_alloc_new _ _ _ 2
            have b01 : Below wr.heap.size wr (wr.alloc (.cells #[.int .i64 xs[i].kd, .int .i64 xs[i].n, .slice xs[i].a xs[i].m xs[i].c] 61)) := (Below.refl _ _).alloc (Nat.le_refl _) _
            have hXs : wr.heap.size < (wr.alloc (.cells #[.int .i64 xs[i].kd, .int .i64 xs[i].n, .slice xs[i].a xs[i].m xs[i].c] 61)).heap.size := by simp
            have hNX : N < wr.heap.size := R6.out.lt
            generalize (wr.alloc (.cells #[.int .i64 xs[i].kd, .int .i64 xs[i].n, .slice xs[i].a xs[i].m xs[i].c] 61)) = W0 at *
            have R0 := Lib.hid (R6.out.below b01)
            have B0 := Lib.hid (B6.out.trans (b01.mono B6.out.size))
            have F0 := Lib.hid (F6.out.trans (Fr.of_below b01))
            generalize wr.heap.size = X at *
            have next : Hid (∀ W W' : World, (Hid (Fr (fun j => j = N) W0 W) ∧ W.cell? ⟨X, 1, none⟩ = some (.int .i64 xs[i].n) ∧ W.cell? ⟨X, 2, none⟩ = some (.slice xs[i].a xs[i].m xs[i].c)) → Fr (fun j => j = N) W W' → (Hid (Fr (fun j => j = N) W0 W') ∧ W'.cell? ⟨X, 1, none⟩ = some (.int .i64 xs[i].n) ∧ W'.cell? ⟨X, 2, none⟩ = some (.slice xs[i].a xs[i].m xs[i].c))) := by
              rintro W W' ⟨h, _⟩ f
              have ff := h.out.trans f
              exact ⟨Lib.hid ff, ff.cell q1 (fun e => by have : X = N := e; omega), ff.cell q2 (fun e => by have : X = N := e; omega)⟩
            have envS : Hid (∀ W, (Hid (Fr (fun j => j = N) W0 W) ∧ W.cell? ⟨X, 1, none⟩ = some (.int .i64 xs[i].n) ∧ W.cell? ⟨X, 2, none⟩ = some (.slice xs[i].a xs[i].m xs[i].c)) → Env W) := fun W h => HE.out.below (Fr.belowM B0.out h.1.out HwN.out R0.out.lt)
            have C34 : Hid (∀ W, (Hid (Fr (fun j => j = N) W0 W) ∧ W.cell? ⟨X, 1, none⟩ = some (.int .i64 xs[i].n) ∧ W.cell? ⟨X, 2, none⟩ = some (.slice xs[i].a xs[i].m xs[i].c)) → Hid (Rd W N l0 0) → Calls Tryd.prog 34 #[.pointer (some ⟨N, 0, none⟩)] W fun e w' => e = .returned (.int .u8 98) ∧ (Hid (Fr (fun j => j = N) W0 w') ∧ w'.cell? ⟨X, 1, none⟩ = some (.int .i64 xs[i].n) ∧ w'.cell? ⟨X, 2, none⟩ = some (.slice xs[i].a xs[i].m xs[i].c)) ∧ Hid (Rd w' N l0 0)) := fun W h hr =>
              (kind_any N l0 0 W hr.out).mono fun e w' ⟨e1, e2⟩ => ⟨by rw [HKd.out] at e1; exact e1, next.out W w' h (Fr.of_below e2), hr.out.below e2⟩
            have CV : Hid (∀ W, (Hid (Fr (fun j => j = N) W0 W) ∧ W.cell? ⟨X, 1, none⟩ = some (.int .i64 xs[i].n) ∧ W.cell? ⟨X, 2, none⟩ = some (.slice xs[i].a xs[i].m xs[i].c)) → Hid (Rd W N l0 0) → Calls Tryd.prog 33 #[.pointer (some ⟨N, 0, none⟩), .int .i64 (xs[i].m : Int)] W fun e w' => (∃ a n c, e = .returned (.slice a n c) ∧ (convert 22 9 (.slice a n c)).run Tryd.prog w' = .ok (.string (str xs[i].b)) w') ∧ (Hid (Fr (fun j => j = N) W0 w') ∧ w'.cell? ⟨X, 1, none⟩ = some (.int .i64 xs[i].n) ∧ w'.cell? ⟨X, 2, none⟩ = some (.slice xs[i].a xs[i].m xs[i].c)) ∧ Hid (Rd w' N (layFrom xs 200 (i + 1)) 0)) := fun W h hr =>
              (HV.out W (envS.out W h) hr.out).mono fun e w' ⟨e1, e2, e3⟩ => ⟨e1, next.out W w' h e3, e2⟩
            have ecv : ∀ W, Hid (Fr (fun j => j = N) W0 W) → (convert 22 9 (.slice xs[i].a xs[i].m xs[i].c)).run Tryd.prog W = .ok (.string (str xs[i].b)) W := fun W h => run_toStr T22 U9 (HX.out.below (Fr.belowM B0.out h.out HwN.out R0.out.lt))
            have S0 : (Hid (Fr (fun j => j = N) W0 W0.drew) ∧ W0.drew.cell? ⟨X, 1, none⟩ = some (.int .i64 xs[i].n) ∧ W0.drew.cell? ⟨X, 2, none⟩ = some (.slice xs[i].a xs[i].m xs[i].c)) := ⟨Lib.hid (Fr.refl _ _).drew, q1, q2⟩
            have RD : Hid (Rd W0.drew N l0 0) := R0.out.below (Below.refl _ _).drew
            have HlN : Hid (N < W0.heap.size) := R0.out.lt
            clear next envS HV HKd R0 R6 q1 q2 b01 hXs hwk hmk hul B6 F6 HE Hfit HT Hcells cells HLm HL HX hm63 
            refine wp_region_noPanic ?_
            refine wp_region_held_drew (S := fun W => (Hid (Fr (fun j => j = N) W0 W) ∧ W.cell? ⟨X, 1, none⟩ = some (.int .i64 xs[i].n) ∧ W.cell? ⟨X, 2, none⟩ = some (.slice xs[i].a xs[i].m xs[i].c))) (by kernel_rfl) S0 (fun hHeld => ?_)
            refine wpAnyH_take (i := 0) (v := ?hv0) (List.getElem?_toArray.trans rfl) (by kernel_rfl) (by kernel_rfl) (by kernel_rfl) (fun _ _ _ h => h) (Or.inl ⟨by rfl, ?hy0⟩) (by assumption) ?hr0
            case hy0 => (intro wt hSw; (try dsimp only at hSw); go_simp; try (with_reducible rfl))
            try simp only [Act.put, List.setIfInBounds_toArray, List.set_cons_zero, List.set_cons_succ]
            refine wpAnyH_ready (rs := [1]) (by kernel_rfl) (by simp) ?_
            refine AllReadyH.cons (List.getElem?_toArray.trans rfl) (fun K hK => ?_) AllReadyH.nil
            go_simp
            go_at_call 34
            refine (C34.out _ ?_ ?_).mono ?_
            · assumption
            · assumption
            rintro e w7 ⟨rfl, hk7, hr7⟩
            try (go_wp2_with fail)
            refine hK.out _ _ ?_ (fun hHeld => ?_)
            · (try dsimp only)
              assumption
            clear hK K
            try simp only [Act.put, List.setIfInBounds_toArray, List.set_cons_zero, List.set_cons_succ]
            refine wpAnyH_take (i := 2) (v := ?hv2) (List.getElem?_toArray.trans rfl) (by kernel_rfl) (by kernel_rfl) (by kernel_rfl) (fun _ _ _ h => h) (Or.inl ⟨by rfl, ?hy2⟩) (by assumption) ?hr2
            case hy2 => (intro wt hSw; (try dsimp only at hSw); go_simp; try (with_reducible rfl))
            try simp only [Act.put, List.setIfInBounds_toArray, List.set_cons_zero, List.set_cons_succ]
            refine wpAnyH_take (i := 3) (v := ?hv3) (List.getElem?_toArray.trans rfl) (by kernel_rfl) (by kernel_rfl) (by kernel_rfl) (fun _ _ _ h => h) (Or.inl ⟨by rfl, ?hy3⟩) (by assumption) ?hr3
            case hy3 => (intro wt hSw; (try dsimp only at hSw); go_simp; try (with_reducible rfl))
            try simp only [Act.put, List.setIfInBounds_toArray, List.set_cons_zero, List.set_cons_succ]
            refine wpAnyH_take (i := 4) (v := ?hv4) (List.getElem?_toArray.trans rfl) (by kernel_rfl) (by kernel_rfl) (by kernel_rfl) (fun _ _ _ h => h) (Or.inl ⟨by rfl, ?hy4⟩) (by assumption) ?hr4
            case hy4 => (intro wt hSw; (try dsimp only at hSw); go_simp; try (with_reducible rfl))
            try simp only [Act.put, List.setIfInBounds_toArray, List.set_cons_zero, List.set_cons_succ]
            refine wpAnyH_take (i := 5) (v := ?hv5) (List.getElem?_toArray.trans rfl) (by kernel_rfl) (by kernel_rfl) (by kernel_rfl) (fun _ _ _ h => h) (Or.inl ⟨by rfl, ?hy5⟩) (by assumption) ?hr5
            case hy5 => (intro wt hSw; (try dsimp only at hSw); go_simp; try (with_reducible rfl))
            try simp only [Act.put, List.setIfInBounds_toArray, List.set_cons_zero, List.set_cons_succ]
            refine wpAnyH_take (i := 6) (v := ?hv6) (List.getElem?_toArray.trans rfl) (by kernel_rfl) (by kernel_rfl) (by kernel_rfl) (fun _ _ _ h => h) (Or.inl ⟨by rfl, ?hy6⟩) (by assumption) ?hr6
            case hy6 => (intro wt hSw; (try dsimp only at hSw); go_simp; try (with_reducible rfl))
            try simp only [Act.put, List.setIfInBounds_toArray, List.set_cons_zero, List.set_cons_succ]
            refine wpAnyH_take (i := 7) (v := ?hv7) (List.getElem?_toArray.trans rfl) (by kernel_rfl) (by kernel_rfl) (by kernel_rfl) (fun _ _ _ h => h) (Or.inl ⟨by rfl, ?hy7⟩) (by assumption) ?hr7
            case hy7 => (intro wt hSw; (try dsimp only at hSw); go_simp; try (with_reducible rfl))
            try simp only [Act.put, List.setIfInBounds_toArray, List.set_cons_zero, List.set_cons_succ]
            refine wpAnyH_take (i := 10) (v := ?hv10) (List.getElem?_toArray.trans rfl) (by kernel_rfl) (by kernel_rfl) (by kernel_rfl) (fun _ _ _ h => h) (Or.inl ⟨by rfl, ?hy10⟩) (by assumption) ?hr10
            case hy10 => (intro wt hSw; (try dsimp only at hSw); go_simp; try (with_reducible rfl))
            try simp only [Act.put, List.setIfInBounds_toArray, List.set_cons_zero, List.set_cons_succ]
            refine wpAnyH_take (i := 11) (v := ?hv11) (List.getElem?_toArray.trans rfl) (by kernel_rfl) (by kernel_rfl) (by kernel_rfl) (fun _ _ _ h => h) (Or.inl ⟨by rfl, ?hy11⟩) (by assumption) ?hr11
            case hy11 => (intro wt hSw; (try dsimp only at hSw); go_simp; try (with_reducible rfl))
            try simp only [Act.put, List.setIfInBounds_toArray, List.set_cons_zero, List.set_cons_succ]
            refine wpAnyH_take (i := 12) (v := ?hv12) (List.getElem?_toArray.trans rfl) (by kernel_rfl) (by kernel_rfl) (by kernel_rfl) (fun _ _ _ h => h) (Or.inl ⟨by rfl, ?hy12⟩) (by assumption) ?hr12
            case hy12 => (intro wt hSw; (try dsimp only at hSw); go_simp; try (with_reducible rfl))
            try simp only [Act.put, List.setIfInBounds_toArray, List.set_cons_zero, List.set_cons_succ]
            refine wpAnyH_ready (rs := [8]) (by kernel_rfl) (by simp) ?_
            refine AllReadyH.cons (List.getElem?_toArray.trans rfl) (fun K hK => ?_) AllReadyH.nil
            go_simp
            go_at_call 33
            refine (CV.out _ ?_ ?_).mono ?_
            · assumption
            · assumption
            rintro e w8 ⟨⟨ab, nb, cb, rfl, ecb⟩, hk8, hr8⟩
            try (go_wp2_with fail)
            refine hK.out _ _ ?_ (fun hHeld => ?_)
            · (try dsimp only)
              assumption
            clear hK K
            try simp only [Act.put, List.setIfInBounds_toArray, List.set_cons_zero, List.set_cons_succ]
            refine wpAnyH_take (i := 15) (v := ?hv15) (List.getElem?_toArray.trans rfl) (by kernel_rfl) (by kernel_rfl) (by kernel_rfl) (fun _ _ _ h => h) (Or.inl ⟨by rfl, ?hy15⟩) (by assumption) ?hr15
            case hy15 => (intro wt hSw; (try dsimp only at hSw); go_simp; try (with_reducible rfl))
            try simp only [Act.put, List.setIfInBounds_toArray, List.set_cons_zero, List.set_cons_succ]
            refine wpAnyH_ready (rs := [9]) (by kernel_rfl) (by simp) ?_
            refine AllReadyH.cons (List.getElem?_toArray.trans rfl) (fun K hK => ?_) AllReadyH.nil
            go_simp
            refine hK.out _ _ ?_ (fun hHeld => ?_)
            · (try dsimp only)
              assumption
            clear hK K
            try simp only [Act.put, List.setIfInBounds_toArray, List.set_cons_zero, List.set_cons_succ]
            refine wpAnyH_take (i := 13) (v := ?hv13) (List.getElem?_toArray.trans rfl) (by kernel_rfl) (by kernel_rfl) (by kernel_rfl) (fun _ _ _ h => h) (Or.inl ⟨by rfl, ?hy13⟩) (by assumption) ?hr13
            case hy13 => (intro wt hSw; (try dsimp only at hSw); go_simp; try (with_reducible rfl))
            try simp only [Act.put, List.setIfInBounds_toArray, List.set_cons_zero, List.set_cons_succ]
            refine wpAnyH_take (i := 14) (v := ?hv14) (List.getElem?_toArray.trans rfl) (by kernel_rfl) (by kernel_rfl) (by kernel_rfl) (fun _ _ _ h => h) (Or.inl ⟨by rfl, ?hy14⟩) (by assumption) ?hr14
            case hy14 => (intro wt hSw; (try dsimp only at hSw); go_simp; try (with_reducible rfl))
            try simp only [Act.put, List.setIfInBounds_toArray, List.set_cons_zero, List.set_cons_succ]
            refine wpAnyH_take (i := 16) (v := ?hv16) (List.getElem?_toArray.trans rfl) (by kernel_rfl) (by kernel_rfl) (by kernel_rfl) (fun _ _ _ h => h) (Or.inl ⟨by rfl, ?hy16⟩) (by assumption) ?hr16
            case hy16 => (intro wt hSw; (try dsimp only at hSw); go_simp; try (with_reducible rfl))
            try simp only [Act.put, List.setIfInBounds_toArray, List.set_cons_zero, List.set_cons_succ]
            refine wpAnyH_done (by kernel_rfl) ?_ _
            refine NoPanic.normal ?_
            have B8 := Lib.hid (Fr.belowM B0.out hk8.1.out HwN.out HlN.out)
            have R8 := hr8
            have F8 := Lib.hid (F0.out.trans hk8.1.out)
            clear F0 B0 C34 CV S0 RD hk7 hr7 hk8 hr8 HlN ecv 
            go_wp2
            go_roundw
            case rel => exact ⟨i + 1, by omega, by go_num, R8.out, B8.out, F8.out⟩
            case measure => simp [intOf]; omega
        · obtain rfl : i = 200 := by omega
          rw [layFrom_end] at R6
          have HDn := Lib.hid (done_any N [] 0 wr R6.out)
          replace HDn : Hid (Calls Tryd.prog 13 #[.pointer (some ⟨N, 0, none⟩)] wr fun e w' => e = .returned .nilIface ∧ wr = w') := HDn
          have HLf := Lib.hid (left_any N [] 0 wr R6.out)
          have O6 : Hid (IsB wr (.slice a3 L.length c3) L) := by
            obtain ⟨_, a, c, hh, _⟩ := R4.out
            exact Rd.bytes hh O4.out F6.out
          have HS := Lib.hid (sure_any wr (HE.out.below B6.out))
          clear R4 B4 F6 R6 O4
          have hpos : 0 < xs.length := by omega
          have hposI : (0 : Int) < (xs.length : Int) := by omega
          obtain ⟨b, o, rfl, e0, _, _⟩ := cells.out 0 hpos wr B6.out
          rw [Nat.zero_mul, Nat.add_zero] at e0
          have hwk := wrap_u64_nat xs[0].kd
          have hul := PK.u64_lt xs[0].kd
          by_cases hk1 : PK.u64 xs[0].kd % 5 = 1
          · have hmk : (PK.u64 xs[0].kd : Int) % 5 = 1 := by omega
            clear hk1
            generalize PK.u64 xs[0].kd = u at *
            go_wp2_with fail
            refine HDn.out.mono ?_
            rintro e w5 ⟨rfl, rfl⟩
            go_wp2_with fail
            refine HLf.out.mono ?_
            rintro e w5 ⟨rfl, rfl⟩
            clear HDn HLf
            go_wp2_with fail
            refine HS.out.mono ?_
            rintro e w6 ⟨rfl, b6⟩
            have B7 := Lib.hid (B6.out.trans (b6.mono B6.out.size))
            clear HS b6
            go_wp2
            go_ret
            exact ⟨rfl, B7.out⟩
          · obtain ⟨q, hmk⟩ : ∃ q : Int, (PK.u64 xs[0].kd : Int) % 5 = q := ⟨_, rfl⟩
            have hq1 : (q != 1) = true := by rw [bne_iff_ne]; omega
            have hq0 : 0 ≤ q := by omega
            have hq4 : q ≤ 4 := by omega
            have hint : PK.intP L 0 = (0, L, 3) := by
              have e : L = PK.layP xs[0].th ++ layFrom xs 200 1 := by rw [HL.out, ← layFrom_zero, layFrom_succ xs 200 0 (by omega) hpos]
              obtain ⟨c, t, e2, _, c1, _⟩ := PK.lay_head xs[0].th
              rw [e, e2, List.cons_append]
              exact PK.int_other c _ (fun q => hk1 (c1.1 q))
            have HRd2 := Lib.hid (read_any a3 c3 L wr (HE.out.below B6.out) O6.out)
            have hwx : w.heap.size ≤ wr.heap.size := B6.out.size
            obtain ⟨N2, hN2⟩ : ∃ N2, wr.heap.size = N2 := ⟨_, rfl⟩
            have HI2 : Hid (∀ W, Env W → Rd W N2 L 0 → Calls Tryd.prog 10 #[.pointer (some ⟨N2, 0, none⟩)] W fun v w' => v = .returned (.int .i64 0) ∧ Rd w' N2 L 3 ∧ Fr (fun i => i = N2) W w') := fun W hE hr => by
              have := int_any N2 L 0 W hE hr
              rw [hint] at this
              exact this
            have HD2 : Hid (∀ W, Rd W N2 L 3 → Calls Tryd.prog 13 #[.pointer (some ⟨N2, 0, none⟩)] W fun e w' => e = .returned (.iface 75 (.int .i64 3)) ∧ W = w') := fun W hr => done_any N2 L 3 W hr
            have HNm : Hid (∀ W, Env W → Calls Tryd.prog 12 #[.iface 75 (.int .i64 3)] W fun e w' => e = .returned (.int .i64 3) ∧ Below W.heap.size W w') := fun W hE => num_any 3 W hE
            have HN2 := Lib.hid hN2
            have HwN2 : Hid (w.heap.size ≤ N2) := by rw [← hN2]; exact hwx
            clear hk1 hint hN2 hwx
            generalize PK.u64 xs[0].kd = u at *
            go_wp2_with fail
            refine HDn.out.mono ?_
            rintro e w5 ⟨rfl, rfl⟩
            go_wp2_with fail
            refine HLf.out.mono ?_
            rintro e w5 ⟨rfl, rfl⟩
            clear HDn HLf
            go_wp2_with fail
            refine HRd2.out.mono ?_
            rintro e w6 ⟨rfl, r6, b6⟩
            have B7 := Lib.hid (B6.out.trans (b6.mono B6.out.size))
            rw [HN2.out] at r6 ⊢
            have HI := Lib.hid (HI2.out w6 (HE.out.below B7.out) r6)
            have R7 := Lib.hid r6.lt
            clear HRd2 r6 b6 B6 HI2 e0 hwk hul hmk hq1 hq0 hq4
            go_wp2_with fail
            refine HI.out.mono ?_
            rintro e w7 ⟨rfl, r7, f7⟩
            have B8 := Lib.hid (Fr.belowM B7.out f7 HwN2.out R7.out)
            have R8 := Lib.hid r7
            have HD := Lib.hid (HD2.out w7 r7)
            have HM := Lib.hid (HNm.out w7 (HE.out.below B8.out))
            clear HI r7 f7 B7 R7 HD2 HNm
            go_wp2_with fail
            refine HD.out.mono ?_
            rintro e w8 ⟨rfl, rfl⟩
            go_wp2_with fail
            refine HM.out.mono ?_
            rintro e w8 ⟨rfl, b8⟩
            have B9 := Lib.hid (B8.out.trans (b8.mono B8.out.size))
            have HLe := Lib.hid (left_any N2 L 3 w8 (R8.out.below b8))
            clear HD HM b8 R8 B8
            go_wp2_with fail
            refine HLe.out.mono ?_
            rintro e w9 ⟨rfl, rfl⟩
            have HS := Lib.hid (sure_any w8 (HE.out.below B9.out))
            clear HLe
            go_wp2_with fail
            refine HS.out.mono ?_
            rintro e w10 ⟨rfl, b10⟩
            have B10 := Lib.hid (B9.out.trans (b10.mono B9.out.size))
            clear HS b10
            go_wp2
            go_ret
            exact ⟨rfl, B10.out⟩
end Go.Proofs.YtincbeipfgbfpaaDoor
