/-
  The program's and the document's sums, and a sum's bytes, by contracts.
  Conditions: what is summed reads as bytes.
-/
import Derived.Test.YtbgockggbpmhnaaGreatDoorCrc
import Derived.Test.YtbgockggbpmhnaaGreatDoorRefC
import Derived.Laws.BitsAll
import Derived.Laws.BitsAllLaws
namespace Go.Proofs.YtbgockggbpmhnaaGreatDoor
open Go Go.RowKit

theorem neg_bit (s : Nat) (hs : s < 4294967296) : bits .xor .u32 ((s : Int) / 2) (bits .and .u32 2197175160 (-((s : Int) % 2) % 4294967296)) = ((PK.bitS s : Nat) : Int) := by
  have hb := Nat.mod_two_eq_zero_or_one s
  have h2 : (s : Int) / 2 = ((s / 2 : Nat) : Int) := by omega
  rw [h2]
  unfold PK.bitS
  rcases hb with h | h
  · rw [h, if_neg (by decide)]
    have e1 : (-((s : Int) % 2) % 4294967296) = ((0 : Nat) : Int) := by omega
    rw [e1, show (2197175160 : Int) = ((2197175160 : Nat) : Int) from rfl, u32_and_nat _ _ (by decide) (by decide), Nat.and_zero, u32_xor_nat _ _ (by omega) (by decide), Nat.xor_zero]
  · rw [h, if_pos rfl]
    have e1 : (-((s : Int) % 2) % 4294967296) = ((4294967295 : Nat) : Int) := by omega
    rw [e1, show (2197175160 : Int) = ((2197175160 : Nat) : Int) from rfl, u32_and_nat _ _ (by decide) (by decide), show (2197175160 : Nat) &&& 4294967295 = PK.poly from by decide, u32_xor_nat _ _ (by omega) (by decide)]
set_option maxHeartbeats 1000000 in
theorem step_any (s c : Nat) (w : World) (hs : s < 4294967296) (hc : c < 256) :
    Calls Tryz.prog 102 #[.int .u32 s, .int .u8 c] w fun v w' => v = .returned (.int .u32 ((PK.stepS s c : Nat) : Int)) ∧ w = w' := by
  have hw : IntKind.u32.wrap ((c : Nat) : Int) = (c : Int) := by rw [IntKind.wrap_u32']; omega
  have hx : bits .xor .u32 (s : Int) (c : Int) = ((s ^^^ c : Nat) : Int) := u32_xor_nat s c hs (by omega)
  obtain ⟨r, hr⟩ : ∃ r, r = s ^^^ c := ⟨_, rfl⟩
  have hrl : r < 4294967296 := by rw [hr]; exact PK.xor_lt hs (by omega)
  have hst : PK.stepS s c = PK.times 8 r := by rw [hr]; rfl
  rw [hst]
  rw [← hr] at hx
  have Hrl := Lib.hid hrl
  clear hr hst hrl hs hc
  go_enter Tryz.func102, Tryz.ntmps102
  go_wp2
  go_loop [0, 10] (fun v0 v1 => ∃ i : Nat, i ≤ 8 ∧ v1 = .int .i64 i ∧ v0 = .int .u32 ((PK.times i r : Nat) : Int)) (fun _ v1 => 8 - (intOf v1).toNat)
  case atStart => exact ⟨0, by decide, rfl, rfl⟩
  case round =>
    obtain ⟨i, hi, rfl, rfl⟩ := hrel
    by_cases hlt : i < 8
    · have hti := PK.times_lt Hrl.out i
      have hsucc : PK.times (i + 1) r = PK.bitS (PK.times i r) := rfl
      generalize PK.times i r = t at *
      have hand : bits .and .u32 (t : Int) 1 = ((t % 2 : Nat) : Int) := by
        rw [show (1 : Int) = ((1 : Nat) : Int) from rfl, u32_and_nat t 1 hti (by decide), nat_mask1]
      have hq := Lib.hid (neg_bit t hti)
      go_wp2
      rw [hq.out]
      exact ⟨⟨i + 1, hlt, by simp, by rw [hsucc]⟩, by simp [intOf]; omega⟩
    · obtain rfl : i = 8 := by omega
      go_wp2
      go_ret
      exact ⟨rfl, rfl⟩

theorem IsB.at {w : World} {a : Option Addr} {n c : Nat} {l : List UInt8} (hv : IsB w (.slice a n c) l) (hn : l.length = n) (i : Nat) (hi : i < n) : ∃ b o, a = some ⟨b, o, none⟩ ∧ w.cell? ⟨b, o + i, none⟩ = some (.int .u8 ((l.getD i 0).toNat : Int)) := by
  obtain ⟨a', cap, he, _, _, _, h3⟩ := hv
  simp only [Value.slice.injEq] at he
  obtain ⟨rfl, _, rfl⟩ := he
  rcases h3 with rfl | ⟨b, o, rfl, hc⟩
  · simp at hn; omega
  · exact ⟨b, o, rfl, hc i (by omega)⟩
set_option maxHeartbeats 1000000 in
theorem more_any (a : Option Addr) (n c : Nat) (l : List UInt8) (w : World) (hl : l.length = n) (hv : IsB w (.slice a n c) l) :
    Calls Tryz.prog 93 #[.int .u32 0, .slice a n c] w fun v w' => v = .returned (.int .u32 ((PK.crcP l : Nat) : Int)) ∧ w = w' := by
  have hx0 : bits .xor .u32 IntKind.u32.max 0 = 4294967295 := by decide
  have HL := Lib.hid hl
  have HV := Lib.hid (fun i hi => hv.at hl i hi)
  have HS := Lib.hid (fun (s c : Nat) (w : World) (hs : s < 4294967296) (hc : c < 256) => step_any s c w hs hc)
  have HB : Hid (n ≤ maxLen) := by rw [← hl]; exact hv.len
  have hn63 : (n : Int) ≤ 9223372036854775807 := by have := HB.out; simp only [maxLen] at this; omega
  clear hl hv
  go_enter Tryz.func93, Tryz.ntmps93
  go_wp2
  go_loop [0, 11] (fun v0 v1 => ∃ i : Nat, i ≤ n ∧ v1 = .int .i64 i ∧ v0 = .int .u32 ((PK.crcF 4294967295 (l.take i) : Nat) : Int)) (fun _ v1 => n - (intOf v1).toNat)
  case atStart => exact ⟨0, by omega, rfl, rfl⟩
  case round =>
    obtain ⟨i, hi, rfl, rfl⟩ := hrel
    by_cases hlt : i < n
    · have hti := PK.crcF_lt (l.take i) (s := 4294967295) (by decide)
      have hil : i < l.length := by rw [HL.out]; exact hlt
      have hsucc : PK.crcF 4294967295 (l.take (i + 1)) = PK.stepS (PK.crcF 4294967295 (l.take i)) (l.getD i 0).toNat := by
        rw [List.take_succ_eq_append_getElem hil, PK.crcF_snoc]; simp [List.getD_eq_getElem?_getD, hil]
      obtain ⟨b, o, rfl, hc⟩ := HV.out i hlt
      have hC := Lib.hid (HS.out (PK.crcF 4294967295 (l.take i)) (l.getD i 0).toNat w hti (l.getD i 0).toNat_lt)
      generalize PK.crcF 4294967295 (l.take i) = t at *
      generalize (l.getD i 0).toNat = y at *
      clear HS
      go_wp2_with fail
      refine hC.out.mono ?_
      rintro v w1 ⟨rfl, rfl⟩
      go_wp2
      exact ⟨⟨i + 1, hlt, by simp, by rw [hsucc]⟩, by simp [intOf]; omega⟩
    · obtain rfl : i = n := by omega
      have hti := PK.crcF_lt (l.take i) (s := 4294967295) (by decide)
      have hx : bits .xor .u32 IntKind.u32.max ((PK.crcF 4294967295 (l.take i) : Nat) : Int) = ((PK.crcP l : Nat) : Int) := by
        rw [show IntKind.u32.max = ((4294967295 : Nat) : Int) from by decide, u32_xor_nat _ _ (by decide) hti, PK.max_xor hti, List.take_of_length_le (by rw [HL.out]; exact Nat.le_refl _)]
        rfl
      generalize PK.crcF 4294967295 (l.take i) = t at *
      go_wp2
      go_ret
      exact ⟨rfl, rfl⟩
theorem sum_any (a : Option Addr) (n c : Nat) (l : List UInt8) (w : World) (hl : l.length = n) (hv : IsB w (.slice a n c) l) :
    Calls Tryz.prog 80 #[.slice a n c] w fun v w' => v = .returned (.int .u32 ((PK.crcP l : Nat) : Int)) ∧ w = w' := by
  have HM := Lib.hid (more_any a n c l w hl hv)
  clear hl hv
  go_enter Tryz.func80, Tryz.ntmps80
  go_wp2_with fail
  refine HM.out.mono ?_
  rintro v w1 ⟨rfl, rfl⟩
  go_wp2
  go_ret
  exact ⟨rfl, rfl⟩
theorem at8_tail (s : Nat) : at8 (PK.tailP s) 0 = (s : Int) % 256 ∧ at8 (PK.tailP s) 1 = (s : Int) / 256 % 256 ∧ at8 (PK.tailP s) 2 = (s : Int) / 65536 % 256 ∧ at8 (PK.tailP s) 3 = (s : Int) / 16777216 % 256 := by
  have h : ∀ d, d < 256 → (((UInt8.ofNat d).toNat : Nat) : Int) = (d : Int) := fun d hd => by rw [UInt8.toNat_ofNat']; omega
  refine ⟨(h (s % 256) (by omega)).trans (by omega), (h (s / 256 % 256) (by omega)).trans (by omega), (h (s / 65536 % 256) (by omega)).trans (by omega), (h (s / 16777216 % 256) (by omega)).trans (by omega)⟩
/-- Four bytes as an array. -/
def four (t : List UInt8) : Value := .agg #[.int .u8 (at8 t 0), .int .u8 (at8 t 1), .int .u8 (at8 t 2), .int .u8 (at8 t 3)]
theorem four_any (s : Nat) (w : World) (hs : s < 4294967296) :
    Calls Tryz.prog 79 #[.int .u32 s] w fun v w' => v = .returned (four (PK.tailP s)) ∧ Below w.heap.size w w' := by
  obtain ⟨t0, t1, t2, t3⟩ := at8_tail s
  unfold four
  rw [t0, t1, t2, t3]
  have h3 : (s : Int) / 16777216 % 256 = (s : Int) / 16777216 := by omega
  rw [h3]
  clear t0 t1 t2 t3 h3
  go_enter Tryz.func79, Tryz.ntmps79
  go_wp2
  go_returns
  refine ⟨rfl, ?_⟩
  go_grown
/-! ### The document's -/
set_option maxHeartbeats 2000000 in
theorem rsum_any (a : Option Addr) (n c : Nat) (l : List UInt8) (w : World) (hl : l.length = n) (hv : IsB w (.slice a n c) l) :
    Calls Tryz.prog 53 #[.slice a n c] w fun v w' => v = .returned (.int .u32 ((PK.crcP l : Nat) : Int)) ∧ Below w.heap.size w w' := by
  have HL := Lib.hid hl
  have HV := Lib.hid (fun W (b : Below w.heap.size w W) i hi => (hv.below b).at hl i hi)
  have HB : Hid (n ≤ maxLen) := by rw [← hl]; exact hv.len
  have hn63 : (n : Int) ≤ 9223372036854775807 := by have := HB.out; simp only [maxLen] at this; omega
  clear hl hv
  go_enter Tryz.func53, Tryz.ntmps53
  go_wp2
  go_loopw [3, 4] (fun v0 v1 W => ∃ i : Nat, i ≤ n ∧ v1 = .int .i64 i ∧ v0 = .int .u32 ((PK.crcF 4294967295 (l.take i) : Nat) : Int) ∧ Hid (Below w.heap.size w W)) (fun _ v1 _ => n - (intOf v1).toNat)
  case atStart => exact ⟨0, by omega, rfl, rfl, Lib.hid (Below.refl _ _)⟩
  case round =>
    obtain ⟨i, hi, rfl, rfl, B1⟩ := hrel
    by_cases hlt : i < n
    · have hti := PK.crcF_lt (l.take i) (s := 4294967295) (by decide)
      have hil : i < l.length := by rw [HL.out]; exact hlt
      have hsucc : PK.crcF 4294967295 (l.take (i + 1)) = PK.refBits (l.getD i 0).toNat 8 (PK.crcF 4294967295 (l.take i)) := by
        rw [List.take_succ_eq_append_getElem hil, PK.crcF_snoc, PK.step_ref _ _ (l[i].toNat_lt)]; simp [List.getD_eq_getElem?_getD, hil]
      have hy := (l.getD i 0).toNat_lt
      obtain ⟨b, o, rfl, _⟩ := HV.out _ B1.out i hlt
      have HC : Hid (∀ W, Below w.heap.size w W → W.cell? ⟨b, o + i, none⟩ = some (.int .u8 ((l.getD i 0).toNat : Int))) := fun W bw => by
        obtain ⟨b', o', e, h⟩ := HV.out W bw i hlt
        simp only [Option.some.injEq, Addr.mk.injEq] at e
        obtain ⟨rfl, rfl, _⟩ := e
        exact h
      have Hsucc := Lib.hid hsucc
      have Hti := Lib.hid hti
      have Hy := Lib.hid hy
      generalize PK.crcF 4294967295 (l.take i) = t at *
      generalize (l.getD i 0).toNat = y at *
      clear HV hsucc hil hti hy
      go_wp2
      go_loopw [3, 5] (fun v0 v1 W => ∃ k : Nat, k ≤ 8 ∧ v1 = .int .i64 k ∧ v0 = .int .u32 ((PK.refBits y k t : Nat) : Int) ∧ Hid (Below w.heap.size w W)) (fun _ v1 _ => 8 - (intOf v1).toNat)
      case atStart => exact ⟨0, by decide, rfl, rfl, B1⟩
      case round =>
        obtain ⟨k, hk, rfl, rfl, B2⟩ := hrel
        by_cases hlk : k < 8
        · have hc := HC.out _ B2.out
          have hc2 : (wr.alloc (.cells #[.int .u8 1, .int .u8 2, .int .u8 4, .int .u8 8, .int .u8 16, .int .u8 32, .int .u8 64, .int .u8 128] 5)).cell? ⟨b, o + i, none⟩ = some (.int .u8 (y : Int)) := by
            rw [World.cell?_alloc_lt _ _ _ (World.block_lt_of_cell? _ _ hc)]; exact hc
          have hr := PK.refBits_lt (c := y) Hti.out k
          have hs : PK.refBits y (k + 1) t = PK.refBit (PK.refBits y k t) (y / 2 ^ k % 2) := rfl
          have hy := Hy.out
          generalize PK.refBits y k t = s at *
          have h8 : k = 0 ∨ k = 1 ∨ k = 2 ∨ k = 3 ∨ k = 4 ∨ k = 5 ∨ k = 6 ∨ k = 7 := by omega
          clear hk hlk
          rcases h8 with rfl | rfl | rfl | rfl | rfl | rfl | rfl | rfl
          · have hz : y / 2 ^ 0 % 2 = y / 1 % 2 := rfl
            rw [hz] at hs
            by_cases hq : s % 2 ≠ y / 1 % 2
            · have ht : ((s : Int) % 2 != (y : Int) % 2) = true := by rw [bne_iff_ne]; omega
              have hrb : PK.refBit s (y / 1 % 2) = (s / 2) ^^^ PK.poly := if_pos hq
              have hx : bits .xor .u32 ((s : Int) / 2) 2197175160 = (((s / 2) ^^^ PK.poly : Nat) : Int) := by
                rw [show (s : Int) / 2 = ((s / 2 : Nat) : Int) from by omega, show (2197175160 : Int) = ((2197175160 : Nat) : Int) from rfl, u32_xor_nat _ _ (by omega) (by decide)]; rfl
              rw [hrb] at hs
              clear hrb hq
              go_wp2_with fail
              go_region
              go_wp2
              exact ⟨⟨1, by decide, by simp, by rw [hs], Lib.hid (B2.out.alloc B2.out.size _).drew⟩, by simp [intOf]⟩
            · have ht : ((s : Int) % 2 != (y : Int) % 2) = false := by rw [bne_eq_false_iff_eq]; omega
              have hrb : PK.refBit s (y / 1 % 2) = s / 2 := if_neg hq
              rw [hrb] at hs
              clear hrb hq
              go_wp2_with fail
              go_region
              go_wp2
              exact ⟨⟨1, by decide, by simp, by rw [hs]; simp, Lib.hid (B2.out.alloc B2.out.size _).drew⟩, by simp [intOf]⟩
          · have hz : y / 2 ^ 1 % 2 = y / 2 % 2 := rfl
            rw [hz] at hs
            by_cases hq : s % 2 ≠ y / 2 % 2
            · have ht : ((s : Int) % 2 != (y : Int) / 2 % 2) = true := by rw [bne_iff_ne]; omega
              have hrb : PK.refBit s (y / 2 % 2) = (s / 2) ^^^ PK.poly := if_pos hq
              have hx : bits .xor .u32 ((s : Int) / 2) 2197175160 = (((s / 2) ^^^ PK.poly : Nat) : Int) := by
                rw [show (s : Int) / 2 = ((s / 2 : Nat) : Int) from by omega, show (2197175160 : Int) = ((2197175160 : Nat) : Int) from rfl, u32_xor_nat _ _ (by omega) (by decide)]; rfl
              rw [hrb] at hs
              clear hrb hq
              go_wp2_with fail
              go_region
              go_wp2
              exact ⟨⟨2, by decide, by simp, by rw [hs], Lib.hid (B2.out.alloc B2.out.size _).drew⟩, by simp [intOf]⟩
            · have ht : ((s : Int) % 2 != (y : Int) / 2 % 2) = false := by rw [bne_eq_false_iff_eq]; omega
              have hrb : PK.refBit s (y / 2 % 2) = s / 2 := if_neg hq
              rw [hrb] at hs
              clear hrb hq
              go_wp2_with fail
              go_region
              go_wp2
              exact ⟨⟨2, by decide, by simp, by rw [hs]; simp, Lib.hid (B2.out.alloc B2.out.size _).drew⟩, by simp [intOf]⟩
          · have hz : y / 2 ^ 2 % 2 = y / 4 % 2 := rfl
            rw [hz] at hs
            by_cases hq : s % 2 ≠ y / 4 % 2
            · have ht : ((s : Int) % 2 != (y : Int) / 4 % 2) = true := by rw [bne_iff_ne]; omega
              have hrb : PK.refBit s (y / 4 % 2) = (s / 2) ^^^ PK.poly := if_pos hq
              have hx : bits .xor .u32 ((s : Int) / 2) 2197175160 = (((s / 2) ^^^ PK.poly : Nat) : Int) := by
                rw [show (s : Int) / 2 = ((s / 2 : Nat) : Int) from by omega, show (2197175160 : Int) = ((2197175160 : Nat) : Int) from rfl, u32_xor_nat _ _ (by omega) (by decide)]; rfl
              rw [hrb] at hs
              clear hrb hq
              go_wp2_with fail
              go_region
              go_wp2
              exact ⟨⟨3, by decide, by simp, by rw [hs], Lib.hid (B2.out.alloc B2.out.size _).drew⟩, by simp [intOf]⟩
            · have ht : ((s : Int) % 2 != (y : Int) / 4 % 2) = false := by rw [bne_eq_false_iff_eq]; omega
              have hrb : PK.refBit s (y / 4 % 2) = s / 2 := if_neg hq
              rw [hrb] at hs
              clear hrb hq
              go_wp2_with fail
              go_region
              go_wp2
              exact ⟨⟨3, by decide, by simp, by rw [hs]; simp, Lib.hid (B2.out.alloc B2.out.size _).drew⟩, by simp [intOf]⟩
          · have hz : y / 2 ^ 3 % 2 = y / 8 % 2 := rfl
            rw [hz] at hs
            by_cases hq : s % 2 ≠ y / 8 % 2
            · have ht : ((s : Int) % 2 != (y : Int) / 8 % 2) = true := by rw [bne_iff_ne]; omega
              have hrb : PK.refBit s (y / 8 % 2) = (s / 2) ^^^ PK.poly := if_pos hq
              have hx : bits .xor .u32 ((s : Int) / 2) 2197175160 = (((s / 2) ^^^ PK.poly : Nat) : Int) := by
                rw [show (s : Int) / 2 = ((s / 2 : Nat) : Int) from by omega, show (2197175160 : Int) = ((2197175160 : Nat) : Int) from rfl, u32_xor_nat _ _ (by omega) (by decide)]; rfl
              rw [hrb] at hs
              clear hrb hq
              go_wp2_with fail
              go_region
              go_wp2
              exact ⟨⟨4, by decide, by simp, by rw [hs], Lib.hid (B2.out.alloc B2.out.size _).drew⟩, by simp [intOf]⟩
            · have ht : ((s : Int) % 2 != (y : Int) / 8 % 2) = false := by rw [bne_eq_false_iff_eq]; omega
              have hrb : PK.refBit s (y / 8 % 2) = s / 2 := if_neg hq
              rw [hrb] at hs
              clear hrb hq
              go_wp2_with fail
              go_region
              go_wp2
              exact ⟨⟨4, by decide, by simp, by rw [hs]; simp, Lib.hid (B2.out.alloc B2.out.size _).drew⟩, by simp [intOf]⟩
          · have hz : y / 2 ^ 4 % 2 = y / 16 % 2 := rfl
            rw [hz] at hs
            by_cases hq : s % 2 ≠ y / 16 % 2
            · have ht : ((s : Int) % 2 != (y : Int) / 16 % 2) = true := by rw [bne_iff_ne]; omega
              have hrb : PK.refBit s (y / 16 % 2) = (s / 2) ^^^ PK.poly := if_pos hq
              have hx : bits .xor .u32 ((s : Int) / 2) 2197175160 = (((s / 2) ^^^ PK.poly : Nat) : Int) := by
                rw [show (s : Int) / 2 = ((s / 2 : Nat) : Int) from by omega, show (2197175160 : Int) = ((2197175160 : Nat) : Int) from rfl, u32_xor_nat _ _ (by omega) (by decide)]; rfl
              rw [hrb] at hs
              clear hrb hq
              go_wp2_with fail
              go_region
              go_wp2
              exact ⟨⟨5, by decide, by simp, by rw [hs], Lib.hid (B2.out.alloc B2.out.size _).drew⟩, by simp [intOf]⟩
            · have ht : ((s : Int) % 2 != (y : Int) / 16 % 2) = false := by rw [bne_eq_false_iff_eq]; omega
              have hrb : PK.refBit s (y / 16 % 2) = s / 2 := if_neg hq
              rw [hrb] at hs
              clear hrb hq
              go_wp2_with fail
              go_region
              go_wp2
              exact ⟨⟨5, by decide, by simp, by rw [hs]; simp, Lib.hid (B2.out.alloc B2.out.size _).drew⟩, by simp [intOf]⟩
          · have hz : y / 2 ^ 5 % 2 = y / 32 % 2 := rfl
            rw [hz] at hs
            by_cases hq : s % 2 ≠ y / 32 % 2
            · have ht : ((s : Int) % 2 != (y : Int) / 32 % 2) = true := by rw [bne_iff_ne]; omega
              have hrb : PK.refBit s (y / 32 % 2) = (s / 2) ^^^ PK.poly := if_pos hq
              have hx : bits .xor .u32 ((s : Int) / 2) 2197175160 = (((s / 2) ^^^ PK.poly : Nat) : Int) := by
                rw [show (s : Int) / 2 = ((s / 2 : Nat) : Int) from by omega, show (2197175160 : Int) = ((2197175160 : Nat) : Int) from rfl, u32_xor_nat _ _ (by omega) (by decide)]; rfl
              rw [hrb] at hs
              clear hrb hq
              go_wp2_with fail
              go_region
              go_wp2
              exact ⟨⟨6, by decide, by simp, by rw [hs], Lib.hid (B2.out.alloc B2.out.size _).drew⟩, by simp [intOf]⟩
            · have ht : ((s : Int) % 2 != (y : Int) / 32 % 2) = false := by rw [bne_eq_false_iff_eq]; omega
              have hrb : PK.refBit s (y / 32 % 2) = s / 2 := if_neg hq
              rw [hrb] at hs
              clear hrb hq
              go_wp2_with fail
              go_region
              go_wp2
              exact ⟨⟨6, by decide, by simp, by rw [hs]; simp, Lib.hid (B2.out.alloc B2.out.size _).drew⟩, by simp [intOf]⟩
          · have hz : y / 2 ^ 6 % 2 = y / 64 % 2 := rfl
            rw [hz] at hs
            by_cases hq : s % 2 ≠ y / 64 % 2
            · have ht : ((s : Int) % 2 != (y : Int) / 64 % 2) = true := by rw [bne_iff_ne]; omega
              have hrb : PK.refBit s (y / 64 % 2) = (s / 2) ^^^ PK.poly := if_pos hq
              have hx : bits .xor .u32 ((s : Int) / 2) 2197175160 = (((s / 2) ^^^ PK.poly : Nat) : Int) := by
                rw [show (s : Int) / 2 = ((s / 2 : Nat) : Int) from by omega, show (2197175160 : Int) = ((2197175160 : Nat) : Int) from rfl, u32_xor_nat _ _ (by omega) (by decide)]; rfl
              rw [hrb] at hs
              clear hrb hq
              go_wp2_with fail
              go_region
              go_wp2
              exact ⟨⟨7, by decide, by simp, by rw [hs], Lib.hid (B2.out.alloc B2.out.size _).drew⟩, by simp [intOf]⟩
            · have ht : ((s : Int) % 2 != (y : Int) / 64 % 2) = false := by rw [bne_eq_false_iff_eq]; omega
              have hrb : PK.refBit s (y / 64 % 2) = s / 2 := if_neg hq
              rw [hrb] at hs
              clear hrb hq
              go_wp2_with fail
              go_region
              go_wp2
              exact ⟨⟨7, by decide, by simp, by rw [hs]; simp, Lib.hid (B2.out.alloc B2.out.size _).drew⟩, by simp [intOf]⟩
          · have hz : y / 2 ^ 7 % 2 = y / 128 % 2 := rfl
            rw [hz] at hs
            by_cases hq : s % 2 ≠ y / 128 % 2
            · have ht : ((s : Int) % 2 != (y : Int) / 128 % 2) = true := by rw [bne_iff_ne]; omega
              have hrb : PK.refBit s (y / 128 % 2) = (s / 2) ^^^ PK.poly := if_pos hq
              have hx : bits .xor .u32 ((s : Int) / 2) 2197175160 = (((s / 2) ^^^ PK.poly : Nat) : Int) := by
                rw [show (s : Int) / 2 = ((s / 2 : Nat) : Int) from by omega, show (2197175160 : Int) = ((2197175160 : Nat) : Int) from rfl, u32_xor_nat _ _ (by omega) (by decide)]; rfl
              rw [hrb] at hs
              clear hrb hq
              go_wp2_with fail
              go_region
              go_wp2
              exact ⟨⟨8, by decide, by simp, by rw [hs], Lib.hid (B2.out.alloc B2.out.size _).drew⟩, by simp [intOf]⟩
            · have ht : ((s : Int) % 2 != (y : Int) / 128 % 2) = false := by rw [bne_eq_false_iff_eq]; omega
              have hrb : PK.refBit s (y / 128 % 2) = s / 2 := if_neg hq
              rw [hrb] at hs
              clear hrb hq
              go_wp2_with fail
              go_region
              go_wp2
              exact ⟨⟨8, by decide, by simp, by rw [hs]; simp, Lib.hid (B2.out.alloc B2.out.size _).drew⟩, by simp [intOf]⟩
        · obtain rfl : k = 8 := by omega
          go_wp2
          exact ⟨⟨i + 1, hlt, by simp, by rw [Hsucc.out], B2⟩, by simp [intOf]; omega⟩
    · obtain rfl : i = n := by omega
      have hti := PK.crcF_lt (l.take i) (s := 4294967295) (by decide)
      have hc : (4294967295 : Int) - ((PK.crcF 4294967295 (l.take i) : Nat) : Int) = ((PK.crcP l : Nat) : Int) := by
        rw [List.take_of_length_le (by rw [HL.out]; exact Nat.le_refl _)] at hti ⊢
        unfold PK.crcP; omega
      generalize PK.crcF 4294967295 (l.take i) = t at *
      go_wp2
      go_ret
      exact ⟨rfl, B1.out⟩
end Go.Proofs.YtbgockggbpmhnaaGreatDoor

