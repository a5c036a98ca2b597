/-
  Seal of the program and of the document, by contracts.
  Conditions: what is sealed reads as bytes.
-/
import Derived.Test.YtbgockggbpmhnaaGreatDoorSeal
import Derived.Test.YtbgockggbpmhnaaGreatDoorEntR2
namespace Go.Proofs.YtbgockggbpmhnaaGreatDoor
open Go Go.RowKit

theorem own_row (w : World) (t : List UInt8) (cs : Array Value) (e : TypeId) (hm : t.length ≤ maxLen) (hc : ∀ i, i < t.length → cs[i]? = some (.int .u8 (at8 t i))) :
    OwnB (w.alloc (.cells cs e)) (.slice (some ⟨w.heap.size, 0, none⟩) t.length t.length) t := by
  refine .inr ⟨w.heap.size, 0, t.length, rfl, Nat.le_refl _, hm, by simp, fun i hi => ?_, fun j hj => ⟨?_, ?_⟩⟩
  · rw [Nat.zero_add, World.cell?_alloc_new]; exact hc i hi
  · rw [Nat.zero_add, World.cell?_alloc_new, hc j hj]; rfl
  · exact World.frozen?_alloc_new w _ _ _
theorem own_one (w : World) (c : UInt8) (e : TypeId) : OwnB (w.alloc (.cells #[.int .u8 (c.toNat : Int)] e)) (.slice (some ⟨w.heap.size, 0, none⟩) 1 1) [c] :=
  own_row w [c] _ e (by simp [maxLen]) (fun i hi => by
    obtain rfl : i = 0 := by simpa using hi
    rfl)
theorem own_tail (w : World) (s : Nat) (e : TypeId) : OwnB (w.alloc (.cells #[.int .u8 (at8 (PK.tailP s) 0), .int .u8 (at8 (PK.tailP s) 1), .int .u8 (at8 (PK.tailP s) 2), .int .u8 (at8 (PK.tailP s) 3)] e)) (.slice (some ⟨w.heap.size, 0, none⟩) 4 4) (PK.tailP s) :=
  own_row w (PK.tailP s) _ e (by simp [PK.tail_len, maxLen]) (fun i hi => by
    have h4 : i = 0 ∨ i = 1 ∨ i = 2 ∨ i = 3 := by rw [PK.tail_len] at hi; omega
    rcases h4 with rfl | rfl | rfl | rfl <;> rfl)
theorem rtail_w (s : Nat) (w : World) (hs : s < 4294967296) :
    Calls Tryz.prog 52 #[.int .u32 s] w fun e w' => RW w w' e (PK.tailP s) := by
  have HO := Lib.hid (own_tail w s 5)
  obtain ⟨t0, t1, t2, t3⟩ := at8_tail s
  rw [t0, t1, t2, t3] at HO
  have h3 : (s : Int) / 16777216 % 256 = (s : Int) / 16777216 := by omega
  rw [h3] at HO
  clear t0 t1 t2 t3
  go_enter Tryz.func52, Tryz.ntmps52
  go_wp2
  go_ret
  exact ⟨⟨_, _, _, rfl, PK.tail_len s, HO.out, fun b hb => by simp [Value.ownBlock] at hb; omega⟩, (Below.refl _ _).alloc (Nat.le_refl _) _⟩

/-- What Seal hands back. -/
def SealR (er : Nat → Value) (w w' : World) (e : Ending) (l : List UInt8) : Prop :=
  ((1048576 < l.length ∧ e = .returned (.tuple #[.slice none 0 0, er 2])) ∨ (¬ 1048576 < l.length ∧ ∃ a n c, e = .returned (.tuple #[.slice a n c, er 0]) ∧ Hid (HoldB w.heap.size w' a n c (PK.sealP 109 l)))) ∧ Below w.heap.size w w'
theorem isB_ext {w : World} {v : Value} {l m : List UInt8} (h : IsB w v l) (e : l = m) : IsB w v m := e ▸ h
set_option maxRecDepth 100000 in
set_option maxHeartbeats 2000000 in
theorem seal_any (a : Option Addr) (n c : Nat) (l : List UInt8) (w : World) (hl : l.length = n) (hv : IsB w (.slice a n c) l) :
    Calls Tryz.prog 56 #[.int .u8 109, .slice a n c] w fun e w' => SealR errV w w' e l := by
  by_cases hbig : 1048576 < n
  · have hb : (1048576 : Int) < (n : Int) := by omega
    have HR : Hid (SealR errV w w (.returned (.tuple #[.slice none 0 0, .iface 60 (.int .i64 2)])) l) := Lib.hid ⟨.inl ⟨by omega, rfl⟩, Below.refl _ _⟩
    clear hbig hl hv
    go_enter Tryz.func56, Tryz.ntmps56
    go_wp2
    go_ret2
    exact HR.out
  · have hb : ¬ ((1048576 : Int) < (n : Int)) := by omega
    have Hbig : Hid (¬ 1048576 < l.length) := by rw [hl]; exact hbig
    have Hn : Hid (n ≤ 1048576) := Nat.not_lt.1 hbig
    have Hl := Lib.hid hl
    have O0 : Hid (OwnB (w.alloc (.cells #[.int .u8 109] 5)) (.slice (some ⟨w.heap.size, 0, none⟩) 1 1) [109]) := own_one w 109 5
    have S0 : Hid (SrcB Tryz.prog 22 (w.alloc (.cells #[.int .u8 109] 5)) (.slice a n c) l) := srcB_of Tryz.underlying22 (hv.alloc _)
    have HS := Lib.hid (fun (a : Option Addr) (n c : Nat) (W : World) (hl : (109 :: l : List UInt8).length = n) (hv : IsB W (.slice a n c) (109 :: l)) => sum_any a n c (109 :: l) W hl hv)
    have HF := Lib.hid (fun (W : World) => four_any (PK.crcP (109 :: l)) W (PK.crcP_lt _))
    have HT := Lib.hid (fun (W : World) => own_tail W (PK.crcP (109 :: l)) 137)
    have Hseal : Hid (PK.sealP 109 l = (109 :: l) ++ PK.tailP (PK.crcP (109 :: l))) := Lib.hid rfl
    unfold four at HF
    generalize PK.crcP (109 :: l) = s at *
    clear hbig hl hv
    go_enter Tryz.func56, Tryz.ntmps56
    go_wp2_with (at_builtin; refine wpList_appN rfl (.tmp 18) (.tmp 19) rfl T22 (v := .slice (some ⟨w.heap.size, 0, none⟩) 1 1) (n := 1) (m := n) rfl Hl.out rfl O0.out rfl S0.out (by have := Hn.out; simp only [roomB]; omega) ?_; intro a1 c1 w1 o1 g1 b1; have O1 := Lib.hid o1; have B1 := Lib.hid b1; have G1 := Lib.hid g1; clear o1 b1 g1)
    refine (HS.out a1 (1 + n) c1 w1 (by have := Hl.out; simp; omega) O1.out.isB).mono ?_
    rintro e w2 ⟨rfl, rfl⟩
    go_wp2_with fail
    refine (HF.out w1).mono ?_
    rintro e w2 ⟨rfl, b2⟩
    have hsz : (w.alloc (.cells #[.int .u8 109] 5)).heap.size = w.heap.size + 1 := by simp
    have X1 : ∀ b, Value.ownBlock (.slice a1 (1 + n) c1) = some b → w.heap.size ≤ b := by
      intro b hb
      rcases B1.out with e | ⟨g, rfl, hg⟩
      · rw [e] at hb; simp [Value.ownBlock] at hb; omega
      · rw [hsz] at hg; simp [Value.ownBlock] at hb; omega
    have F1 : Below w.heap.size w w1 := by
      have f := ((Fr.refl (fun k => w.heap.size ≤ k) w).alloc (.cells #[.int .u8 109] 5)).trans (G1.out.mono (fun k _ hk => by simp [Value.ownBlock] at hk; omega))
      exact ⟨f.os, f.tape, f.output, f.size, fun k hk => f.block k hk (by omega)⟩
    have F2 : Hid (Below w.heap.size w w2) := F1.trans (b2.mono F1.size)
    have O2 := Lib.hid (O1.out.kept (X := fun _ => False) (Fr.of_below b2) (fun _ _ x => x))
    have HX1 := Lib.hid X1
    clear X1 F1 b2 HS HF O0 S0 B1 G1 hsz
    go_wp2_with (at_builtin; refine wpList_appN rfl (.tmp 24) (.tmp 25) rfl T22 (v := .slice a1 (1 + n) c1) (n := 1 + n) (m := 4) (by have := Hl.out; simp; omega) (PK.tail_len s) rfl (O2.out.alloc _) rfl (srcB_of Tryz.underlying22 (HT.out w2).isB) (by have := Hn.out; simp only [roomB]; omega) ?_; intro a3 c3 w3 o3 g3 b3; have O3 := Lib.hid o3; have B3 := Lib.hid b3; have G3 := Lib.hid g3; clear o3 b3 g3)
    go_ret2
    refine ⟨.inr ⟨Hbig.out, a3, _, c3, rfl, Lib.hid ⟨?_, ?_, ?_⟩⟩, ?_⟩
    · rw [Hseal.out]; have := Hl.out; simp [PK.tail_len]; omega
    · rw [Hseal.out]; exact O3.out
    · intro b hb
      rcases B3.out with e | ⟨g, rfl, hg⟩
      · rw [e] at hb; exact HX1.out b hb
      · have := F2.out.size; simp [Value.ownBlock] at hb hg; omega
    · have f : Fr (fun k => w.heap.size ≤ k) w w3 := ((Fr.of_below F2.out).alloc _).trans (G3.out.mono (fun k _ hk => HX1.out k hk))
      exact ⟨f.os, f.tape, f.output, f.size, fun k hk => f.block k hk (by omega)⟩
set_option maxRecDepth 100000 in
set_option maxHeartbeats 2000000 in
theorem rseal_any (a : Option Addr) (n c : Nat) (l : List UInt8) (w : World) (hl : l.length = n) (hv : IsB w (.slice a n c) l) :
    Calls Tryz.prog 19 #[.int .u8 109, .slice a n c] w fun e w' => SealR intV w w' e l := by
  by_cases hbig : 1048576 < n
  · have hb : (1048576 : Int) < (n : Int) := by omega
    have HR : Hid (SealR intV w w (.returned (.tuple #[.slice none 0 0, .int .i64 2])) l) := Lib.hid ⟨.inl ⟨by omega, rfl⟩, Below.refl _ _⟩
    clear hbig hl hv
    go_enter Tryz.func19, Tryz.ntmps19
    go_wp2
    go_ret2
    exact HR.out
  · have hb : ¬ ((1048576 : Int) < (n : Int)) := by omega
    have Hbig : Hid (¬ 1048576 < l.length) := by rw [hl]; exact hbig
    have Hn : Hid (n ≤ 1048576) := Nat.not_lt.1 hbig
    have Hl := Lib.hid hl
    have HV := Lib.hid hv
    have S0 : Hid (SrcB Tryz.prog 22 (w.alloc (.cells #[.int .u8 109] 5)) (.slice (some ⟨w.heap.size, 0, none⟩) 1 1) [109]) := srcB_of Tryz.underlying22 (own_one w 109 5).isB
    have HS := Lib.hid (fun (a : Option Addr) (n c : Nat) (W : World) (hl : (109 :: l : List UInt8).length = n) (hv : IsB W (.slice a n c) (109 :: l)) => rsum_any a n c (109 :: l) W hl hv)
    have HF := Lib.hid (fun (W : World) => rtail_w (PK.crcP (109 :: l)) W (PK.crcP_lt _))
    have Hseal : Hid (PK.sealP 109 l = (109 :: l) ++ PK.tailP (PK.crcP (109 :: l))) := Lib.hid rfl
    generalize PK.crcP (109 :: l) = s at *
    clear hbig hl hv
    go_enter Tryz.func19, Tryz.ntmps19
    go_wp2_with (first
      | (at_builtin; refine wpList_appN rfl (.tmp 12) (.tmp 14) rfl T22 (v := .slice none 0 0) (n := 0) (m := 1) rfl rfl rfl (OwnB.nil _) rfl S0.out (by simp only [roomB]; omega) ?_; intro a1 c1 w1 o1 g1 b1; have O1 := Lib.hid o1; have B1 := Lib.hid b1
         have G1 : Hid (Fr (fun _ => False) w w1) := ((Fr.refl _ w).alloc _).trans (g1.mono (fun k _ hk => nomatch hk))
         have S1 : Hid (SrcB Tryz.prog 22 w1 (.slice a n c) l) := srcB_of Tryz.underlying22 (HV.out.kept G1.out (fun _ _ x => x))
         clear o1 b1 g1)
      | (at_builtin; refine wpList_appN rfl (.tmp 15) (.tmp 16) rfl T22 (v := .slice a1 (0 + 1) c1) (n := 0 + 1) (m := n) rfl Hl.out rfl O1.out rfl S1.out (by have := Hn.out; simp only [roomB]; omega) ?_; intro a2 c2 w2 o2 g2 b2; have O2 := Lib.hid o2; have B2 := Lib.hid b2; have G2 := Lib.hid g2; clear o2 b2 g2))
    refine (HS.out a2 (0 + 1 + n) c2 w2 (by have := Hl.out; simp; omega) O2.out.isB).mono ?_
    rintro e w3 ⟨rfl, f3⟩
    have X1 : ∀ b, Value.ownBlock (.slice a1 (0 + 1) c1) = some b → w.heap.size ≤ b := by
      intro b hb
      rcases B1.out with e | ⟨g, rfl, hg⟩
      · rw [e] at hb; simp [Value.ownBlock] at hb
      · simp [Value.ownBlock] at hb hg; omega
    have X2 : ∀ b, Value.ownBlock (.slice a2 (0 + 1 + n) c2) = some b → w.heap.size ≤ b := by
      intro b hb
      rcases B2.out with e | ⟨g, rfl, hg⟩
      · rw [e] at hb; exact X1 b hb
      · have := G1.out.size; simp [Value.ownBlock] at hb; omega
    have F2 : Below w.heap.size w w2 := by
      have f := (G1.out.mono (Y := fun k => w.heap.size ≤ k) (fun k _ hk => nomatch hk)).trans (G2.out.mono (fun k _ hk => X1 k hk))
      exact ⟨f.os, f.tape, f.output, f.size, fun k hk => f.block k hk (by omega)⟩
    have F3 : Hid (Below w.heap.size w w3) := F2.trans (f3.mono F2.size)
    have O3 := Lib.hid (O2.out.kept (X := fun _ => False) (Fr.of_below f3) (fun _ _ x => x))
    have HX := Lib.hid X2
    clear X1 X2 F2 f3 HS O1 B1 S0 S1 G1 O2 B2 G2
    go_wp2_with fail
    refine (HF.out w3).mono ?_
    rintro e w4 ⟨⟨a4, n4, c4, rfl, hn4, o4, x4⟩, f4⟩
    have F4 : Hid (Below w.heap.size w w4) := F3.out.trans (f4.mono F3.out.size)
    have O4 := Lib.hid (O3.out.kept (X := fun _ => False) (Fr.of_below f4) (fun _ _ x => x))
    rw [PK.tail_len] at hn4
    subst hn4
    have S4 : Hid (SrcB Tryz.prog 22 w4 (.slice a4 4 c4) (PK.tailP s)) := srcB_of Tryz.underlying22 o4.isB
    clear f4 o4 x4 F3 O3 HF
    go_wp2_with (at_builtin; refine wpList_appN rfl (.tmp 18) (.tmp 21) rfl T22 (v := .slice a2 (0 + 1 + n) c2) (n := 0 + 1 + n) (m := 4) (by have := Hl.out; simp; omega) (PK.tail_len s) rfl O4.out rfl S4.out (by have := Hn.out; simp only [roomB]; omega) ?_; intro a5 c5 w5 o5 g5 b5; have O5 := Lib.hid o5; have B5 := Lib.hid b5; have G5 := Lib.hid g5; clear o5 b5 g5)
    go_ret2
    refine ⟨.inr ⟨Hbig.out, a5, _, c5, rfl, Lib.hid ⟨?_, ?_, ?_⟩⟩, ?_⟩
    · rw [Hseal.out]; have := Hl.out; simp [PK.tail_len]; omega
    · rw [Hseal.out]; exact O5.out
    · intro b hb
      rcases B5.out with e | ⟨g, rfl, hg⟩
      · rw [e] at hb; exact HX.out b hb
      · have := F4.out.size; simp [Value.ownBlock] at hb; omega
    · have f : Fr (fun k => w.heap.size ≤ k) w w5 := (Fr.of_below F4.out).trans (G5.out.mono (fun k _ hk => HX.out k hk))
      exact ⟨f.os, f.tape, f.output, f.size, fun k hk => f.block k hk (by omega)⟩
end Go.Proofs.YtbgockggbpmhnaaGreatDoor
