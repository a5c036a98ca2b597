/-
  tollbarlaw01.sure by a contract: it answers true.
  Conditions: the listed variables read as listed ('Env').
-/
import Derived.Test.YtincbeipfgbfpaaDoorWr2
import Derived.Test.YtincbeipfgbfpaaDoorRd5
import Derived.Lib.SlBytesConst
namespace Go.Proofs.YtincbeipfgbfpaaDoor
open Go Go.RowKit

/-- Four constant bytes in a block of their own, marked. -/
theorem isB_lit (w : World) (cs : Array Value) (l : List UInt8) (h : cs = (bvs l).toArray) (e : TypeId) (z : Nat × Nat) (hl : l.length ≤ maxLen) : IsB (w.alloc (.cells cs e z)) (.slice (some ⟨w.heap.size, 0, none⟩) l.length l.length) l :=
  ⟨_, l.length, rfl, Nat.le_refl _, hl, (fun h => by cases h), .inr ⟨w.heap.size, 0, rfl, fun i hi => by
    rw [Nat.zero_add]
    refine Eq.trans (World.cell?_alloc_mark w _ e _ i) ?_
    rw [h, List.getElem?_toArray, bvs_get l i hi]⟩⟩

set_option maxRecDepth 100000 in
/-- Behind Done: the text read back. -/
theorem sure_tail (w0 w : World) (B : Nat) (hE : Env w) (hB : B ≤ w.heap.size) (b : Below B w0 w) :
    Calls Tryd.prog 9 #[.slice (some ⟨w.heap.size, 0, none⟩) 4 4] (w.alloc (.cells #[.int .u8 105, .int .u8 45, .int .u8 55, .int .u8 59] 5 (4, 5))) fun e w' =>
      e = .returned (.pointer (some ⟨w.heap.size + 1, 0, none⟩)) ∧ Calls Tryd.prog 10 #[.pointer (some ⟨w.heap.size + 1, 0, none⟩)] w' fun v w'' => v = .returned (.int .i64 (-7)) ∧ Below B w0 w'' := by
  have hE1 : Env (w.alloc (.cells #[.int .u8 105, .int .u8 45, .int .u8 55, .int .u8 59] 5 (4, 5))) := hE.below ((Below.refl _ _).alloc (Nat.le_refl _) _)
  refine (read_any _ 4 [105, 45, 55, 59] _ hE1 (isB_lit w _ [105, 45, 55, 59] rfl _ _ (by simp [maxLen]))).mono ?_
  rintro e w1 ⟨rfl, hr, b1⟩
  have hsz : (w.alloc (.cells #[.int .u8 105, .int .u8 45, .int .u8 55, .int .u8 59] 5 (4, 5))).heap.size = w.heap.size + 1 := by simp
  rw [hsz] at hr b1 ⊢
  refine ⟨rfl, (int_any _ _ _ w1 (hE1.below (by rw [hsz]; exact b1)) hr).mono ?_⟩
  rintro v w2 ⟨rfl, _, f2⟩
  have b2 : Below B w1 w2 := ⟨f2.os, f2.tape, f2.output, f2.size, fun k hk => f2.block k (by have := hr.lt; omega) (by omega)⟩
  have ba : Below B w0 (w.alloc (.cells #[.int .u8 105, .int .u8 45, .int .u8 55, .int .u8 59] 5 (4, 5))) := b.alloc hB _
  refine ⟨?_, (ba.trans (b1.mono (by omega))).trans b2⟩
  have : (PK.intP [105, 45, 55, 59] 0).1 = -7 := by decide
  rw [this]

set_option maxRecDepth 100000 in
set_option maxHeartbeats 2000000 in
theorem sure_any (w : World) (hE : Env w) :
    Calls Tryd.prog 16 #[] w fun e w' => e = .returned (.bool true) ∧ Below w.heap.size w w' := by
  have H1 := Lib.hid (new_any w hE)
  have H2 : Hid (∀ w1, Wr w1 w.heap.size w.heap.size [] → Below w.heap.size w w1 → Calls Tryd.prog 18 #[.pointer (some ⟨w.heap.size, 0, none⟩), .int .u64 300] w1 fun e w' => e = .returned (.pointer (some ⟨w.heap.size, 0, none⟩)) ∧ Wr w' w.heap.size w.heap.size [110, 51, 48, 48, 59] ∧ Below w.heap.size w w') := by
    intro w1 h1 b1
    have hd : Lib.decDigits 300 = [51, 48, 48] := by rw [Lib.decDigits, dif_neg (by decide), Lib.decDigits_two (by decide) (by decide)]; rfl
    refine (wuint_any _ _ [] 300 w1 h1 (by decide) (by rw [hd]; simp [roomB]) (hE.below b1)).mono ?_
    rintro e w2 ⟨rfl, h2, b2⟩
    rw [hd] at h2
    exact ⟨rfl, h2, b1.trans b2⟩
  have H3 : Hid (∀ w1, Wr w1 w.heap.size w.heap.size [110, 51, 48, 48, 59] → Below w.heap.size w w1 → Calls Tryd.prog 43 #[.pointer (some ⟨w.heap.size, 0, none⟩), .bool true] w1 fun e w' => e = .returned (.pointer (some ⟨w.heap.size, 0, none⟩)) ∧ Wr w' w.heap.size w.heap.size [110, 51, 48, 48, 59, 121] ∧ Below w.heap.size w w') := by
    intro w1 h1 b1
    refine (wbool_any _ _ _ true w1 h1 (by simp [roomB])).mono ?_
    rintro e w2 ⟨rfl, h2, b2⟩
    exact ⟨rfl, h2, b1.trans b2⟩
  have H4 : Hid (∀ w1, Wr w1 w.heap.size w.heap.size [110, 51, 48, 48, 59, 121] → Below w.heap.size w w1 → Calls Tryd.prog 44 #[.pointer (some ⟨w.heap.size, 0, none⟩), .string ⟨#[97, 98]⟩] w1 fun e w' => e = .returned (.pointer (some ⟨w.heap.size, 0, none⟩)) ∧ Wr w' w.heap.size w.heap.size [110, 51, 48, 48, 59, 121, 116, 50, 58, 97, 98] ∧ Below w.heap.size w w') := by
    intro w1 h1 b1
    have hd : Lib.itoa ((⟨#[97, 98]⟩ : ByteArray).size : Int) = [50] := (Lib.itoa_nonneg 2).trans (Lib.decDigits_one (by decide))
    refine (wtext_any _ _ _ ⟨#[97, 98]⟩ w1 h1 (by decide) (by rw [hd]; decide) (hE.below b1)).mono ?_
    rintro e w2 ⟨rfl, h2, b2⟩
    rw [hd] at h2
    exact ⟨rfl, h2, b1.trans b2⟩
  have H5 : Hid (∀ w1, Wr w1 w.heap.size w.heap.size [110, 51, 48, 48, 59, 121, 116, 50, 58, 97, 98] → Below w.heap.size w w1 → Calls Tryd.prog 24 #[.pointer (some ⟨w.heap.size, 0, none⟩)] w1 fun e w' =>
      (∃ a c, e = .returned (.slice a 11 c) ∧ (convert 22 9 (.slice a 11 c)).run Tryd.prog w' = .ok (.string ⟨#[110, 51, 48, 48, 59, 121, 116, 50, 58, 97, 98]⟩) w') ∧ Env w' ∧ Below w.heap.size w w') := by
    intro w1 h1 b1
    refine (wdone_any _ _ _ w1 h1 (by simp [roomB])).mono ?_
    rintro e w2 ⟨⟨a, c, rfl, o, _⟩, b2⟩
    have b3 : Below w.heap.size w w2 := b1.trans (b2.mono b1.size)
    exact ⟨⟨a, c, rfl, run_toStr T22 U9 o.isB⟩, hE.below b3, b3⟩
  have H6 := Lib.hid (fun w1 (h : Env w1) (b : Below w.heap.size w w1) => sure_tail w w1 w.heap.size h b.size b)
  have kc := fun (w : World) (C : Array Value) (n c : Nat) => Lib.run_convert_bytes_const (P := Tryd.prog) w 22 5 C n c Tryd.underlying22 Tryd.underlying5
  clear hE
  go_enter Tryd.func16, Tryd.ntmps16
  go_wp2_with fail
  refine H1.out.mono ?_
  rintro v w1 ⟨rfl, h1, b1⟩
  have K2 := Lib.hid (H2.out w1 h1 b1)
  clear H1 H2 h1 b1
  go_wp2_with fail
  refine K2.out.mono ?_
  rintro v w2 ⟨rfl, h2, b2⟩
  have K3 := Lib.hid (H3.out w2 h2 b2)
  clear K2 H3 h2 b2
  go_wp2_with fail
  refine K3.out.mono ?_
  rintro v w3 ⟨rfl, h3, b3⟩
  have K4 := Lib.hid (H4.out w3 h3 b3)
  clear K3 H4 h3 b3
  go_wp2_with fail
  refine K4.out.mono ?_
  rintro v w4 ⟨rfl, h4, b4⟩
  have K5 := Lib.hid (H5.out w4 h4 b4)
  clear K4 H5 h4 b4
  go_wp2_with fail
  refine K5.out.mono ?_
  rintro v w5 ⟨⟨a5, c5, rfl, e5⟩, h5, b5⟩
  have K6 := Lib.hid (H6.out w5 h5 b5)
  clear K5 H6 h5 b5
  go_wp2_with fail
  refine K6.out.mono ?_
  rintro v w6 ⟨rfl, h6⟩
  have K7 := Lib.hid h6
  clear K6 h6
  go_wp2_with fail
  refine K7.out.mono ?_
  rintro v w7 ⟨rfl, b7⟩
  have K8 := Lib.hid b7
  clear K7 b7
  go_wp2
  go_ret
  exact ⟨rfl, K8.out⟩
end Go.Proofs.YtincbeipfgbfpaaDoor
