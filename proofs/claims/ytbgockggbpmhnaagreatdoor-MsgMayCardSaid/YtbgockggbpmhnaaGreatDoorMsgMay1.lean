/-
  THE LAW 'MsgMay' (tollbarlaw11): for every message it answers true and leaves what came in as it was: the given row, and the card that ties the row's listed variables to the program's text.
  Conditions: the given row's own, no other.
-/
import Derived.Test.YtbgockggbpmhnaaGreatDoorCards
import Derived.Test.YtbgockggbpmhnaaGreatDoorTie
import Derived.Test.YtbgockggbpmhnaaGreatDoorMsgW
import Derived.WalkKit
import Derived.ProofKit
import Derived.OpenShut
import Derived.ChangeOld
import Derived.Below
import Derived.Carry
import Derived.Deep.DeepHandedRow
import Derived.SevenTiedAt
namespace Go.Proofs.YtbgockggbpmhnaaGreatDoor
open Go Go.RowKit

set_option maxRecDepth 100000 in
set_option maxHeartbeats 8000000 in
theorem msgMay_any (x : RM) (w : World) (hE : Env w) (hf : x.Fit w) (hd : x.dn ≤ roomB) (hb : ∀ y ∈ x.es, y.n ≤ roomB) :
    Calls Tryz.prog 6 #[x.val] w fun e w' => e = .returned (.bool true) ∧ Below w.heap.size w w' := by
  have HL := Lib.hid (fun (V : World) (b : Below w.heap.size w V) => longMsg_any x V (hf.below b) hb)
  have HSu := Lib.hid (fun (V : World) (b : Below w.heap.size w V) => sure_any V (hE.below b))
  have hshort : x.long = false → x.en ≤ 1000 := fun h => by
    unfold RM.long at h
    rw [Bool.or_eq_false_iff] at h
    have := (longE_no h.2).1
    have h2 := hf.ents.len.1
    omega
  have HG := Lib.hid (fun (V : World) (b : Below w.heap.size w V) (hn : x.en ≤ 1000) => giveMsg_any x V (hf.below b) hn hd hb)
  have HC := Lib.hid (fun (V : World) (y : RM) (hy : y.Fit V) => check_any y V hy)
  have HM := Lib.hid (fun (V : World) (b : Below w.heap.size w V) => rmay_any x V (hf.below b))
  have HSh := Lib.hid hshort
  generalize x.long = LG at *
  obtain ⟨kd, fr, to, tm, ix, lt, cm, ro, ok, off, da, dn, dc, d, ea, en, ec, es⟩ := x
  obtain ⟨msg, hmsg⟩ : ∃ m, m = RM.msg ⟨kd, fr, to, tm, ix, lt, cm, ro, ok, off, da, dn, dc, d, ea, en, ec, es⟩ := ⟨_, rfl⟩
  rw [← hmsg] at HG HM
  simp only [RM.val] at HL HG HM ⊢
  clear hE hf hd hb hshort hmsg
  obtain ⟨Wa, hWa⟩ : ∃ W, W = w.alloc (.cells #[.int .i64 kd, .int .i64 fr, .int .i64 to, .int .i64 tm, .int .i64 ix, .int .i64 lt, .int .i64 cm, .int .i64 ro, .bool ok, .int .i64 off, .slice da dn dc, .slice ea en ec] 25) := ⟨_, rfl⟩
  have gA : Wa.heap[w.heap.size]? = some (.cells #[.int .i64 kd, .int .i64 fr, .int .i64 to, .int .i64 tm, .int .i64 ix, .int .i64 lt, .int .i64 cm, .int .i64 ro, .bool ok, .int .i64 off, .slice da dn dc, .slice ea en ec] 25) := by rw [hWa]; exact heap_alloc_new _ _
  obtain ⟨⟨p0, p1, p2, p3, p4, p5, p6, p7, p8, p9, pa, pb⟩, _⟩ := cells12 gA
  have hBa : Hid (Below w.heap.size w Wa) := Lib.hid (by rw [hWa]; exact (Below.refl _ _).alloc (Nat.le_refl _) _)
  have hsz : Hid (Wa.heap.size = w.heap.size + 1) := Lib.hid (by rw [hWa]; simp)
  have cont : Hid (∀ V, Below (w.heap.size + 1) Wa V → (Hid (Below (w.heap.size + 1) Wa V) ∧ V.cell? ⟨w.heap.size, 0, none⟩ = some (.int .i64 kd) ∧ V.cell? ⟨w.heap.size, 1, none⟩ = some (.int .i64 fr) ∧ V.cell? ⟨w.heap.size, 2, none⟩ = some (.int .i64 to) ∧ V.cell? ⟨w.heap.size, 3, none⟩ = some (.int .i64 tm) ∧ V.cell? ⟨w.heap.size, 4, none⟩ = some (.int .i64 ix) ∧ V.cell? ⟨w.heap.size, 5, none⟩ = some (.int .i64 lt) ∧ V.cell? ⟨w.heap.size, 6, none⟩ = some (.int .i64 cm) ∧ V.cell? ⟨w.heap.size, 7, none⟩ = some (.int .i64 ro) ∧ V.cell? ⟨w.heap.size, 8, none⟩ = some (.bool ok) ∧ V.cell? ⟨w.heap.size, 9, none⟩ = some (.int .i64 off) ∧ V.cell? ⟨w.heap.size, 10, none⟩ = some (.slice da dn dc) ∧ V.cell? ⟨w.heap.size, 11, none⟩ = some (.slice ea en ec))) := fun V h => by
    have hk := h.block w.heap.size (by omega)
    exact ⟨Lib.hid h, (World.cell?_of_block hk).trans p0, (World.cell?_of_block hk).trans p1, (World.cell?_of_block hk).trans p2, (World.cell?_of_block hk).trans p3, (World.cell?_of_block hk).trans p4, (World.cell?_of_block hk).trans p5, (World.cell?_of_block hk).trans p6, (World.cell?_of_block hk).trans p7, (World.cell?_of_block hk).trans p8, (World.cell?_of_block hk).trans p9, (World.cell?_of_block hk).trans pa, (World.cell?_of_block hk).trans pb⟩
  have fin : Hid (∀ V, (Hid (Below (w.heap.size + 1) Wa V) ∧ V.cell? ⟨w.heap.size, 0, none⟩ = some (.int .i64 kd) ∧ V.cell? ⟨w.heap.size, 1, none⟩ = some (.int .i64 fr) ∧ V.cell? ⟨w.heap.size, 2, none⟩ = some (.int .i64 to) ∧ V.cell? ⟨w.heap.size, 3, none⟩ = some (.int .i64 tm) ∧ V.cell? ⟨w.heap.size, 4, none⟩ = some (.int .i64 ix) ∧ V.cell? ⟨w.heap.size, 5, none⟩ = some (.int .i64 lt) ∧ V.cell? ⟨w.heap.size, 6, none⟩ = some (.int .i64 cm) ∧ V.cell? ⟨w.heap.size, 7, none⟩ = some (.int .i64 ro) ∧ V.cell? ⟨w.heap.size, 8, none⟩ = some (.bool ok) ∧ V.cell? ⟨w.heap.size, 9, none⟩ = some (.int .i64 off) ∧ V.cell? ⟨w.heap.size, 10, none⟩ = some (.slice da dn dc) ∧ V.cell? ⟨w.heap.size, 11, none⟩ = some (.slice ea en ec)) → Below w.heap.size w V) := fun V h => hBa.out.trans (h.1.out.mono (Nat.le_succ _))
  have step : Hid (∀ V V', (Hid (Below (w.heap.size + 1) Wa V) ∧ V.cell? ⟨w.heap.size, 0, none⟩ = some (.int .i64 kd) ∧ V.cell? ⟨w.heap.size, 1, none⟩ = some (.int .i64 fr) ∧ V.cell? ⟨w.heap.size, 2, none⟩ = some (.int .i64 to) ∧ V.cell? ⟨w.heap.size, 3, none⟩ = some (.int .i64 tm) ∧ V.cell? ⟨w.heap.size, 4, none⟩ = some (.int .i64 ix) ∧ V.cell? ⟨w.heap.size, 5, none⟩ = some (.int .i64 lt) ∧ V.cell? ⟨w.heap.size, 6, none⟩ = some (.int .i64 cm) ∧ V.cell? ⟨w.heap.size, 7, none⟩ = some (.int .i64 ro) ∧ V.cell? ⟨w.heap.size, 8, none⟩ = some (.bool ok) ∧ V.cell? ⟨w.heap.size, 9, none⟩ = some (.int .i64 off) ∧ V.cell? ⟨w.heap.size, 10, none⟩ = some (.slice da dn dc) ∧ V.cell? ⟨w.heap.size, 11, none⟩ = some (.slice ea en ec)) → Below V.heap.size V V' → (Hid (Below (w.heap.size + 1) Wa V') ∧ V'.cell? ⟨w.heap.size, 0, none⟩ = some (.int .i64 kd) ∧ V'.cell? ⟨w.heap.size, 1, none⟩ = some (.int .i64 fr) ∧ V'.cell? ⟨w.heap.size, 2, none⟩ = some (.int .i64 to) ∧ V'.cell? ⟨w.heap.size, 3, none⟩ = some (.int .i64 tm) ∧ V'.cell? ⟨w.heap.size, 4, none⟩ = some (.int .i64 ix) ∧ V'.cell? ⟨w.heap.size, 5, none⟩ = some (.int .i64 lt) ∧ V'.cell? ⟨w.heap.size, 6, none⟩ = some (.int .i64 cm) ∧ V'.cell? ⟨w.heap.size, 7, none⟩ = some (.int .i64 ro) ∧ V'.cell? ⟨w.heap.size, 8, none⟩ = some (.bool ok) ∧ V'.cell? ⟨w.heap.size, 9, none⟩ = some (.int .i64 off) ∧ V'.cell? ⟨w.heap.size, 10, none⟩ = some (.slice da dn dc) ∧ V'.cell? ⟨w.heap.size, 11, none⟩ = some (.slice ea en ec))) := fun V V' h b => cont.out V' (h.1.out.trans (b.mono (by have := h.1.out.size; have := hsz.out; omega)))
  have C9 : Hid (∀ V, (Hid (Below (w.heap.size + 1) Wa V) ∧ V.cell? ⟨w.heap.size, 0, none⟩ = some (.int .i64 kd) ∧ V.cell? ⟨w.heap.size, 1, none⟩ = some (.int .i64 fr) ∧ V.cell? ⟨w.heap.size, 2, none⟩ = some (.int .i64 to) ∧ V.cell? ⟨w.heap.size, 3, none⟩ = some (.int .i64 tm) ∧ V.cell? ⟨w.heap.size, 4, none⟩ = some (.int .i64 ix) ∧ V.cell? ⟨w.heap.size, 5, none⟩ = some (.int .i64 lt) ∧ V.cell? ⟨w.heap.size, 6, none⟩ = some (.int .i64 cm) ∧ V.cell? ⟨w.heap.size, 7, none⟩ = some (.int .i64 ro) ∧ V.cell? ⟨w.heap.size, 8, none⟩ = some (.bool ok) ∧ V.cell? ⟨w.heap.size, 9, none⟩ = some (.int .i64 off) ∧ V.cell? ⟨w.heap.size, 10, none⟩ = some (.slice da dn dc) ∧ V.cell? ⟨w.heap.size, 11, none⟩ = some (.slice ea en ec)) → Calls Tryz.prog 9 #[.agg #[.int .i64 kd, .int .i64 fr, .int .i64 to, .int .i64 tm, .int .i64 ix, .int .i64 lt, .int .i64 cm, .int .i64 ro, .bool ok, .int .i64 off, .slice da dn dc, .slice ea en ec]] V fun e w' => e = .returned (.bool LG) ∧ (Hid (Below (w.heap.size + 1) Wa w') ∧ w'.cell? ⟨w.heap.size, 0, none⟩ = some (.int .i64 kd) ∧ w'.cell? ⟨w.heap.size, 1, none⟩ = some (.int .i64 fr) ∧ w'.cell? ⟨w.heap.size, 2, none⟩ = some (.int .i64 to) ∧ w'.cell? ⟨w.heap.size, 3, none⟩ = some (.int .i64 tm) ∧ w'.cell? ⟨w.heap.size, 4, none⟩ = some (.int .i64 ix) ∧ w'.cell? ⟨w.heap.size, 5, none⟩ = some (.int .i64 lt) ∧ w'.cell? ⟨w.heap.size, 6, none⟩ = some (.int .i64 cm) ∧ w'.cell? ⟨w.heap.size, 7, none⟩ = some (.int .i64 ro) ∧ w'.cell? ⟨w.heap.size, 8, none⟩ = some (.bool ok) ∧ w'.cell? ⟨w.heap.size, 9, none⟩ = some (.int .i64 off) ∧ w'.cell? ⟨w.heap.size, 10, none⟩ = some (.slice da dn dc) ∧ w'.cell? ⟨w.heap.size, 11, none⟩ = some (.slice ea en ec))) := fun V h => (HL.out V (fin.out V h)).mono fun e w' ⟨e1, e2⟩ => ⟨e1, step.out V w' h e2⟩
  have C10 : Hid (∀ V, (Hid (Below (w.heap.size + 1) Wa V) ∧ V.cell? ⟨w.heap.size, 0, none⟩ = some (.int .i64 kd) ∧ V.cell? ⟨w.heap.size, 1, none⟩ = some (.int .i64 fr) ∧ V.cell? ⟨w.heap.size, 2, none⟩ = some (.int .i64 to) ∧ V.cell? ⟨w.heap.size, 3, none⟩ = some (.int .i64 tm) ∧ V.cell? ⟨w.heap.size, 4, none⟩ = some (.int .i64 ix) ∧ V.cell? ⟨w.heap.size, 5, none⟩ = some (.int .i64 lt) ∧ V.cell? ⟨w.heap.size, 6, none⟩ = some (.int .i64 cm) ∧ V.cell? ⟨w.heap.size, 7, none⟩ = some (.int .i64 ro) ∧ V.cell? ⟨w.heap.size, 8, none⟩ = some (.bool ok) ∧ V.cell? ⟨w.heap.size, 9, none⟩ = some (.int .i64 off) ∧ V.cell? ⟨w.heap.size, 10, none⟩ = some (.slice da dn dc) ∧ V.cell? ⟨w.heap.size, 11, none⟩ = some (.slice ea en ec)) → Calls Tryz.prog 10 #[] V fun e w' => e = .returned (.bool true) ∧ (Hid (Below (w.heap.size + 1) Wa w') ∧ w'.cell? ⟨w.heap.size, 0, none⟩ = some (.int .i64 kd) ∧ w'.cell? ⟨w.heap.size, 1, none⟩ = some (.int .i64 fr) ∧ w'.cell? ⟨w.heap.size, 2, none⟩ = some (.int .i64 to) ∧ w'.cell? ⟨w.heap.size, 3, none⟩ = some (.int .i64 tm) ∧ w'.cell? ⟨w.heap.size, 4, none⟩ = some (.int .i64 ix) ∧ w'.cell? ⟨w.heap.size, 5, none⟩ = some (.int .i64 lt) ∧ w'.cell? ⟨w.heap.size, 6, none⟩ = some (.int .i64 cm) ∧ w'.cell? ⟨w.heap.size, 7, none⟩ = some (.int .i64 ro) ∧ w'.cell? ⟨w.heap.size, 8, none⟩ = some (.bool ok) ∧ w'.cell? ⟨w.heap.size, 9, none⟩ = some (.int .i64 off) ∧ w'.cell? ⟨w.heap.size, 10, none⟩ = some (.slice da dn dc) ∧ w'.cell? ⟨w.heap.size, 11, none⟩ = some (.slice ea en ec))) := fun V h => (HSu.out V (fin.out V h)).mono fun e w' ⟨e1, e2⟩ => ⟨e1, step.out V w' h e2⟩
  have S0 := cont.out Wa.drew (Below.refl _ _).drew
  cases LG with
  | true =>
    clear HL HSu HG HC HM HSh cont gA p0 p1 p2 p3 p4 p5 p6 p7 p8 p9 pa pb
    go_enter Tryz.func6, Tryz.ntmps6
    go_wp2_with fail
    rw [← hWa]
    clear hWa
    refine wp_region_noPanic ?_
    refine wp_region_held_drew (S := fun V => (Hid (Below (w.heap.size + 1) Wa V) ∧ V.cell? ⟨w.heap.size, 0, none⟩ = some (.int .i64 kd) ∧ V.cell? ⟨w.heap.size, 1, none⟩ = some (.int .i64 fr) ∧ V.cell? ⟨w.heap.size, 2, none⟩ = some (.int .i64 to) ∧ V.cell? ⟨w.heap.size, 3, none⟩ = some (.int .i64 tm) ∧ V.cell? ⟨w.heap.size, 4, none⟩ = some (.int .i64 ix) ∧ V.cell? ⟨w.heap.size, 5, none⟩ = some (.int .i64 lt) ∧ V.cell? ⟨w.heap.size, 6, none⟩ = some (.int .i64 cm) ∧ V.cell? ⟨w.heap.size, 7, none⟩ = some (.int .i64 ro) ∧ V.cell? ⟨w.heap.size, 8, none⟩ = some (.bool ok) ∧ V.cell? ⟨w.heap.size, 9, none⟩ = some (.int .i64 off) ∧ V.cell? ⟨w.heap.size, 10, none⟩ = some (.slice da dn dc) ∧ V.cell? ⟨w.heap.size, 11, none⟩ = some (.slice ea en ec))) (by kernel_rfl) S0 (fun hHeld => ?_)
    refine wpAnyH_take (i := 0) (v := ?hvx0) (List.getElem?_toArray.trans rfl) (by kernel_rfl) (by kernel_rfl) (by kernel_rfl) (fun _ _ _ h => h) (Or.inl ⟨by rfl, ?hyx0⟩) (by assumption) ?hrx0
    case hyx0 => (intro wt hSw; (try dsimp only at hSw); go_simp; try (with_reducible rfl))
    try simp only [Act.put, List.setIfInBounds_toArray, List.set_cons_zero, List.set_cons_succ]
    refine wpAnyH_ready (rs := [1]) (by kernel_rfl) (by simp) ?_
    refine AllReadyH.cons (List.getElem?_toArray.trans rfl) (fun K hK => ?_) AllReadyH.nil
    go_simp
    go_at_call 9
    refine (C9.out _ ?_).mono ?_
    assumption
    rintro e v1 ⟨rfl, k1⟩
    clear C9
    try (go_wp2_with fail)
    refine hK.out _ _ ?_ (fun hHeld => ?_)
    · (try dsimp only)
      assumption
    clear hK K
    try simp only [Act.put, List.setIfInBounds_toArray, List.set_cons_zero, List.set_cons_succ]
    refine wpAnyH_take (i := 2) (v := ?hvx2) (List.getElem?_toArray.trans rfl) (by kernel_rfl) (by kernel_rfl) (by kernel_rfl) (fun _ _ _ h => h) (Or.inl ⟨by rfl, ?hyx2⟩) (by assumption) ?hrx2
    case hyx2 => (intro wt hSw; (try dsimp only at hSw); go_simp; try (with_reducible rfl))
    try simp only [Act.put, List.setIfInBounds_toArray, List.set_cons_zero, List.set_cons_succ]
    refine wpAnyH_ready (rs := [3]) (by kernel_rfl) (by simp) ?_
    refine AllReadyH.cons (List.getElem?_toArray.trans rfl) (fun K hK => ?_) AllReadyH.nil
    go_simp
    go_at_call 10
    refine (C10.out _ ?_).mono ?_
    assumption
    rintro e v2 ⟨rfl, k2⟩
    clear C10
    try (go_wp2_with fail)
    refine hK.out _ _ ?_ (fun hHeld => ?_)
    · (try dsimp only)
      assumption
    clear hK K
    try simp only [Act.put, List.setIfInBounds_toArray, List.set_cons_zero, List.set_cons_succ]
    refine wpAnyH_take (i := 4) (v := ?hvx4) (List.getElem?_toArray.trans rfl) (by kernel_rfl) (by kernel_rfl) (by kernel_rfl) (fun _ _ _ h => h) (Or.inl ⟨by rfl, ?hyx4⟩) (by assumption) ?hrx4
    case hyx4 => (intro wt hSw; (try dsimp only at hSw); go_simp; try (with_reducible rfl))
    try simp only [Act.put, List.setIfInBounds_toArray, List.set_cons_zero, List.set_cons_succ]
    refine wpAnyH_take (i := 5) (v := ?hvx5) (List.getElem?_toArray.trans rfl) (by kernel_rfl) (by kernel_rfl) (by kernel_rfl) (fun _ _ _ h => h) (Or.inl ⟨by rfl, ?hyx5⟩) (by assumption) ?hrx5
    case hyx5 => (intro wt hSw; (try dsimp only at hSw); go_simp; try (with_reducible rfl))
    try simp only [Act.put, List.setIfInBounds_toArray, List.set_cons_zero, List.set_cons_succ]
    refine wpAnyH_take (i := 6) (v := undef) (List.getElem?_toArray.trans rfl) (by kernel_rfl) (by kernel_rfl) (by kernel_rfl) (fun _ _ _ h => h) (Or.inr ⟨by rfl, rfl⟩) (by assumption) ?_
    try simp only [Act.put, List.setIfInBounds_toArray, List.set_cons_zero, List.set_cons_succ]
    refine wpAnyH_take (i := 7) (v := undef) (List.getElem?_toArray.trans rfl) (by kernel_rfl) (by kernel_rfl) (by kernel_rfl) (fun _ _ _ h => h) (Or.inr ⟨by rfl, rfl⟩) (by assumption) ?_
    try simp only [Act.put, List.setIfInBounds_toArray, List.set_cons_zero, List.set_cons_succ]
    refine wpAnyH_take (i := 8) (v := undef) (List.getElem?_toArray.trans rfl) (by kernel_rfl) (by kernel_rfl) (by kernel_rfl) (fun _ _ _ h => h) (Or.inr ⟨by rfl, rfl⟩) (by assumption) ?_
    try simp only [Act.put, List.setIfInBounds_toArray, List.set_cons_zero, List.set_cons_succ]
    refine wpAnyH_take (i := 9) (v := undef) (List.getElem?_toArray.trans rfl) (by kernel_rfl) (by kernel_rfl) (by kernel_rfl) (fun _ _ _ h => h) (Or.inr ⟨by rfl, rfl⟩) (by assumption) ?_
    try simp only [Act.put, List.setIfInBounds_toArray, List.set_cons_zero, List.set_cons_succ]
    refine wpAnyH_take (i := 10) (v := undef) (List.getElem?_toArray.trans rfl) (by kernel_rfl) (by kernel_rfl) (by kernel_rfl) (fun _ _ _ h => h) (Or.inr ⟨by rfl, rfl⟩) (by assumption) ?_
    try simp only [Act.put, List.setIfInBounds_toArray, List.set_cons_zero, List.set_cons_succ]
    refine wpAnyH_take (i := 11) (v := undef) (List.getElem?_toArray.trans rfl) (by kernel_rfl) (by kernel_rfl) (by kernel_rfl) (fun _ _ _ h => h) (Or.inr ⟨by rfl, rfl⟩) (by assumption) ?_
    try simp only [Act.put, List.setIfInBounds_toArray, List.set_cons_zero, List.set_cons_succ]
    refine wpAnyH_take (i := 12) (v := undef) (List.getElem?_toArray.trans rfl) (by kernel_rfl) (by kernel_rfl) (by kernel_rfl) (fun _ _ _ h => h) (Or.inr ⟨by rfl, rfl⟩) (by assumption) ?_
    try simp only [Act.put, List.setIfInBounds_toArray, List.set_cons_zero, List.set_cons_succ]
    refine wpAnyH_take (i := 13) (v := undef) (List.getElem?_toArray.trans rfl) (by kernel_rfl) (by kernel_rfl) (by kernel_rfl) (fun _ _ _ h => h) (Or.inr ⟨by rfl, rfl⟩) (by assumption) ?_
    try simp only [Act.put, List.setIfInBounds_toArray, List.set_cons_zero, List.set_cons_succ]
    refine wpAnyH_take (i := 14) (v := undef) (List.getElem?_toArray.trans rfl) (by kernel_rfl) (by kernel_rfl) (by kernel_rfl) (fun _ _ _ h => h) (Or.inr ⟨by rfl, rfl⟩) (by assumption) ?_
    try simp only [Act.put, List.setIfInBounds_toArray, List.set_cons_zero, List.set_cons_succ]
    refine wpAnyH_take (i := 15) (v := undef) (List.getElem?_toArray.trans rfl) (by kernel_rfl) (by kernel_rfl) (by kernel_rfl) (fun _ _ _ h => h) (Or.inr ⟨by rfl, rfl⟩) (by assumption) ?_
    try simp only [Act.put, List.setIfInBounds_toArray, List.set_cons_zero, List.set_cons_succ]
    refine wpAnyH_take (i := 16) (v := ?hvx16) (List.getElem?_toArray.trans rfl) (by kernel_rfl) (by kernel_rfl) (by kernel_rfl) (fun _ _ _ h => h) (Or.inl ⟨by rfl, ?hyx16⟩) (by assumption) ?hrx16
    case hyx16 => (intro wt hSw; (try dsimp only at hSw); go_simp; try (with_reducible rfl))
    try simp only [Act.put, List.setIfInBounds_toArray, List.set_cons_zero, List.set_cons_succ]
    refine wpAnyH_take (i := 17) (v := ?hvx17) (List.getElem?_toArray.trans rfl) (by kernel_rfl) (by kernel_rfl) (by kernel_rfl) (fun _ _ _ h => h) (Or.inl ⟨by rfl, ?hyx17⟩) (by assumption) ?hrx17
    case hyx17 => (intro wt hSw; (try dsimp only at hSw); go_simp; try (with_reducible rfl))
    try simp only [Act.put, List.setIfInBounds_toArray, List.set_cons_zero, List.set_cons_succ]
    refine wpAnyH_done (by kernel_rfl) ?_ _
    refine NoPanic.normal ?_
    go_wp2
    go_ret
    exact ⟨rfl, fin.out _ (by assumption)⟩
  | false =>
    have hen := HSh.out rfl
    have C14 : Hid (∀ V, (Hid (Below (w.heap.size + 1) Wa V) ∧ V.cell? ⟨w.heap.size, 0, none⟩ = some (.int .i64 kd) ∧ V.cell? ⟨w.heap.size, 1, none⟩ = some (.int .i64 fr) ∧ V.cell? ⟨w.heap.size, 2, none⟩ = some (.int .i64 to) ∧ V.cell? ⟨w.heap.size, 3, none⟩ = some (.int .i64 tm) ∧ V.cell? ⟨w.heap.size, 4, none⟩ = some (.int .i64 ix) ∧ V.cell? ⟨w.heap.size, 5, none⟩ = some (.int .i64 lt) ∧ V.cell? ⟨w.heap.size, 6, none⟩ = some (.int .i64 cm) ∧ V.cell? ⟨w.heap.size, 7, none⟩ = some (.int .i64 ro) ∧ V.cell? ⟨w.heap.size, 8, none⟩ = some (.bool ok) ∧ V.cell? ⟨w.heap.size, 9, none⟩ = some (.int .i64 off) ∧ V.cell? ⟨w.heap.size, 10, none⟩ = some (.slice da dn dc) ∧ V.cell? ⟨w.heap.size, 11, none⟩ = some (.slice ea en ec)) → Calls Tryz.prog 14 #[.agg #[.int .i64 kd, .int .i64 fr, .int .i64 to, .int .i64 tm, .int .i64 ix, .int .i64 lt, .int .i64 cm, .int .i64 ro, .bool ok, .int .i64 off, .slice da dn dc, .slice ea en ec]] V fun e w' => (∃ y : RM, e = .returned y.val ∧ Hid (y.Fit w' ∧ y.msg = msg)) ∧ (Hid (Below (w.heap.size + 1) Wa w') ∧ w'.cell? ⟨w.heap.size, 0, none⟩ = some (.int .i64 kd) ∧ w'.cell? ⟨w.heap.size, 1, none⟩ = some (.int .i64 fr) ∧ w'.cell? ⟨w.heap.size, 2, none⟩ = some (.int .i64 to) ∧ w'.cell? ⟨w.heap.size, 3, none⟩ = some (.int .i64 tm) ∧ w'.cell? ⟨w.heap.size, 4, none⟩ = some (.int .i64 ix) ∧ w'.cell? ⟨w.heap.size, 5, none⟩ = some (.int .i64 lt) ∧ w'.cell? ⟨w.heap.size, 6, none⟩ = some (.int .i64 cm) ∧ w'.cell? ⟨w.heap.size, 7, none⟩ = some (.int .i64 ro) ∧ w'.cell? ⟨w.heap.size, 8, none⟩ = some (.bool ok) ∧ w'.cell? ⟨w.heap.size, 9, none⟩ = some (.int .i64 off) ∧ w'.cell? ⟨w.heap.size, 10, none⟩ = some (.slice da dn dc) ∧ w'.cell? ⟨w.heap.size, 11, none⟩ = some (.slice ea en ec))) := fun V h => (HG.out V (fin.out V h) hen).mono fun e w' ⟨⟨y, e1, e2, e3⟩, e4⟩ => ⟨⟨y, e1, Lib.hid ⟨e2, e3⟩⟩, step.out V w' h e4⟩
    have C13 : Hid (∀ V (y : RM), (Hid (Below (w.heap.size + 1) Wa V) ∧ V.cell? ⟨w.heap.size, 0, none⟩ = some (.int .i64 kd) ∧ V.cell? ⟨w.heap.size, 1, none⟩ = some (.int .i64 fr) ∧ V.cell? ⟨w.heap.size, 2, none⟩ = some (.int .i64 to) ∧ V.cell? ⟨w.heap.size, 3, none⟩ = some (.int .i64 tm) ∧ V.cell? ⟨w.heap.size, 4, none⟩ = some (.int .i64 ix) ∧ V.cell? ⟨w.heap.size, 5, none⟩ = some (.int .i64 lt) ∧ V.cell? ⟨w.heap.size, 6, none⟩ = some (.int .i64 cm) ∧ V.cell? ⟨w.heap.size, 7, none⟩ = some (.int .i64 ro) ∧ V.cell? ⟨w.heap.size, 8, none⟩ = some (.bool ok) ∧ V.cell? ⟨w.heap.size, 9, none⟩ = some (.int .i64 off) ∧ V.cell? ⟨w.heap.size, 10, none⟩ = some (.slice da dn dc) ∧ V.cell? ⟨w.heap.size, 11, none⟩ = some (.slice ea en ec)) → Hid (y.Fit V ∧ y.msg = msg) → Calls Tryz.prog 13 #[y.val] V fun e w' => e = .returned (errV (if PK.mayM msg then 0 else 1)) ∧ (Hid (Below (w.heap.size + 1) Wa w') ∧ w'.cell? ⟨w.heap.size, 0, none⟩ = some (.int .i64 kd) ∧ w'.cell? ⟨w.heap.size, 1, none⟩ = some (.int .i64 fr) ∧ w'.cell? ⟨w.heap.size, 2, none⟩ = some (.int .i64 to) ∧ w'.cell? ⟨w.heap.size, 3, none⟩ = some (.int .i64 tm) ∧ w'.cell? ⟨w.heap.size, 4, none⟩ = some (.int .i64 ix) ∧ w'.cell? ⟨w.heap.size, 5, none⟩ = some (.int .i64 lt) ∧ w'.cell? ⟨w.heap.size, 6, none⟩ = some (.int .i64 cm) ∧ w'.cell? ⟨w.heap.size, 7, none⟩ = some (.int .i64 ro) ∧ w'.cell? ⟨w.heap.size, 8, none⟩ = some (.bool ok) ∧ w'.cell? ⟨w.heap.size, 9, none⟩ = some (.int .i64 off) ∧ w'.cell? ⟨w.heap.size, 10, none⟩ = some (.slice da dn dc) ∧ w'.cell? ⟨w.heap.size, 11, none⟩ = some (.slice ea en ec))) := fun V y h hy => (HC.out V y hy.out.1).mono fun e w' ⟨e1, e2⟩ => ⟨by rw [hy.out.2] at e1; exact e1, step.out V w' h e2⟩
    have C15 : Hid (∀ V, (Hid (Below (w.heap.size + 1) Wa V) ∧ V.cell? ⟨w.heap.size, 0, none⟩ = some (.int .i64 kd) ∧ V.cell? ⟨w.heap.size, 1, none⟩ = some (.int .i64 fr) ∧ V.cell? ⟨w.heap.size, 2, none⟩ = some (.int .i64 to) ∧ V.cell? ⟨w.heap.size, 3, none⟩ = some (.int .i64 tm) ∧ V.cell? ⟨w.heap.size, 4, none⟩ = some (.int .i64 ix) ∧ V.cell? ⟨w.heap.size, 5, none⟩ = some (.int .i64 lt) ∧ V.cell? ⟨w.heap.size, 6, none⟩ = some (.int .i64 cm) ∧ V.cell? ⟨w.heap.size, 7, none⟩ = some (.int .i64 ro) ∧ V.cell? ⟨w.heap.size, 8, none⟩ = some (.bool ok) ∧ V.cell? ⟨w.heap.size, 9, none⟩ = some (.int .i64 off) ∧ V.cell? ⟨w.heap.size, 10, none⟩ = some (.slice da dn dc) ∧ V.cell? ⟨w.heap.size, 11, none⟩ = some (.slice ea en ec)) → Calls Tryz.prog 15 #[.agg #[.int .i64 kd, .int .i64 fr, .int .i64 to, .int .i64 tm, .int .i64 ix, .int .i64 lt, .int .i64 cm, .int .i64 ro, .bool ok, .int .i64 off, .slice da dn dc, .slice ea en ec]] V fun e w' => e = .returned (.bool (decide (PK.mayM msg))) ∧ (Hid (Below (w.heap.size + 1) Wa w') ∧ w'.cell? ⟨w.heap.size, 0, none⟩ = some (.int .i64 kd) ∧ w'.cell? ⟨w.heap.size, 1, none⟩ = some (.int .i64 fr) ∧ w'.cell? ⟨w.heap.size, 2, none⟩ = some (.int .i64 to) ∧ w'.cell? ⟨w.heap.size, 3, none⟩ = some (.int .i64 tm) ∧ w'.cell? ⟨w.heap.size, 4, none⟩ = some (.int .i64 ix) ∧ w'.cell? ⟨w.heap.size, 5, none⟩ = some (.int .i64 lt) ∧ w'.cell? ⟨w.heap.size, 6, none⟩ = some (.int .i64 cm) ∧ w'.cell? ⟨w.heap.size, 7, none⟩ = some (.int .i64 ro) ∧ w'.cell? ⟨w.heap.size, 8, none⟩ = some (.bool ok) ∧ w'.cell? ⟨w.heap.size, 9, none⟩ = some (.int .i64 off) ∧ w'.cell? ⟨w.heap.size, 10, none⟩ = some (.slice da dn dc) ∧ w'.cell? ⟨w.heap.size, 11, none⟩ = some (.slice ea en ec))) := fun V h => (HM.out V (fin.out V h)).mono fun e w' ⟨e1, e2⟩ => ⟨e1, step.out V w' h e2⟩
    clear HL HSu HG HC HM HSh cont gA hen p0 p1 p2 p3 p4 p5 p6 p7 p8 p9 pa pb
    by_cases hmay : PK.mayM msg
    · rw [if_pos hmay] at C13
      rw [decide_eq_true hmay] at C15
      clear hmay
      simp only [errV] at C13
      go_enter Tryz.func6, Tryz.ntmps6
      go_wp2_with fail
      rw [← hWa]
      clear hWa
      refine wp_region_noPanic ?_
      refine wp_region_held_drew (S := fun V => (Hid (Below (w.heap.size + 1) Wa V) ∧ V.cell? ⟨w.heap.size, 0, none⟩ = some (.int .i64 kd) ∧ V.cell? ⟨w.heap.size, 1, none⟩ = some (.int .i64 fr) ∧ V.cell? ⟨w.heap.size, 2, none⟩ = some (.int .i64 to) ∧ V.cell? ⟨w.heap.size, 3, none⟩ = some (.int .i64 tm) ∧ V.cell? ⟨w.heap.size, 4, none⟩ = some (.int .i64 ix) ∧ V.cell? ⟨w.heap.size, 5, none⟩ = some (.int .i64 lt) ∧ V.cell? ⟨w.heap.size, 6, none⟩ = some (.int .i64 cm) ∧ V.cell? ⟨w.heap.size, 7, none⟩ = some (.int .i64 ro) ∧ V.cell? ⟨w.heap.size, 8, none⟩ = some (.bool ok) ∧ V.cell? ⟨w.heap.size, 9, none⟩ = some (.int .i64 off) ∧ V.cell? ⟨w.heap.size, 10, none⟩ = some (.slice da dn dc) ∧ V.cell? ⟨w.heap.size, 11, none⟩ = some (.slice ea en ec))) (by kernel_rfl) S0 (fun hHeld => ?_)
      refine wpAnyH_take (i := 0) (v := ?hvy0) (List.getElem?_toArray.trans rfl) (by kernel_rfl) (by kernel_rfl) (by kernel_rfl) (fun _ _ _ h => h) (Or.inl ⟨by rfl, ?hyy0⟩) (by assumption) ?hry0
      case hyy0 => (intro wt hSw; (try dsimp only at hSw); go_simp; try (with_reducible rfl))
      try simp only [Act.put, List.setIfInBounds_toArray, List.set_cons_zero, List.set_cons_succ]
      refine wpAnyH_ready (rs := [1]) (by kernel_rfl) (by simp) ?_
      refine AllReadyH.cons (List.getElem?_toArray.trans rfl) (fun K hK => ?_) AllReadyH.nil
      go_simp
      go_at_call 9
      refine (C9.out _ ?_).mono ?_
      assumption
      rintro e v1 ⟨rfl, k1⟩
      clear C9
      try (go_wp2_with fail)
      refine hK.out _ _ ?_ (fun hHeld => ?_)
      · (try dsimp only)
        assumption
      clear hK K
      try simp only [Act.put, List.setIfInBounds_toArray, List.set_cons_zero, List.set_cons_succ]
      refine wpAnyH_take (i := 2) (v := ?hvy2) (List.getElem?_toArray.trans rfl) (by kernel_rfl) (by kernel_rfl) (by kernel_rfl) (fun _ _ _ h => h) (Or.inl ⟨by rfl, ?hyy2⟩) (by assumption) ?hry2
      case hyy2 => (intro wt hSw; (try dsimp only at hSw); go_simp; try (with_reducible rfl))
      try simp only [Act.put, List.setIfInBounds_toArray, List.set_cons_zero, List.set_cons_succ]
      refine wpAnyH_take (i := 3) (v := undef) (List.getElem?_toArray.trans rfl) (by kernel_rfl) (by kernel_rfl) (by kernel_rfl) (fun _ _ _ h => h) (Or.inr ⟨by rfl, rfl⟩) (by assumption) ?_
      try simp only [Act.put, List.setIfInBounds_toArray, List.set_cons_zero, List.set_cons_succ]
      refine wpAnyH_take (i := 4) (v := ?hvy4) (List.getElem?_toArray.trans rfl) (by kernel_rfl) (by kernel_rfl) (by kernel_rfl) (fun _ _ _ h => h) (Or.inl ⟨by rfl, ?hyy4⟩) (by assumption) ?hry4
      case hyy4 => (intro wt hSw; (try dsimp only at hSw); go_simp; try (with_reducible rfl))
      try simp only [Act.put, List.setIfInBounds_toArray, List.set_cons_zero, List.set_cons_succ]
      refine wpAnyH_take (i := 5) (v := ?hvy5) (List.getElem?_toArray.trans rfl) (by kernel_rfl) (by kernel_rfl) (by kernel_rfl) (fun _ _ _ h => h) (Or.inl ⟨by rfl, ?hyy5⟩) (by assumption) ?hry5
      case hyy5 => (intro wt hSw; (try dsimp only at hSw); go_simp; try (with_reducible rfl))
      try simp only [Act.put, List.setIfInBounds_toArray, List.set_cons_zero, List.set_cons_succ]
      refine wpAnyH_take (i := 6) (v := ?hvy6) (List.getElem?_toArray.trans rfl) (by kernel_rfl) (by kernel_rfl) (by kernel_rfl) (fun _ _ _ h => h) (Or.inl ⟨by rfl, ?hyy6⟩) (by assumption) ?hry6
      case hyy6 => (intro wt hSw; (try dsimp only at hSw); go_simp; try (with_reducible rfl))
      try simp only [Act.put, List.setIfInBounds_toArray, List.set_cons_zero, List.set_cons_succ]
      refine wpAnyH_take (i := 10) (v := ?hvy10) (List.getElem?_toArray.trans rfl) (by kernel_rfl) (by kernel_rfl) (by kernel_rfl) (fun _ _ _ h => h) (Or.inl ⟨by rfl, ?hyy10⟩) (by assumption) ?hry10
      case hyy10 => (intro wt hSw; (try dsimp only at hSw); go_simp; try (with_reducible rfl))
      try simp only [Act.put, List.setIfInBounds_toArray, List.set_cons_zero, List.set_cons_succ]
      refine wpAnyH_ready (rs := [7]) (by kernel_rfl) (by simp) ?_
      refine AllReadyH.cons (List.getElem?_toArray.trans rfl) (fun K hK => ?_) AllReadyH.nil
      go_simp
      go_at_call 14
      refine (C14.out _ ?_).mono ?_
      assumption
      rintro e v2 ⟨⟨y, rfl, hy⟩, k2⟩
      clear C14
      try (go_wp2_with fail)
      refine hK.out _ _ ?_ (fun hHeld => ?_)
      · (try dsimp only)
        assumption
      clear hK K
      try simp only [Act.put, List.setIfInBounds_toArray, List.set_cons_zero, List.set_cons_succ]
      refine wpAnyH_ready (rs := [8]) (by kernel_rfl) (by simp) ?_
      refine AllReadyH.cons (List.getElem?_toArray.trans rfl) (fun K hK => ?_) AllReadyH.nil
      go_simp
      go_at_call 13
      refine (C13.out _ _ ?_ hy).mono ?_
      assumption
      rintro e v3 ⟨rfl, k3⟩
      clear C13 hy
      try (go_wp2_with fail)
      refine hK.out _ _ ?_ (fun hHeld => ?_)
      · (try dsimp only)
        assumption
      clear hK K
      try simp only [Act.put, List.setIfInBounds_toArray, List.set_cons_zero, List.set_cons_succ]
      refine wpAnyH_take (i := 9) (v := ?hvy9) (List.getElem?_toArray.trans rfl) (by kernel_rfl) (by kernel_rfl) (by kernel_rfl) (fun _ _ _ h => h) (Or.inl ⟨by rfl, ?hyy9⟩) (by assumption) ?hry9
      case hyy9 => (intro wt hSw; (try dsimp only at hSw); go_simp; try (with_reducible rfl))
      try simp only [Act.put, List.setIfInBounds_toArray, List.set_cons_zero, List.set_cons_succ]
      refine wpAnyH_ready (rs := [11]) (by kernel_rfl) (by simp) ?_
      refine AllReadyH.cons (List.getElem?_toArray.trans rfl) (fun K hK => ?_) AllReadyH.nil
      go_simp
      go_at_call 15
      refine (C15.out _ ?_).mono ?_
      assumption
      rintro e v4 ⟨rfl, k4⟩
      clear C15
      try (go_wp2_with fail)
      refine hK.out _ _ ?_ (fun hHeld => ?_)
      · (try dsimp only)
        assumption
      clear hK K
      try simp only [Act.put, List.setIfInBounds_toArray, List.set_cons_zero, List.set_cons_succ]
      refine wpAnyH_take (i := 12) (v := ?hvy12) (List.getElem?_toArray.trans rfl) (by kernel_rfl) (by kernel_rfl) (by kernel_rfl) (fun _ _ _ h => h) (Or.inl ⟨by rfl, ?hyy12⟩) (by assumption) ?hry12
      case hyy12 => (intro wt hSw; (try dsimp only at hSw); go_simp; try (with_reducible rfl))
      try simp only [Act.put, List.setIfInBounds_toArray, List.set_cons_zero, List.set_cons_succ]
      refine wpAnyH_take (i := 13) (v := ?hvy13) (List.getElem?_toArray.trans rfl) (by kernel_rfl) (by kernel_rfl) (by kernel_rfl) (fun _ _ _ h => h) (Or.inl ⟨by rfl, ?hyy13⟩) (by assumption) ?hry13
      case hyy13 => (intro wt hSw; (try dsimp only at hSw); go_simp; try (with_reducible rfl))
      try simp only [Act.put, List.setIfInBounds_toArray, List.set_cons_zero, List.set_cons_succ]
      refine wpAnyH_ready (rs := [14]) (by kernel_rfl) (by simp) ?_
      refine AllReadyH.cons (List.getElem?_toArray.trans rfl) (fun K hK => ?_) AllReadyH.nil
      go_simp
      go_at_call 10
      refine (C10.out _ ?_).mono ?_
      assumption
      rintro e v5 ⟨rfl, k5⟩
      clear C10
      try (go_wp2_with fail)
      refine hK.out _ _ ?_ (fun hHeld => ?_)
      · (try dsimp only)
        assumption
      clear hK K
      try simp only [Act.put, List.setIfInBounds_toArray, List.set_cons_zero, List.set_cons_succ]
      refine wpAnyH_take (i := 15) (v := ?hvy15) (List.getElem?_toArray.trans rfl) (by kernel_rfl) (by kernel_rfl) (by kernel_rfl) (fun _ _ _ h => h) (Or.inl ⟨by rfl, ?hyy15⟩) (by assumption) ?hry15
      case hyy15 => (intro wt hSw; (try dsimp only at hSw); go_simp; try (with_reducible rfl))
      try simp only [Act.put, List.setIfInBounds_toArray, List.set_cons_zero, List.set_cons_succ]
      refine wpAnyH_take (i := 16) (v := ?hvy16) (List.getElem?_toArray.trans rfl) (by kernel_rfl) (by kernel_rfl) (by kernel_rfl) (fun _ _ _ h => h) (Or.inl ⟨by rfl, ?hyy16⟩) (by assumption) ?hry16
      case hyy16 => (intro wt hSw; (try dsimp only at hSw); go_simp; try (with_reducible rfl))
      try simp only [Act.put, List.setIfInBounds_toArray, List.set_cons_zero, List.set_cons_succ]
      refine wpAnyH_take (i := 17) (v := ?hvy17) (List.getElem?_toArray.trans rfl) (by kernel_rfl) (by kernel_rfl) (by kernel_rfl) (fun _ _ _ h => h) (Or.inl ⟨by rfl, ?hyy17⟩) (by assumption) ?hry17
      case hyy17 => (intro wt hSw; (try dsimp only at hSw); go_simp; try (with_reducible rfl))
      try simp only [Act.put, List.setIfInBounds_toArray, List.set_cons_zero, List.set_cons_succ]
      refine wpAnyH_done (by kernel_rfl) ?_ _
      refine NoPanic.normal ?_
      go_wp2
      go_ret
      exact ⟨rfl, fin.out _ (by assumption)⟩
    · rw [if_neg hmay] at C13
      rw [decide_eq_false hmay] at C15
      clear hmay
      simp only [errV] at C13
      go_enter Tryz.func6, Tryz.ntmps6
      go_wp2_with fail
      rw [← hWa]
      clear hWa
      refine wp_region_noPanic ?_
      refine wp_region_held_drew (S := fun V => (Hid (Below (w.heap.size + 1) Wa V) ∧ V.cell? ⟨w.heap.size, 0, none⟩ = some (.int .i64 kd) ∧ V.cell? ⟨w.heap.size, 1, none⟩ = some (.int .i64 fr) ∧ V.cell? ⟨w.heap.size, 2, none⟩ = some (.int .i64 to) ∧ V.cell? ⟨w.heap.size, 3, none⟩ = some (.int .i64 tm) ∧ V.cell? ⟨w.heap.size, 4, none⟩ = some (.int .i64 ix) ∧ V.cell? ⟨w.heap.size, 5, none⟩ = some (.int .i64 lt) ∧ V.cell? ⟨w.heap.size, 6, none⟩ = some (.int .i64 cm) ∧ V.cell? ⟨w.heap.size, 7, none⟩ = some (.int .i64 ro) ∧ V.cell? ⟨w.heap.size, 8, none⟩ = some (.bool ok) ∧ V.cell? ⟨w.heap.size, 9, none⟩ = some (.int .i64 off) ∧ V.cell? ⟨w.heap.size, 10, none⟩ = some (.slice da dn dc) ∧ V.cell? ⟨w.heap.size, 11, none⟩ = some (.slice ea en ec))) (by kernel_rfl) S0 (fun hHeld => ?_)
      refine wpAnyH_take (i := 0) (v := ?hvz0) (List.getElem?_toArray.trans rfl) (by kernel_rfl) (by kernel_rfl) (by kernel_rfl) (fun _ _ _ h => h) (Or.inl ⟨by rfl, ?hyz0⟩) (by assumption) ?hrz0
      case hyz0 => (intro wt hSw; (try dsimp only at hSw); go_simp; try (with_reducible rfl))
      try simp only [Act.put, List.setIfInBounds_toArray, List.set_cons_zero, List.set_cons_succ]
      refine wpAnyH_ready (rs := [1]) (by kernel_rfl) (by simp) ?_
      refine AllReadyH.cons (List.getElem?_toArray.trans rfl) (fun K hK => ?_) AllReadyH.nil
      go_simp
      go_at_call 9
      refine (C9.out _ ?_).mono ?_
      assumption
      rintro e v1 ⟨rfl, k1⟩
      clear C9
      try (go_wp2_with fail)
      refine hK.out _ _ ?_ (fun hHeld => ?_)
      · (try dsimp only)
        assumption
      clear hK K
      try simp only [Act.put, List.setIfInBounds_toArray, List.set_cons_zero, List.set_cons_succ]
      refine wpAnyH_take (i := 2) (v := ?hvz2) (List.getElem?_toArray.trans rfl) (by kernel_rfl) (by kernel_rfl) (by kernel_rfl) (fun _ _ _ h => h) (Or.inl ⟨by rfl, ?hyz2⟩) (by assumption) ?hrz2
      case hyz2 => (intro wt hSw; (try dsimp only at hSw); go_simp; try (with_reducible rfl))
      try simp only [Act.put, List.setIfInBounds_toArray, List.set_cons_zero, List.set_cons_succ]
      refine wpAnyH_take (i := 3) (v := undef) (List.getElem?_toArray.trans rfl) (by kernel_rfl) (by kernel_rfl) (by kernel_rfl) (fun _ _ _ h => h) (Or.inr ⟨by rfl, rfl⟩) (by assumption) ?_
      try simp only [Act.put, List.setIfInBounds_toArray, List.set_cons_zero, List.set_cons_succ]
      refine wpAnyH_take (i := 4) (v := ?hvz4) (List.getElem?_toArray.trans rfl) (by kernel_rfl) (by kernel_rfl) (by kernel_rfl) (fun _ _ _ h => h) (Or.inl ⟨by rfl, ?hyz4⟩) (by assumption) ?hrz4
      case hyz4 => (intro wt hSw; (try dsimp only at hSw); go_simp; try (with_reducible rfl))
      try simp only [Act.put, List.setIfInBounds_toArray, List.set_cons_zero, List.set_cons_succ]
      refine wpAnyH_take (i := 5) (v := ?hvz5) (List.getElem?_toArray.trans rfl) (by kernel_rfl) (by kernel_rfl) (by kernel_rfl) (fun _ _ _ h => h) (Or.inl ⟨by rfl, ?hyz5⟩) (by assumption) ?hrz5
      case hyz5 => (intro wt hSw; (try dsimp only at hSw); go_simp; try (with_reducible rfl))
      try simp only [Act.put, List.setIfInBounds_toArray, List.set_cons_zero, List.set_cons_succ]
      refine wpAnyH_take (i := 6) (v := ?hvz6) (List.getElem?_toArray.trans rfl) (by kernel_rfl) (by kernel_rfl) (by kernel_rfl) (fun _ _ _ h => h) (Or.inl ⟨by rfl, ?hyz6⟩) (by assumption) ?hrz6
      case hyz6 => (intro wt hSw; (try dsimp only at hSw); go_simp; try (with_reducible rfl))
      try simp only [Act.put, List.setIfInBounds_toArray, List.set_cons_zero, List.set_cons_succ]
      refine wpAnyH_take (i := 10) (v := ?hvz10) (List.getElem?_toArray.trans rfl) (by kernel_rfl) (by kernel_rfl) (by kernel_rfl) (fun _ _ _ h => h) (Or.inl ⟨by rfl, ?hyz10⟩) (by assumption) ?hrz10
      case hyz10 => (intro wt hSw; (try dsimp only at hSw); go_simp; try (with_reducible rfl))
      try simp only [Act.put, List.setIfInBounds_toArray, List.set_cons_zero, List.set_cons_succ]
      refine wpAnyH_ready (rs := [7]) (by kernel_rfl) (by simp) ?_
      refine AllReadyH.cons (List.getElem?_toArray.trans rfl) (fun K hK => ?_) AllReadyH.nil
      go_simp
      go_at_call 14
      refine (C14.out _ ?_).mono ?_
      assumption
      rintro e v2 ⟨⟨y, rfl, hy⟩, k2⟩
      clear C14
      try (go_wp2_with fail)
      refine hK.out _ _ ?_ (fun hHeld => ?_)
      · (try dsimp only)
        assumption
      clear hK K
      try simp only [Act.put, List.setIfInBounds_toArray, List.set_cons_zero, List.set_cons_succ]
      refine wpAnyH_ready (rs := [8]) (by kernel_rfl) (by simp) ?_
      refine AllReadyH.cons (List.getElem?_toArray.trans rfl) (fun K hK => ?_) AllReadyH.nil
      go_simp
      go_at_call 13
      refine (C13.out _ _ ?_ hy).mono ?_
      assumption
      rintro e v3 ⟨rfl, k3⟩
      clear C13 hy
      try (go_wp2_with fail)
      refine hK.out _ _ ?_ (fun hHeld => ?_)
      · (try dsimp only)
        assumption
      clear hK K
      try simp only [Act.put, List.setIfInBounds_toArray, List.set_cons_zero, List.set_cons_succ]
      refine wpAnyH_take (i := 9) (v := ?hvz9) (List.getElem?_toArray.trans rfl) (by kernel_rfl) (by kernel_rfl) (by kernel_rfl) (fun _ _ _ h => h) (Or.inl ⟨by rfl, ?hyz9⟩) (by assumption) ?hrz9
      case hyz9 => (intro wt hSw; (try dsimp only at hSw); go_simp; try (with_reducible rfl))
      try simp only [Act.put, List.setIfInBounds_toArray, List.set_cons_zero, List.set_cons_succ]
      refine wpAnyH_ready (rs := [11]) (by kernel_rfl) (by simp) ?_
      refine AllReadyH.cons (List.getElem?_toArray.trans rfl) (fun K hK => ?_) AllReadyH.nil
      go_simp
      go_at_call 15
      refine (C15.out _ ?_).mono ?_
      assumption
      rintro e v4 ⟨rfl, k4⟩
      clear C15
      try (go_wp2_with fail)
      refine hK.out _ _ ?_ (fun hHeld => ?_)
      · (try dsimp only)
        assumption
      clear hK K
      try simp only [Act.put, List.setIfInBounds_toArray, List.set_cons_zero, List.set_cons_succ]
      refine wpAnyH_take (i := 12) (v := ?hvz12) (List.getElem?_toArray.trans rfl) (by kernel_rfl) (by kernel_rfl) (by kernel_rfl) (fun _ _ _ h => h) (Or.inl ⟨by rfl, ?hyz12⟩) (by assumption) ?hrz12
      case hyz12 => (intro wt hSw; (try dsimp only at hSw); go_simp; try (with_reducible rfl))
      try simp only [Act.put, List.setIfInBounds_toArray, List.set_cons_zero, List.set_cons_succ]
      refine wpAnyH_take (i := 13) (v := ?hvz13) (List.getElem?_toArray.trans rfl) (by kernel_rfl) (by kernel_rfl) (by kernel_rfl) (fun _ _ _ h => h) (Or.inl ⟨by rfl, ?hyz13⟩) (by assumption) ?hrz13
      case hyz13 => (intro wt hSw; (try dsimp only at hSw); go_simp; try (with_reducible rfl))
      try simp only [Act.put, List.setIfInBounds_toArray, List.set_cons_zero, List.set_cons_succ]
      refine wpAnyH_ready (rs := [14]) (by kernel_rfl) (by simp) ?_
      refine AllReadyH.cons (List.getElem?_toArray.trans rfl) (fun K hK => ?_) AllReadyH.nil
      go_simp
      go_at_call 10
      refine (C10.out _ ?_).mono ?_
      assumption
      rintro e v5 ⟨rfl, k5⟩
      clear C10
      try (go_wp2_with fail)
      refine hK.out _ _ ?_ (fun hHeld => ?_)
      · (try dsimp only)
        assumption
      clear hK K
      try simp only [Act.put, List.setIfInBounds_toArray, List.set_cons_zero, List.set_cons_succ]
      refine wpAnyH_take (i := 15) (v := ?hvz15) (List.getElem?_toArray.trans rfl) (by kernel_rfl) (by kernel_rfl) (by kernel_rfl) (fun _ _ _ h => h) (Or.inl ⟨by rfl, ?hyz15⟩) (by assumption) ?hrz15
      case hyz15 => (intro wt hSw; (try dsimp only at hSw); go_simp; try (with_reducible rfl))
      try simp only [Act.put, List.setIfInBounds_toArray, List.set_cons_zero, List.set_cons_succ]
      refine wpAnyH_take (i := 16) (v := ?hvz16) (List.getElem?_toArray.trans rfl) (by kernel_rfl) (by kernel_rfl) (by kernel_rfl) (fun _ _ _ h => h) (Or.inl ⟨by rfl, ?hyz16⟩) (by assumption) ?hrz16
      case hyz16 => (intro wt hSw; (try dsimp only at hSw); go_simp; try (with_reducible rfl))
      try simp only [Act.put, List.setIfInBounds_toArray, List.set_cons_zero, List.set_cons_succ]
      refine wpAnyH_take (i := 17) (v := ?hvz17) (List.getElem?_toArray.trans rfl) (by kernel_rfl) (by kernel_rfl) (by kernel_rfl) (fun _ _ _ h => h) (Or.inl ⟨by rfl, ?hyz17⟩) (by assumption) ?hrz17
      case hyz17 => (intro wt hSw; (try dsimp only at hSw); go_simp; try (with_reducible rfl))
      try simp only [Act.put, List.setIfInBounds_toArray, List.set_cons_zero, List.set_cons_succ]
      refine wpAnyH_done (by kernel_rfl) ?_ _
      refine NoPanic.normal ?_
      go_wp2
      go_ret
      exact ⟨rfl, fin.out _ (by assumption)⟩
end Go.Proofs.YtbgockggbpmhnaaGreatDoor
namespace Go.Proofs.YtbgockggbpmhnaaGreatDoor.msgMay
open Go Go.ChangeShapes Go.WideShapes Go.ChangeAt Go.RowKit

set_option maxRecDepth 100000 in
theorem contract (H : Type) (enc : TypeId × Value → H) (W : World) (base : Nat) (args : Array Value) (ds gs : List (DataW H)) (before : List MemPlace)
    (hval : ∀ (j : Nat) t v, Tryz.f6.params[j]? = some t → args[j]? = some v → Value.okWide Tryz.prog W .any base t v)
    (hW : DataW.Whole enc Tryz.prog Tryz.f6.params.toList Rows.msgMaySpec.vars false W args.toList ds gs before)
    (hz : (DataW.weightsEach Tryz.prog (Tryz.f6.params.toList ++ (OpenSpec.ofChange Rows.msgMaySpec).bare.plain.varTypes Tryz.prog) (ds ++ gs)).all (· ≤ reachBytes) = true) (hL : laidMetH Tryz.prog Rows.msgMayRow.laid W) :
    Calls Tryz.prog 6 args W fun e W' => ∃ v, e = .returned v ∧ Rows.msgMaySpec.post enc Tryz.prog Tryz.f6 false true false false W args v W' := by
  have hW' := hW
  obtain ⟨p, q, hA0, hV, rfl, hfz, hnd⟩ := hW
  have hA : DataW.TrodAll enc Tryz.prog W 0 (fun _ => true) true Tryz.f6.params.toList args.toList ds p := hA0
  rw [Tryz.params6] at hA hval hz
  obtain ⟨v0, vs0, d0, ds0, p0, q0, hargs, rfl, rfl, h0, r0⟩ := trodAll_cons hA
  obtain ⟨rfl, rfl, rfl⟩ := trodAll_nil r0
  obtain rfl : args = #[v0] := by cases args; simp_all
  obtain ⟨rfl, rfl⟩ := trodVars_none hV
  have k0 := h0
  have lt0 : ∀ x ∈ p0, x.block < W.heap.size := by obtain ⟨m, hm⟩ := k0; exact DataW.trod_lt m _ _ _ hm
  obtain ⟨x, rfl, hfit, hwx⟩ := open_msgW (hval 0 25 v0 rfl rfl) h0
  obtain ⟨hdn, hes⟩ := hwx reachBytes (List.all_eq_true.2 fun x hx => List.all_eq_true.1 hz _ (DataW.weights_mem_each (j := 0) rfl rfl x hx))
  have hR : reachBytes ≤ roomB := by decide
  have hd : x.dn ≤ roomB := Nat.le_trans hdn hR
  have hb : ∀ y ∈ x.es, y.n ≤ roomB := fun y hy => Nat.le_trans (hes y hy) hR
  clear hA0
  refine (msgMay_any x W (env_of_laid hL) hfit hd hb).mono fun e W' ⟨he, bel⟩ => ?_
  subst he
  exact ⟨_, rfl, _, _, _, [], _, [], hW', trodAll_mk1 (shut_bool Tryz.underlying4 _), (trodAll_cons_mk (Below.trod laidOut (by kernel_rfl) (of_decide_eq_true (by kernel_rfl)) k0 bel lt0) trodAll_mk0), rfl, bel.frame _, fun h => by cases h⟩

theorem reads (os : Os) {H : Type} (enc : TypeId × Value → H) : (DataW.whole enc Tryz.prog ((laidWorld os).forCall (fun _ _ => 0) ⟨#[], #[.agg #[.int .i64 0, .int .i64 0, .int .i64 0, .int .i64 0, .int .i64 0, .int .i64 0, .int .i64 0, .int .i64 0, .bool false, .int .i64 0, .slice none 0 0, .slice none 0 0]], []⟩).memory Tryz.f6.params.toList Rows.msgMaySpec.vars false #[Value.agg #[.int .i64 0, .int .i64 0, .int .i64 0, .int .i64 0, .int .i64 0, .int .i64 0, .int .i64 0, .int .i64 0, .bool false, .int .i64 0, .slice none 0 0, .slice none 0 0]].toList 8).isSome = true := by
  kernel_rfl

set_option maxRecDepth 100000 in
theorem lifted (os : Os) (started : os.Started) (H : Type) (enc : TypeId × Value → H) (F : Stop.Interp) :
    ReturnsInHanded {} Tryz.checked os 6 .any ((OpenSpec.ofChange Rows.msgMaySpec).preRow enc Tryz.prog Tryz.f6 Rows.msgMayRow.domain false Rows.msgMayRow.laid) (((OpenSpec.ofChange Rows.msgMaySpec).at F).post enc Tryz.prog Tryz.f6 false true false false) := by
  obtain ⟨x, hx⟩ := Option.isSome_iff_exists.1 (reads os enc)
  refine returnsInHanded_of_row (C := Tryz.checked) (s := OpenSpec.ofChange Rows.msgMaySpec) own started (by kernel_rfl) Tryz.func6
    (witness_row_at (enc := enc) (C := Tryz.checked) false (laidWorld os) #[.agg #[.int .i64 0, .int .i64 0, .int .i64 0, .int .i64 0, .int .i64 0, .int .i64 0, .int .i64 0, .int .i64 0, .bool false, .int .i64 0, .slice none 0 0, .slice none 0 0]] rfl (by kernel_rfl) (by kernel_rfl) (by kernel_rfl)
      (OpenSpec.preRow_of_cond 8 hx rfl (fun k hk => by cases hk) (by kernel_rfl) (laidWorld_met os _))) ?_
  intro W base args ds gs before hval hW _ _ hz hL _ _
  exact contract H enc W base args ds gs before hval hW hz hL

theorem said : Rows.MsgMaySaid :=
  OpenClaim.holds_of_cond 6 Tryz.f6 rfl rfl rfl rfl rfl rfl rfl ⟨rfl, rfl, rfl, rfl, rfl⟩ rfl rfl rfl rfl rfl (by kernel_rfl) Tryz.func6 (by kernel_rfl)
    (of_decide_eq_true (by kernel_rfl)) (by unfold Func.isWrapper; first | (rw [if_pos (by decide +kernel)]; kernel_rfl) | (rw [if_neg (by decide +kernel)]; exact ⟨rfl, rfl⟩))
    (fun os started H enc _ F => by rw [OpenClaim.pre_eq_preRow]; exact lifted os started H enc F)

/-- No parameter wants a stand-in; the program's own looks are as the card says. -/
theorem plain (f : FuncId) (fn : Func) (hf : Tryz.pinned.checked.prog.funcNamed "tollbar/tollbarlaw11.MsgMay" = some f) (hfn : Tryz.pinned.checked.prog.funcs[f]? = some fn) :
    true = Tryz.pinned.checked.prog.looks [] ∧ ∀ (j : Nat) t, fn.params[j]? = some t → Tryz.pinned.checked.prog.wantsStandIn t = false := by
  obtain rfl : f = 6 := Option.some.inj ((show Tryz.prog.funcNamed "tollbar/tollbarlaw11.MsgMay" = some 6 by kernel_rfl).symm.trans hf) |>.symm
  obtain rfl : fn = Tryz.f6 := (Option.some.inj (Tryz.func6.symm.trans hfn)).symm
  refine ⟨by kernel_rfl, fun j t ht => ?_⟩
  rw [Tryz.params6] at ht
  obtain rfl : t = 25 := by simpa using Array.mem_of_getElem? ht
  exact (show Tryz.prog.wantsStandIn 25 = false by kernel_rfl)

/-- THE CARD. -/
theorem card : Rows.MsgMayCardSaid :=
  Claim7.holds_tied_plain_at .later [] _ _ _ _ said (fun _ h => by cases h) (by kernel_rfl) (fun _ h => by cases h) msgMay_row_tie rfl ⟨rfl, rfl⟩ (by kernel_rfl) rfl plain (by kernel_rfl)
#print axioms card
end Go.Proofs.YtbgockggbpmhnaaGreatDoor.msgMay
