/-
  giveMsg, by a contract.
  Conditions: what is given reads as such; its entries are at most 1000, its bytes and theirs at most 2^47.
-/
import Derived.Test.YtbgockggbpmhnaaGreatDoorGive2
namespace Go.Proofs.YtbgockggbpmhnaaGreatDoor
open Go Go.RowKit

/-- Twelve stores. -/
def set12 (w : World) (M : Nat) (x0 x1 x2 x3 x4 x5 x6 x7 x8 x9 xa xb : Value) : World :=
  (((((((((((w.setCell ⟨M, 0, none⟩ x0).setCell ⟨M, 1, none⟩ x1).setCell ⟨M, 2, none⟩ x2).setCell ⟨M, 3, none⟩ x3).setCell ⟨M, 4, none⟩ x4).setCell ⟨M, 5, none⟩ x5).setCell ⟨M, 6, none⟩ x6).setCell ⟨M, 7, none⟩ x7).setCell ⟨M, 8, none⟩ x8).setCell ⟨M, 9, none⟩ x9).setCell ⟨M, 10, none⟩ xa).setCell ⟨M, 11, none⟩ xb
theorem set12_fr (w : World) (M : Nat) (x0 x1 x2 x3 x4 x5 x6 x7 x8 x9 xa xb : Value) : Fr (fun j => j = M) w (set12 w M x0 x1 x2 x3 x4 x5 x6 x7 x8 x9 xa xb) := by
  unfold set12
  iterate 12 (refine Fr.setCell (X := fun j => j = M) ?_ (fun _ => rfl) _)
  exact Fr.refl _ _
theorem stored12 {w : World} {M : Nat} {y0 y1 y2 y3 y4 y5 y6 y7 y8 y9 ya yb : Value} {t : TypeId} (h : w.heap[M]? = some (.cells #[y0, y1, y2, y3, y4, y5, y6, y7, y8, y9, ya, yb] t)) (x0 x1 x2 x3 x4 x5 x6 x7 x8 x9 xa xb : Value) : (set12 w M x0 x1 x2 x3 x4 x5 x6 x7 x8 x9 xa xb).heap[M]? = some (.cells #[x0, x1, x2, x3, x4, x5, x6, x7, x8, x9, xa, xb] t) := by
  unfold set12
  simp only [World.setCell, Array.getElem?_modify, if_true, h, Option.map_some]
  simp
/-- The block of a message holds no bytes. -/
theorem no8_12 {w : World} {M : Nat} {x0 x1 x2 x3 x4 x5 x6 x7 x8 x9 xa xb : Value} {t : TypeId} (h : w.heap[M]? = some (.cells #[x0, x1, x2, x3, x4, x5, x6, x7, x8, x9, xa, xb] t)) (hn : ∀ u ∈ [x0, x1, x2, x3, x4, x5, x6, x7, x8, x9, xa, xb], ∀ n, u ≠ .int .u8 n) (j : Nat) (n : Int) : w.cell? ⟨M, j, none⟩ ≠ some (.int .u8 n) := by
  intro e
  simp only [World.cell?, h] at e
  have e2 : ([x0, x1, x2, x3, x4, x5, x6, x7, x8, x9, xa, xb] : List Value)[j]? = some (.int .u8 n) := by simpa using e
  exact hn _ (List.mem_of_getElem? e2) n rfl
theorem EsS.kept {X : Nat → Prop} {w w' : World} {v : Value} {xs : List RE} (h : EsS w v xs) (f : Fr X w w') (hx : ∀ k, X k → ∀ j n, w.cell? ⟨k, j, none⟩ ≠ some (.int .u8 n)) (hv : ∀ b, v.ownBlock = some b → ¬ X b) : EsS w' v xs := by
  obtain ⟨a, cap, rfl, h1, h2, h3, h4⟩ := h
  refine ⟨a, cap, rfl, h1, h2, ?_, fun x hx' => (h4 x hx').kept8 f hx⟩
  rcases h3 with h3 | ⟨b, o, rfl, hc⟩
  · exact .inl h3
  · have hb : ¬ X b := hv b rfl
    refine .inr ⟨b, o, rfl, fun i x hx' => ?_⟩
    obtain ⟨c0, c1, c2, c3⟩ := hc i x hx'
    exact ⟨f.cell c0 hb, f.cell c1 hb, f.cell c2 hb, f.cell c3 hb⟩

set_option maxRecDepth 100000 in
set_option maxHeartbeats 8000000 in
theorem giveMsg_any (x : RM) (w : World) (hf : x.Fit w) (hn : x.en ≤ 1000) (hd : x.dn ≤ roomB) (hb : ∀ y ∈ x.es, y.n ≤ roomB) :
    Calls Tryz.prog 14 #[x.val] w fun e w' => (∃ y : RM, e = .returned y.val ∧ y.Fit w' ∧ y.msg = x.msg) ∧ Below w.heap.size w w' := by
  obtain ⟨kd, fr, to, tm, ix, lt, cm, ro, ok, off, da, dn, dc, d, ea, en, ec, es⟩ := x
  obtain ⟨hl, hv, he⟩ := hf
  simp only at hl hv he hn hd hb
  simp only [RM.val, RM.msg]
  have HV := Lib.hid hv
  have HL := Lib.hid hl
  have HB := Lib.hid hd
  have HG := Lib.hid (fun (V : World) (b : Below w.heap.size w V) => giveEntries_any es ea en ec V (he.below b) hn hb)
  have HEN := Lib.hid he.len
  clear hl hv he hd hn hb
  go_enter Tryz.func14, Tryz.ntmps14
  go_wp2_with fail
  obtain ⟨W, hW⟩ : ∃ W, W = (w.alloc (.cells #[.int .i64 kd, .int .i64 fr, .int .i64 to, .int .i64 tm, .int .i64 ix, .int .i64 lt, .int .i64 cm, .int .i64 ro, .bool ok, .int .i64 off, .slice da dn dc, .slice ea en ec] 25)).alloc (.cells #[.int .i64 0, .int .i64 0, .int .i64 0, .int .i64 0, .int .i64 0, .int .i64 0, .int .i64 0, .int .i64 0, .bool false, .int .i64 0, .slice none 0 0, .slice none 0 0] 30) := ⟨_, rfl⟩
  have bW : Below W.heap.size W W := Below.refl _ _
  have bW' : Below ((w.alloc (.cells #[.int .i64 kd, .int .i64 fr, .int .i64 to, .int .i64 tm, .int .i64 ix, .int .i64 lt, .int .i64 cm, .int .i64 ro, .bool ok, .int .i64 off, .slice da dn dc, .slice ea en ec] 25)).alloc (.cells #[.int .i64 0, .int .i64 0, .int .i64 0, .int .i64 0, .int .i64 0, .int .i64 0, .int .i64 0, .int .i64 0, .bool false, .int .i64 0, .slice none 0 0, .slice none 0 0] 30)).heap.size ((w.alloc (.cells #[.int .i64 kd, .int .i64 fr, .int .i64 to, .int .i64 tm, .int .i64 ix, .int .i64 lt, .int .i64 cm, .int .i64 ro, .bool ok, .int .i64 off, .slice da dn dc, .slice ea en ec] 25)).alloc (.cells #[.int .i64 0, .int .i64 0, .int .i64 0, .int .i64 0, .int .i64 0, .int .i64 0, .int .i64 0, .int .i64 0, .bool false, .int .i64 0, .slice none 0 0, .slice none 0 0] 30)) W := by rw [← hW]; exact bW
  obtain ⟨gP, gE, bb⟩ := own2 bW'
  rw [← hW]
  clear bW bW' hW
  obtain ⟨⟨p0, p1, p2, p3, p4, p5, p6, p7, p8, p9, pa, pb⟩, _⟩ := cells12 gP
  have hsz : w.heap.size + 1 < W.heap.size := (Array.getElem?_eq_some_iff.1 gE).1
  have BB := Lib.hid bb
  have cont : Hid (∀ V, Fr (fun k => k = w.heap.size + 1) W V → (Hid (Fr (fun k => k = w.heap.size + 1) W V) ∧ V.cell? ⟨w.heap.size, 0, none⟩ = some (.int .i64 kd) ∧ V.cell? ⟨w.heap.size, 1, none⟩ = some (.int .i64 fr) ∧ V.cell? ⟨w.heap.size, 2, none⟩ = some (.int .i64 to) ∧ V.cell? ⟨w.heap.size, 3, none⟩ = some (.int .i64 tm) ∧ V.cell? ⟨w.heap.size, 4, none⟩ = some (.int .i64 ix) ∧ V.cell? ⟨w.heap.size, 5, none⟩ = some (.int .i64 lt) ∧ V.cell? ⟨w.heap.size, 6, none⟩ = some (.int .i64 cm) ∧ V.cell? ⟨w.heap.size, 7, none⟩ = some (.int .i64 ro) ∧ V.cell? ⟨w.heap.size, 8, none⟩ = some (.bool ok) ∧ V.cell? ⟨w.heap.size, 9, none⟩ = some (.int .i64 off) ∧ V.cell? ⟨w.heap.size, 10, none⟩ = some (.slice da dn dc) ∧ V.cell? ⟨w.heap.size, 11, none⟩ = some (.slice ea en ec))) := fun V f => by
    have hk := f.block w.heap.size (by omega) (by omega)
    exact ⟨Lib.hid f, (World.cell?_of_block hk).trans p0, (World.cell?_of_block hk).trans p1, (World.cell?_of_block hk).trans p2, (World.cell?_of_block hk).trans p3, (World.cell?_of_block hk).trans p4, (World.cell?_of_block hk).trans p5, (World.cell?_of_block hk).trans p6, (World.cell?_of_block hk).trans p7, (World.cell?_of_block hk).trans p8, (World.cell?_of_block hk).trans p9, (World.cell?_of_block hk).trans pa, (World.cell?_of_block hk).trans pb⟩
  have hbel : Hid (∀ V, Fr (fun k => k = w.heap.size + 1) W V → Below w.heap.size w V) := fun V f => bb.trans ⟨f.os, f.tape, f.output, f.size, fun k hk => f.block k (Nat.lt_of_lt_of_le hk bb.size) (by omega)⟩
  have S0 := cont.out W.drew (Fr.refl _ _).drew
  have GE := Lib.hid gE
  have SRC := Lib.hid (srcB_of (tx := 22) Tryz.underlying22 ((HV.out.below bb).kept (X := fun _ => False) ((Fr.refl _ W).drew) (fun _ _ x => x)))
  have Hsz := Lib.hid hsz
  have CG : Hid (∀ V, (Hid (Fr (fun k => k = w.heap.size + 1) W V) ∧ V.cell? ⟨w.heap.size, 0, none⟩ = some (.int .i64 kd) ∧ V.cell? ⟨w.heap.size, 1, none⟩ = some (.int .i64 fr) ∧ V.cell? ⟨w.heap.size, 2, none⟩ = some (.int .i64 to) ∧ V.cell? ⟨w.heap.size, 3, none⟩ = some (.int .i64 tm) ∧ V.cell? ⟨w.heap.size, 4, none⟩ = some (.int .i64 ix) ∧ V.cell? ⟨w.heap.size, 5, none⟩ = some (.int .i64 lt) ∧ V.cell? ⟨w.heap.size, 6, none⟩ = some (.int .i64 cm) ∧ V.cell? ⟨w.heap.size, 7, none⟩ = some (.int .i64 ro) ∧ V.cell? ⟨w.heap.size, 8, none⟩ = some (.bool ok) ∧ V.cell? ⟨w.heap.size, 9, none⟩ = some (.int .i64 off) ∧ V.cell? ⟨w.heap.size, 10, none⟩ = some (.slice da dn dc) ∧ V.cell? ⟨w.heap.size, 11, none⟩ = some (.slice ea en ec)) → Calls Tryz.prog 39 #[.slice ea en ec] V fun e w' => (∃ a' c', e = .returned (.slice a' en c') ∧ Hid (∃ ys, EsS w' (.slice a' en c') ys ∧ ys.map RE.ent = es.map RE.ent ∧ ∀ b, Value.ownBlock (.slice a' en c') = some b → W.heap.size ≤ b)) ∧ Hid (Below V.heap.size V w') ∧ (Hid (Fr (fun k => k = w.heap.size + 1) W w') ∧ w'.cell? ⟨w.heap.size, 0, none⟩ = some (.int .i64 kd) ∧ w'.cell? ⟨w.heap.size, 1, none⟩ = some (.int .i64 fr) ∧ w'.cell? ⟨w.heap.size, 2, none⟩ = some (.int .i64 to) ∧ w'.cell? ⟨w.heap.size, 3, none⟩ = some (.int .i64 tm) ∧ w'.cell? ⟨w.heap.size, 4, none⟩ = some (.int .i64 ix) ∧ w'.cell? ⟨w.heap.size, 5, none⟩ = some (.int .i64 lt) ∧ w'.cell? ⟨w.heap.size, 6, none⟩ = some (.int .i64 cm) ∧ w'.cell? ⟨w.heap.size, 7, none⟩ = some (.int .i64 ro) ∧ w'.cell? ⟨w.heap.size, 8, none⟩ = some (.bool ok) ∧ w'.cell? ⟨w.heap.size, 9, none⟩ = some (.int .i64 off) ∧ w'.cell? ⟨w.heap.size, 10, none⟩ = some (.slice da dn dc) ∧ w'.cell? ⟨w.heap.size, 11, none⟩ = some (.slice ea en ec))) := fun V h => (HG.out V (hbel.out V h.1.out)).mono fun e w' ⟨⟨a', c', ys, e1, e2, e3, e4⟩, b⟩ => ⟨⟨a', c', e1, Lib.hid ⟨ys, e2, e3, fun q hq => Nat.le_trans h.1.out.size (e4 q hq)⟩⟩, Lib.hid b, cont.out w' (h.1.out.trans (Fr.of_below b))⟩
  clear gP gE bb p0 p1 p2 p3 p4 p5 p6 p7 p8 p9 pa pb hsz HV HG
  refine wp_region_noPanic ?_
  refine wp_region_held_drew (S := fun V => (Hid (Fr (fun k => k = w.heap.size + 1) W V) ∧ V.cell? ⟨w.heap.size, 0, none⟩ = some (.int .i64 kd) ∧ V.cell? ⟨w.heap.size, 1, none⟩ = some (.int .i64 fr) ∧ V.cell? ⟨w.heap.size, 2, none⟩ = some (.int .i64 to) ∧ V.cell? ⟨w.heap.size, 3, none⟩ = some (.int .i64 tm) ∧ V.cell? ⟨w.heap.size, 4, none⟩ = some (.int .i64 ix) ∧ V.cell? ⟨w.heap.size, 5, none⟩ = some (.int .i64 lt) ∧ V.cell? ⟨w.heap.size, 6, none⟩ = some (.int .i64 cm) ∧ V.cell? ⟨w.heap.size, 7, none⟩ = some (.int .i64 ro) ∧ V.cell? ⟨w.heap.size, 8, none⟩ = some (.bool ok) ∧ V.cell? ⟨w.heap.size, 9, none⟩ = some (.int .i64 off) ∧ V.cell? ⟨w.heap.size, 10, none⟩ = some (.slice da dn dc) ∧ V.cell? ⟨w.heap.size, 11, none⟩ = some (.slice ea en ec))) (by kernel_rfl) S0 (fun hHeld => ?_)
  refine wpAnyH_take (i := 0) (v := ?hv0) (List.getElem?_toArray.trans rfl) (by kernel_rfl) (by kernel_rfl) (by kernel_rfl) (fun _ _ _ h => h) (Or.inl ⟨by rfl, ?hy0⟩) (by assumption) ?hr0
  case hy0 => (intro wt hSw; (try dsimp only at hSw); go_simp; try (with_reducible rfl))
  try simp only [Act.put, List.setIfInBounds_toArray, List.set_cons_zero, List.set_cons_succ]
  refine wpAnyH_take (i := 1) (v := ?hv1) (List.getElem?_toArray.trans rfl) (by kernel_rfl) (by kernel_rfl) (by kernel_rfl) (fun _ _ _ h => h) (Or.inl ⟨by rfl, ?hy1⟩) (by assumption) ?hr1
  case hy1 => (intro wt hSw; (try dsimp only at hSw); go_simp; try (with_reducible rfl))
  try simp only [Act.put, List.setIfInBounds_toArray, List.set_cons_zero, List.set_cons_succ]
  refine wpAnyH_take (i := 2) (v := ?hv2) (List.getElem?_toArray.trans rfl) (by kernel_rfl) (by kernel_rfl) (by kernel_rfl) (fun _ _ _ h => h) (Or.inl ⟨by rfl, ?hy2⟩) (by assumption) ?hr2
  case hy2 => (intro wt hSw; (try dsimp only at hSw); go_simp; try (with_reducible rfl))
  try simp only [Act.put, List.setIfInBounds_toArray, List.set_cons_zero, List.set_cons_succ]
  refine wpAnyH_take (i := 3) (v := ?hv3) (List.getElem?_toArray.trans rfl) (by kernel_rfl) (by kernel_rfl) (by kernel_rfl) (fun _ _ _ h => h) (Or.inl ⟨by rfl, ?hy3⟩) (by assumption) ?hr3
  case hy3 => (intro wt hSw; (try dsimp only at hSw); go_simp; try (with_reducible rfl))
  try simp only [Act.put, List.setIfInBounds_toArray, List.set_cons_zero, List.set_cons_succ]
  refine wpAnyH_take (i := 4) (v := ?hv4) (List.getElem?_toArray.trans rfl) (by kernel_rfl) (by kernel_rfl) (by kernel_rfl) (fun _ _ _ h => h) (Or.inl ⟨by rfl, ?hy4⟩) (by assumption) ?hr4
  case hy4 => (intro wt hSw; (try dsimp only at hSw); go_simp; try (with_reducible rfl))
  try simp only [Act.put, List.setIfInBounds_toArray, List.set_cons_zero, List.set_cons_succ]
  refine wpAnyH_take (i := 5) (v := ?hv5) (List.getElem?_toArray.trans rfl) (by kernel_rfl) (by kernel_rfl) (by kernel_rfl) (fun _ _ _ h => h) (Or.inl ⟨by rfl, ?hy5⟩) (by assumption) ?hr5
  case hy5 => (intro wt hSw; (try dsimp only at hSw); go_simp; try (with_reducible rfl))
  try simp only [Act.put, List.setIfInBounds_toArray, List.set_cons_zero, List.set_cons_succ]
  refine wpAnyH_take (i := 6) (v := ?hv6) (List.getElem?_toArray.trans rfl) (by kernel_rfl) (by kernel_rfl) (by kernel_rfl) (fun _ _ _ h => h) (Or.inl ⟨by rfl, ?hy6⟩) (by assumption) ?hr6
  case hy6 => (intro wt hSw; (try dsimp only at hSw); go_simp; try (with_reducible rfl))
  try simp only [Act.put, List.setIfInBounds_toArray, List.set_cons_zero, List.set_cons_succ]
  refine wpAnyH_take (i := 7) (v := ?hv7) (List.getElem?_toArray.trans rfl) (by kernel_rfl) (by kernel_rfl) (by kernel_rfl) (fun _ _ _ h => h) (Or.inl ⟨by rfl, ?hy7⟩) (by assumption) ?hr7
  case hy7 => (intro wt hSw; (try dsimp only at hSw); go_simp; try (with_reducible rfl))
  try simp only [Act.put, List.setIfInBounds_toArray, List.set_cons_zero, List.set_cons_succ]
  refine wpAnyH_take (i := 8) (v := ?hv8) (List.getElem?_toArray.trans rfl) (by kernel_rfl) (by kernel_rfl) (by kernel_rfl) (fun _ _ _ h => h) (Or.inl ⟨by rfl, ?hy8⟩) (by assumption) ?hr8
  case hy8 => (intro wt hSw; (try dsimp only at hSw); go_simp; try (with_reducible rfl))
  try simp only [Act.put, List.setIfInBounds_toArray, List.set_cons_zero, List.set_cons_succ]
  refine wpAnyH_take (i := 9) (v := ?hv9) (List.getElem?_toArray.trans rfl) (by kernel_rfl) (by kernel_rfl) (by kernel_rfl) (fun _ _ _ h => h) (Or.inl ⟨by rfl, ?hy9⟩) (by assumption) ?hr9
  case hy9 => (intro wt hSw; (try dsimp only at hSw); go_simp; try (with_reducible rfl))
  try simp only [Act.put, List.setIfInBounds_toArray, List.set_cons_zero, List.set_cons_succ]
  refine wpAnyH_take (i := 10) (v := ?hv10) (List.getElem?_toArray.trans rfl) (by kernel_rfl) (by kernel_rfl) (by kernel_rfl) (fun _ _ _ h => h) (Or.inl ⟨by rfl, ?hy10⟩) (by assumption) ?hr10
  case hy10 => (intro wt hSw; (try dsimp only at hSw); go_simp; try (with_reducible rfl))
  try simp only [Act.put, List.setIfInBounds_toArray, List.set_cons_zero, List.set_cons_succ]
  refine wpAnyH_take (i := 11) (v := ?hv11) (List.getElem?_toArray.trans rfl) (by kernel_rfl) (by kernel_rfl) (by kernel_rfl) (fun _ _ _ h => h) (Or.inl ⟨by rfl, ?hy11⟩) (by assumption) ?hr11
  case hy11 => (intro wt hSw; (try dsimp only at hSw); go_simp; try (with_reducible rfl))
  try simp only [Act.put, List.setIfInBounds_toArray, List.set_cons_zero, List.set_cons_succ]
  refine wpAnyH_take (i := 12) (v := ?hv12) (List.getElem?_toArray.trans rfl) (by kernel_rfl) (by kernel_rfl) (by kernel_rfl) (fun _ _ _ h => h) (Or.inl ⟨by rfl, ?hy12⟩) (by assumption) ?hr12
  case hy12 => (intro wt hSw; (try dsimp only at hSw); go_simp; try (with_reducible rfl))
  try simp only [Act.put, List.setIfInBounds_toArray, List.set_cons_zero, List.set_cons_succ]
  refine wpAnyH_take (i := 13) (v := ?hv13) (List.getElem?_toArray.trans rfl) (by kernel_rfl) (by kernel_rfl) (by kernel_rfl) (fun _ _ _ h => h) (Or.inl ⟨by rfl, ?hy13⟩) (by assumption) ?hr13
  case hy13 => (intro wt hSw; (try dsimp only at hSw); go_simp; try (with_reducible rfl))
  try simp only [Act.put, List.setIfInBounds_toArray, List.set_cons_zero, List.set_cons_succ]
  refine wpAnyH_take (i := 14) (v := ?hv14) (List.getElem?_toArray.trans rfl) (by kernel_rfl) (by kernel_rfl) (by kernel_rfl) (fun _ _ _ h => h) (Or.inl ⟨by rfl, ?hy14⟩) (by assumption) ?hr14
  case hy14 => (intro wt hSw; (try dsimp only at hSw); go_simp; try (with_reducible rfl))
  try simp only [Act.put, List.setIfInBounds_toArray, List.set_cons_zero, List.set_cons_succ]
  refine wpAnyH_take (i := 15) (v := ?hv15) (List.getElem?_toArray.trans rfl) (by kernel_rfl) (by kernel_rfl) (by kernel_rfl) (fun _ _ _ h => h) (Or.inl ⟨by rfl, ?hy15⟩) (by assumption) ?hr15
  case hy15 => (intro wt hSw; (try dsimp only at hSw); go_simp; try (with_reducible rfl))
  try simp only [Act.put, List.setIfInBounds_toArray, List.set_cons_zero, List.set_cons_succ]
  refine wpAnyH_take (i := 16) (v := ?hv16) (List.getElem?_toArray.trans rfl) (by kernel_rfl) (by kernel_rfl) (by kernel_rfl) (fun _ _ _ h => h) (Or.inl ⟨by rfl, ?hy16⟩) (by assumption) ?hr16
  case hy16 => (intro wt hSw; (try dsimp only at hSw); go_simp; try (with_reducible rfl))
  try simp only [Act.put, List.setIfInBounds_toArray, List.set_cons_zero, List.set_cons_succ]
  refine wpAnyH_take (i := 17) (v := ?hv17) (List.getElem?_toArray.trans rfl) (by kernel_rfl) (by kernel_rfl) (by kernel_rfl) (fun _ _ _ h => h) (Or.inl ⟨by rfl, ?hy17⟩) (by assumption) ?hr17
  case hy17 => (intro wt hSw; (try dsimp only at hSw); go_simp; try (with_reducible rfl))
  try simp only [Act.put, List.setIfInBounds_toArray, List.set_cons_zero, List.set_cons_succ]
  refine wpAnyH_take (i := 18) (v := ?hv18) (List.getElem?_toArray.trans rfl) (by kernel_rfl) (by kernel_rfl) (by kernel_rfl) (fun _ _ _ h => h) (Or.inl ⟨by rfl, ?hy18⟩) (by assumption) ?hr18
  case hy18 => (intro wt hSw; (try dsimp only at hSw); go_simp; try (with_reducible rfl))
  try simp only [Act.put, List.setIfInBounds_toArray, List.set_cons_zero, List.set_cons_succ]
  refine wpAnyH_take (i := 19) (v := ?hv19) (List.getElem?_toArray.trans rfl) (by kernel_rfl) (by kernel_rfl) (by kernel_rfl) (fun _ _ _ h => h) (Or.inl ⟨by rfl, ?hy19⟩) (by assumption) ?hr19
  case hy19 => (intro wt hSw; (try dsimp only at hSw); go_simp; try (with_reducible rfl))
  try simp only [Act.put, List.setIfInBounds_toArray, List.set_cons_zero, List.set_cons_succ]
  refine wpAnyH_take (i := 20) (v := ?hv20) (List.getElem?_toArray.trans rfl) (by kernel_rfl) (by kernel_rfl) (by kernel_rfl) (fun _ _ _ h => h) (Or.inl ⟨by rfl, ?hy20⟩) (by assumption) ?hr20
  case hy20 => (intro wt hSw; (try dsimp only at hSw); go_simp; try (with_reducible rfl))
  try simp only [Act.put, List.setIfInBounds_toArray, List.set_cons_zero, List.set_cons_succ]
  refine wpAnyH_take (i := 21) (v := ?hv21) (List.getElem?_toArray.trans rfl) (by kernel_rfl) (by kernel_rfl) (by kernel_rfl) (fun _ _ _ h => h) (Or.inl ⟨by rfl, ?hy21⟩) (by assumption) ?hr21
  case hy21 => (intro wt hSw; (try dsimp only at hSw); go_simp; try (with_reducible rfl))
  try simp only [Act.put, List.setIfInBounds_toArray, List.set_cons_zero, List.set_cons_succ]
  refine wpAnyH_take (i := 22) (v := ?hv22) (List.getElem?_toArray.trans rfl) (by kernel_rfl) (by kernel_rfl) (by kernel_rfl) (fun _ _ _ h => h) (Or.inl ⟨by rfl, ?hy22⟩) (by assumption) ?hr22
  case hy22 => (intro wt hSw; (try dsimp only at hSw); go_simp; try (with_reducible rfl))
  try simp only [Act.put, List.setIfInBounds_toArray, List.set_cons_zero, List.set_cons_succ]
  refine wpAnyH_take (i := 24) (v := ?hv24) (List.getElem?_toArray.trans rfl) (by kernel_rfl) (by kernel_rfl) (by kernel_rfl) (fun _ _ _ h => h) (Or.inl ⟨by rfl, ?hy24⟩) (by assumption) ?hr24
  case hy24 => (intro wt hSw; (try dsimp only at hSw); go_simp; try (with_reducible rfl))
  try simp only [Act.put, List.setIfInBounds_toArray, List.set_cons_zero, List.set_cons_succ]
  refine wpAnyH_take (i := 25) (v := ?hv25) (List.getElem?_toArray.trans rfl) (by kernel_rfl) (by kernel_rfl) (by kernel_rfl) (fun _ _ _ h => h) (Or.inl ⟨by rfl, ?hy25⟩) (by assumption) ?hr25
  case hy25 => (intro wt hSw; (try dsimp only at hSw); go_simp; try (with_reducible rfl))
  try simp only [Act.put, List.setIfInBounds_toArray, List.set_cons_zero, List.set_cons_succ]
  refine wpAnyH_ready (rs := [23]) (by kernel_rfl) (by simp) ?_
  refine AllReadyH.cons (List.getElem?_toArray.trans rfl) (fun K hK => ?_) AllReadyH.nil
  refine step_appN rfl (.tmp 24) (.tmp 26) rfl T22 (.slice none 0 0) (.slice da dn dc) (n := 0) (m := dn) rfl HL.out rfl (OwnB.nil _) rfl SRC.out (by have := HB.out; omega) ?_
  intro a5 c5 w5 o5 g5 b5
  rw [Nat.zero_add] at o5 b5 ⊢
  have Z : Fr (fun _ => False) W w5 := ((Fr.refl _ W).drew).trans (g5.mono (fun k _ h => by simp [Value.ownBlock] at h))
  have G5 := Lib.hid (Z.heap GE.out (fun x => x))
  have O5 := Lib.hid o5.isB
  have HZ := Lib.hid Z
  have S1 := cont.out w5 (Z.mono (fun _ _ x => x.elim))
  clear Z o5 g5 b5
  refine hK.out _ _ ?_ (fun hHeld => ?_)
  · (try dsimp only)
    assumption
  clear hK K
  try simp only [Act.put, List.setIfInBounds_toArray, List.set_cons_zero, List.set_cons_succ]
  refine wpAnyH_ready (rs := [26]) (by kernel_rfl) (by simp) ?_
  refine AllReadyH.cons (List.getElem?_toArray.trans rfl) (fun K hK => ?_) AllReadyH.nil
  go_simp
  go_at_call 39
  refine (CG.out _ ?_).mono ?_
  assumption
  rintro e w6 ⟨⟨a6, c6, rfl, y6⟩, b6, S2⟩
  have G6 := Lib.hid ((b6.out.block _ (Array.getElem?_eq_some_iff.1 G5.out).1).trans G5.out)
  have O6 := Lib.hid (O5.out.below b6.out)
  obtain ⟨⟨s0, s1, s2, s3, s4, s5, s6, s7, s8, s9, sa, sb⟩, sf⟩ := cells12 G6.out
  clear CG O5 G5 b6
  try (go_wp2_with fail)
  refine hK.out _ _ ?_ (fun hHeld => ?_)
  · (try dsimp only)
    assumption
  clear hK K
  try simp only [Act.put, List.setIfInBounds_toArray, List.set_cons_zero, List.set_cons_succ]
  refine wpAnyH_take (i := 27) (v := ?hv27) (List.getElem?_toArray.trans rfl) (by kernel_rfl) (by kernel_rfl) (by kernel_rfl) (fun _ _ _ h => h) (Or.inl ⟨by rfl, ?hy27⟩) (by assumption) ?hr27
  case hy27 => (intro wt hSw; (try dsimp only at hSw); go_simp; try (with_reducible rfl))
  try simp only [Act.put, List.setIfInBounds_toArray, List.set_cons_zero, List.set_cons_succ]
  refine wpAnyH_ready (rs := [28]) (by kernel_rfl) (by simp) ?_
  refine AllReadyH.cons (List.getElem?_toArray.trans rfl) (fun K hK => ?_) AllReadyH.nil
  go_simp
  have S3 := cont.out _ (S2.1.out.trans (set12_fr w6 (w.heap.size + 1) (.int .i64 kd) (.int .i64 fr) (.int .i64 to) (.int .i64 tm) (.int .i64 ix) (.int .i64 lt) (.int .i64 cm) (.int .i64 ro) (.bool ok) (.int .i64 off) (.slice a5 dn c5) (.slice a6 en c6)))
  refine hK.out _ _ ?_ (fun hHeld => ?_)
  · (try dsimp only)
    assumption
  clear hK K
  try simp only [Act.put, List.setIfInBounds_toArray, List.set_cons_zero, List.set_cons_succ]
  refine wpAnyH_done (by kernel_rfl) ?_ _
  refine NoPanic.normal ?_
  go_wp2
  have F := Lib.hid (cells12 (stored12 G6.out (.int .i64 kd) (.int .i64 fr) (.int .i64 to) (.int .i64 tm) (.int .i64 ix) (.int .i64 lt) (.int .i64 cm) (.int .i64 ro) (.bool ok) (.int .i64 off) (.slice a5 dn c5) (.slice a6 en c6)))
  have HT : Hid (∀ j n, w6.cell? ⟨w.heap.size + 1, j, none⟩ ≠ some (.int .u8 n)) := fun j n => no8_12 G6.out (by simp) j n
  have FF := Lib.hid (set12_fr w6 (w.heap.size + 1) (.int .i64 kd) (.int .i64 fr) (.int .i64 to) (.int .i64 tm) (.int .i64 ix) (.int .i64 lt) (.int .i64 cm) (.int .i64 ro) (.bool ok) (.int .i64 off) (.slice a5 dn c5) (.slice a6 en c6))
  have FB : Hid (Below w.heap.size w (set12 w6 (w.heap.size + 1) (.int .i64 kd) (.int .i64 fr) (.int .i64 to) (.int .i64 tm) (.int .i64 ix) (.int .i64 lt) (.int .i64 cm) (.int .i64 ro) (.bool ok) (.int .i64 off) (.slice a5 dn c5) (.slice a6 en c6))) := hbel.out _ (S2.1.out.trans FF.out)
  have FI : Hid (IsB (set12 w6 (w.heap.size + 1) (.int .i64 kd) (.int .i64 fr) (.int .i64 to) (.int .i64 tm) (.int .i64 ix) (.int .i64 lt) (.int .i64 cm) (.int .i64 ro) (.bool ok) (.int .i64 off) (.slice a5 dn c5) (.slice a6 en c6)) (.slice a5 dn c5) d) := by
    have h := O6.out
    rw [List.nil_append] at h
    exact h.kept8 FF.out (fun q hq => by subst hq; exact HT.out)
  have FE : Hid (∃ ys, EsS (set12 w6 (w.heap.size + 1) (.int .i64 kd) (.int .i64 fr) (.int .i64 to) (.int .i64 tm) (.int .i64 ix) (.int .i64 lt) (.int .i64 cm) (.int .i64 ro) (.bool ok) (.int .i64 off) (.slice a5 dn c5) (.slice a6 en c6)) (.slice a6 en c6) ys ∧ ys.map RE.ent = es.map RE.ent) := by
    obtain ⟨ys, h, hm, ho⟩ := y6.out
    exact ⟨ys, h.kept FF.out (fun q hq => by subst hq; exact HT.out) (fun b hb => by have := ho b hb; have := Hsz.out; omega), hm⟩
  clear S3 hHeld G6 HZ O6 s0 s1 s2 s3 s4 s5 s6 s7 s8 s9 sa sb sf S1 S2 y6
  generalize hW : (((((((((((w6.setCell ⟨w.heap.size + 1, 0, none⟩ (.int .i64 kd)).setCell ⟨w.heap.size + 1, 1, none⟩ (.int .i64 fr)).setCell ⟨w.heap.size + 1, 2, none⟩ (.int .i64 to)).setCell ⟨w.heap.size + 1, 3, none⟩ (.int .i64 tm)).setCell ⟨w.heap.size + 1, 4, none⟩ (.int .i64 ix)).setCell ⟨w.heap.size + 1, 5, none⟩ (.int .i64 lt)).setCell ⟨w.heap.size + 1, 6, none⟩ (.int .i64 cm)).setCell ⟨w.heap.size + 1, 7, none⟩ (.int .i64 ro)).setCell ⟨w.heap.size + 1, 8, none⟩ (.bool ok)).setCell ⟨w.heap.size + 1, 9, none⟩ (.int .i64 off)).setCell ⟨w.heap.size + 1, 10, none⟩ (.slice a5 dn c5)).setCell ⟨w.heap.size + 1, 11, none⟩ (.slice a6 en c6) = W' at *
  have hW' : W' = set12 w6 (w.heap.size + 1) (.int .i64 kd) (.int .i64 fr) (.int .i64 to) (.int .i64 tm) (.int .i64 ix) (.int .i64 lt) (.int .i64 cm) (.int .i64 ro) (.bool ok) (.int .i64 off) (.slice a5 dn c5) (.slice a6 en c6) := hW.symm
  rw [← hW'] at F FB FI FE
  obtain ⟨⟨e0, e1, e2, e3, e4, e5, e6, e7, e8, e9, ea', eb⟩, _⟩ := F.out
  refine bodyPost_ret (v := .agg #[.int .i64 kd, .int .i64 fr, .int .i64 to, .int .i64 tm, .int .i64 ix, .int .i64 lt, .int .i64 cm, .int .i64 ro, .bool ok, .int .i64 off, .slice a5 dn c5, .slice a6 en c6]) (by simp [results, Tryz.results14, go_sem, e0, e1, e2, e3, e4, e5, e6, e7, e8, e9, ea', eb]) rfl ?_
  obtain ⟨ys, h, hm⟩ := FE.out
  exact ⟨⟨⟨kd, fr, to, tm, ix, lt, cm, ro, ok, off, a5, dn, c5, d, a6, en, c6, ys⟩, rfl, ⟨HL.out, FI.out, h⟩, by rw [hm]⟩, FB.out⟩
end Go.Proofs.YtbgockggbpmhnaaGreatDoor
