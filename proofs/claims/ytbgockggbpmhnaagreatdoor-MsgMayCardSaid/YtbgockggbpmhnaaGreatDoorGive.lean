/-
  The law's own helpers: giveEntry, giveEntries, longEntries, longMsg, giveMsg, by contracts.
  Conditions: what is given reads as such.
-/
import Derived.Test.YtbgockggbpmhnaaGreatDoorEs
namespace Go.Proofs.YtbgockggbpmhnaaGreatDoor
open Go Go.RowKit

set_option maxRecDepth 100000 in
set_option maxHeartbeats 4000000 in
theorem giveEntry_any (x : RE) (w : World) (hf : x.Fit w) (hb : x.n ≤ roomB) :
    Calls Tryz.prog 68 #[.agg #[.int .i64 x.i, .int .i64 x.t, .int .i64 x.k, .slice x.a x.n x.c]] w fun e w' => (∃ a c, e = .returned (.agg #[.int .i64 x.i, .int .i64 x.t, .int .i64 x.k, .slice a x.n c]) ∧ IsB w' (.slice a x.n c) x.d) ∧ Below w.heap.size w w' := by
  obtain ⟨i, t, k, a, n, c, d⟩ := x
  obtain ⟨hl, hv⟩ := hf
  simp only at hl hv hb ⊢
  have HV := Lib.hid hv
  have HL := Lib.hid hl
  have HB := Lib.hid hb
  clear hl hv hb
  go_enter Tryz.func68, Tryz.ntmps68
  go_wp2_with fail
  obtain ⟨W, hW⟩ : ∃ W, W = (w.alloc (.cells #[.int .i64 i, .int .i64 t, .int .i64 k, .slice a n c] 71)).alloc (.cells #[.int .i64 0, .int .i64 0, .int .i64 0, .slice none 0 0] 57) := ⟨_, rfl⟩
  have bW : Below W.heap.size W W := Below.refl _ _
  have bW' : Below ((w.alloc (.cells #[.int .i64 i, .int .i64 t, .int .i64 k, .slice a n c] 71)).alloc (.cells #[.int .i64 0, .int .i64 0, .int .i64 0, .slice none 0 0] 57)).heap.size ((w.alloc (.cells #[.int .i64 i, .int .i64 t, .int .i64 k, .slice a n c] 71)).alloc (.cells #[.int .i64 0, .int .i64 0, .int .i64 0, .slice none 0 0] 57)) W := by rw [← hW]; exact bW
  obtain ⟨gP, gE, bb⟩ := own2 bW'
  rw [← hW]
  clear bW bW' hW
  obtain ⟨p0, p1, p2, p3, pf0, pf1, pf2, pf3⟩ := cells4 gP
  obtain ⟨q0, q1, q2, q3, qf0, qf1, qf2, qf3⟩ := cells4 gE
  have hsz : w.heap.size + 1 < W.heap.size := (Array.getElem?_eq_some_iff.1 gE).1
  have cont : Hid (∀ V, Fr (fun k => k = w.heap.size + 1) W V → (Hid (Fr (fun k => k = w.heap.size + 1) W V) ∧ V.cell? ⟨w.heap.size, 0, none⟩ = some (.int .i64 i) ∧ V.cell? ⟨w.heap.size, 1, none⟩ = some (.int .i64 t) ∧ V.cell? ⟨w.heap.size, 2, none⟩ = some (.int .i64 k) ∧ V.cell? ⟨w.heap.size, 3, none⟩ = some (.slice a n c))) := fun V f => by
    have hk := f.block w.heap.size (by omega) (by omega)
    exact ⟨Lib.hid f, (World.cell?_of_block hk).trans p0, (World.cell?_of_block hk).trans p1, (World.cell?_of_block hk).trans p2, (World.cell?_of_block hk).trans p3⟩
  have S0 := cont.out W.drew (Fr.refl _ _).drew
  have GE := Lib.hid gE
  have BB := Lib.hid bb
  have SRC := Lib.hid (srcB_of (tx := 22) Tryz.underlying22 ((HV.out.below bb).kept (X := fun _ => False) ((Fr.refl _ W).drew) (fun _ _ x => x)))
  have Hsz := Lib.hid hsz
  clear gP gE bb p0 p1 p2 p3 pf0 pf1 pf2 pf3 q0 q1 q2 q3 qf0 qf1 qf2 qf3 hsz HV
  refine wp_region_noPanic ?_
  refine wp_region_held_drew (S := fun V => (Hid (Fr (fun k => k = w.heap.size + 1) W V) ∧ V.cell? ⟨w.heap.size, 0, none⟩ = some (.int .i64 i) ∧ V.cell? ⟨w.heap.size, 1, none⟩ = some (.int .i64 t) ∧ V.cell? ⟨w.heap.size, 2, none⟩ = some (.int .i64 k) ∧ V.cell? ⟨w.heap.size, 3, none⟩ = some (.slice a n c))) (by kernel_rfl) S0 (fun hHeld => ?_)
  refine wpAnyH_take (i := 0) (v := ?hv0) (List.getElem?_toArray.trans rfl) (by kernel_rfl) (by kernel_rfl) (by kernel_rfl) (fun _ _ _ h => h) (Or.inl ⟨by rfl, ?hy0⟩) (by assumption) ?hr0
  case hy0 => (intro wt hSw; (try dsimp only at hSw); go_simp; try (with_reducible rfl))
  try simp only [Act.put, List.setIfInBounds_toArray, List.set_cons_zero, List.set_cons_succ]
  refine wpAnyH_take (i := 1) (v := ?hv1) (List.getElem?_toArray.trans rfl) (by kernel_rfl) (by kernel_rfl) (by kernel_rfl) (fun _ _ _ h => h) (Or.inl ⟨by rfl, ?hy1⟩) (by assumption) ?hr1
  case hy1 => (intro wt hSw; (try dsimp only at hSw); go_simp; try (with_reducible rfl))
  try simp only [Act.put, List.setIfInBounds_toArray, List.set_cons_zero, List.set_cons_succ]
  refine wpAnyH_take (i := 2) (v := ?hv2) (List.getElem?_toArray.trans rfl) (by kernel_rfl) (by kernel_rfl) (by kernel_rfl) (fun _ _ _ h => h) (Or.inl ⟨by rfl, ?hy2⟩) (by assumption) ?hr2
  case hy2 => (intro wt hSw; (try dsimp only at hSw); go_simp; try (with_reducible rfl))
  try simp only [Act.put, List.setIfInBounds_toArray, List.set_cons_zero, List.set_cons_succ]
  refine wpAnyH_take (i := 3) (v := ?hv3) (List.getElem?_toArray.trans rfl) (by kernel_rfl) (by kernel_rfl) (by kernel_rfl) (fun _ _ _ h => h) (Or.inl ⟨by rfl, ?hy3⟩) (by assumption) ?hr3
  case hy3 => (intro wt hSw; (try dsimp only at hSw); go_simp; try (with_reducible rfl))
  try simp only [Act.put, List.setIfInBounds_toArray, List.set_cons_zero, List.set_cons_succ]
  refine wpAnyH_take (i := 4) (v := ?hv4) (List.getElem?_toArray.trans rfl) (by kernel_rfl) (by kernel_rfl) (by kernel_rfl) (fun _ _ _ h => h) (Or.inl ⟨by rfl, ?hy4⟩) (by assumption) ?hr4
  case hy4 => (intro wt hSw; (try dsimp only at hSw); go_simp; try (with_reducible rfl))
  try simp only [Act.put, List.setIfInBounds_toArray, List.set_cons_zero, List.set_cons_succ]
  refine wpAnyH_take (i := 5) (v := ?hv5) (List.getElem?_toArray.trans rfl) (by kernel_rfl) (by kernel_rfl) (by kernel_rfl) (fun _ _ _ h => h) (Or.inl ⟨by rfl, ?hy5⟩) (by assumption) ?hr5
  case hy5 => (intro wt hSw; (try dsimp only at hSw); go_simp; try (with_reducible rfl))
  try simp only [Act.put, List.setIfInBounds_toArray, List.set_cons_zero, List.set_cons_succ]
  refine wpAnyH_take (i := 6) (v := ?hv6) (List.getElem?_toArray.trans rfl) (by kernel_rfl) (by kernel_rfl) (by kernel_rfl) (fun _ _ _ h => h) (Or.inl ⟨by rfl, ?hy6⟩) (by assumption) ?hr6
  case hy6 => (intro wt hSw; (try dsimp only at hSw); go_simp; try (with_reducible rfl))
  try simp only [Act.put, List.setIfInBounds_toArray, List.set_cons_zero, List.set_cons_succ]
  refine wpAnyH_take (i := 7) (v := ?hv7) (List.getElem?_toArray.trans rfl) (by kernel_rfl) (by kernel_rfl) (by kernel_rfl) (fun _ _ _ h => h) (Or.inl ⟨by rfl, ?hy7⟩) (by assumption) ?hr7
  case hy7 => (intro wt hSw; (try dsimp only at hSw); go_simp; try (with_reducible rfl))
  try simp only [Act.put, List.setIfInBounds_toArray, List.set_cons_zero, List.set_cons_succ]
  refine wpAnyH_take (i := 8) (v := ?hv8) (List.getElem?_toArray.trans rfl) (by kernel_rfl) (by kernel_rfl) (by kernel_rfl) (fun _ _ _ h => h) (Or.inl ⟨by rfl, ?hy8⟩) (by assumption) ?hr8
  case hy8 => (intro wt hSw; (try dsimp only at hSw); go_simp; try (with_reducible rfl))
  try simp only [Act.put, List.setIfInBounds_toArray, List.set_cons_zero, List.set_cons_succ]
  refine wpAnyH_ready (rs := [9]) (by kernel_rfl) (by simp) ?_
  refine AllReadyH.cons (List.getElem?_toArray.trans rfl) (fun K hK => ?_) AllReadyH.nil
  refine step_appN rfl (.tmp 10) (.tmp 12) rfl T22 (.slice none 0 0) (.slice a n c) (n := 0) (m := n) rfl HL.out rfl (OwnB.nil _) rfl SRC.out (by have := HB.out; omega) ?_
  intro a5 c5 w5 o5 g5 b5
  rw [Nat.zero_add] at o5 b5 ⊢
  have Z : Fr (fun _ => False) W w5 := ((Fr.refl _ W).drew).trans (g5.mono (fun k _ h => by simp [Value.ownBlock] at h))
  have G5 := Lib.hid (Z.heap GE.out (fun x => x))
  obtain ⟨s0, s1, s2, s3, sf0, sf1, sf2, sf3⟩ := cells4 G5.out
  have O5 := Lib.hid o5.isB
  have HZ := Lib.hid Z
  have S1 := cont.out w5 (Z.mono (fun _ _ x => x.elim))
  clear Z o5 g5 b5
  refine hK.out _ _ ?_ (fun hHeld => ?_)
  · (try dsimp only)
    assumption
  clear hK K
  try simp only [Act.put, List.setIfInBounds_toArray, List.set_cons_zero, List.set_cons_succ]
  refine wpAnyH_take (i := 10) (v := ?hv10) (List.getElem?_toArray.trans rfl) (by kernel_rfl) (by kernel_rfl) (by kernel_rfl) (fun _ _ _ h => h) (Or.inl ⟨by rfl, ?hy10⟩) (by assumption) ?hr10
  case hy10 => (intro wt hSw; (try dsimp only at hSw); go_simp; try (with_reducible rfl))
  try simp only [Act.put, List.setIfInBounds_toArray, List.set_cons_zero, List.set_cons_succ]
  refine wpAnyH_ready (rs := [11]) (by kernel_rfl) (by simp) ?_
  refine AllReadyH.cons (List.getElem?_toArray.trans rfl) (fun K hK => ?_) AllReadyH.nil
  go_simp
  have S2 := cont.out _ ((HZ.out.mono (fun _ _ x => x.elim)).trans (set4_fr w5 (w.heap.size + 1) (.int .i64 i) (.int .i64 t) (.int .i64 k) (.slice a5 n c5)))
  refine hK.out _ _ ?_ (fun hHeld => ?_)
  · (try dsimp only)
    assumption
  clear hK K
  try simp only [Act.put, List.setIfInBounds_toArray, List.set_cons_zero, List.set_cons_succ]
  refine wpAnyH_done (by kernel_rfl) ?_ _
  refine NoPanic.normal ?_
  go_wp2
  have F := Lib.hid (cells4 (stored4 G5.out (.int .i64 i) (.int .i64 t) (.int .i64 k) (.slice a5 n c5)))
  have FB : Hid (Below w.heap.size w (set4 w5 (w.heap.size + 1) (.int .i64 i) (.int .i64 t) (.int .i64 k) (.slice a5 n c5))) :=
    Fr.belowM (BB.out.trans (HZ.out.below.mono BB.out.size)) (set4_fr w5 _ _ _ _ _) (by omega) (Array.getElem?_eq_some_iff.1 G5.out).1
  have FI : Hid (IsB (set4 w5 (w.heap.size + 1) (.int .i64 i) (.int .i64 t) (.int .i64 k) (.slice a5 n c5)) (.slice a5 n c5) d) := by
    have h := O5.out
    rw [List.nil_append] at h
    exact h.kept8 (set4_fr w5 _ _ _ _ _) (fun q hq j m => by
      subst hq
      intro e
      simp only [World.cell?, G5.out] at e
      have hj : j = 0 ∨ j = 1 ∨ j = 2 ∨ j = 3 ∨ 4 ≤ j := by omega
      rcases hj with rfl | rfl | rfl | rfl | hj
      · simp at e
      · simp at e
      · simp at e
      · simp at e
      · simp [Array.getElem?_eq_none (show (#[Value.int .i64 0, .int .i64 0, .int .i64 0, .slice none 0 0] : Array Value).size ≤ j from hj)] at e)
  clear S2 hHeld G5 HZ O5 s0 s1 s2 s3 sf0 sf1 sf2 sf3 S1
  generalize hW : (((w5.setCell ⟨w.heap.size + 1, 0, none⟩ (.int .i64 i)).setCell ⟨w.heap.size + 1, 1, none⟩ (.int .i64 t)).setCell ⟨w.heap.size + 1, 2, none⟩ (.int .i64 k)).setCell ⟨w.heap.size + 1, 3, none⟩ (.slice a5 n c5) = W' at *
  have hW' : W' = set4 w5 (w.heap.size + 1) (.int .i64 i) (.int .i64 t) (.int .i64 k) (.slice a5 n c5) := hW.symm
  rw [← hW'] at F FB FI
  obtain ⟨e0, e1, e2, e3, _⟩ := F.out
  refine bodyPost_ret (v := .agg #[.int .i64 i, .int .i64 t, .int .i64 k, .slice a5 n c5]) (by simp [results, Tryz.results68, go_sem, e0, e1, e2, e3]) rfl ?_
  exact ⟨⟨a5, c5, rfl, FI.out⟩, FB.out⟩

theorem below_of_fr {w w1 w2 : World} {v : Value} (b : Below w.heap.size w w1) (f : Fr (fun k => v.ownBlock = some k) w1 w2) (h : ∀ k, v.ownBlock = some k → w.heap.size ≤ k) : Below w.heap.size w w2 :=
  b.trans ⟨f.os, f.tape, f.output, f.size, fun k hk => f.block k (Nat.lt_of_lt_of_le hk b.size) (fun e => by have := h k e; omega)⟩
set_option maxRecDepth 100000 in
set_option maxHeartbeats 4000000 in
theorem giveEntries_any (xs : List RE) (a : Option Addr) (n c : Nat) (w : World) (hv : EsS w (.slice a n c) xs) (hn : n ≤ 1000) (hb : ∀ x ∈ xs, x.n ≤ roomB) :
    Calls Tryz.prog 39 #[.slice a n c] w fun e w' => (∃ a' c' ys, e = .returned (.slice a' n c') ∧ EsS w' (.slice a' n c') ys ∧ ys.map RE.ent = xs.map RE.ent ∧ ∀ b, Value.ownBlock (.slice a' n c') = some b → w.heap.size ≤ b) ∧ Below w.heap.size w w' := by
  have HV := Lib.hid hv
  have Hlen := Lib.hid hv.len
  have HN := Lib.hid hn
  have hn63 : (n : Int) ≤ 9223372036854775807 := by omega
  have HG := Lib.hid (fun (x : RE) (W : World) (hm : x ∈ xs) (hf : x.Fit W) => giveEntry_any x W hf (hb x hm))
  clear hv hb hn
  go_enter Tryz.func39, Tryz.ntmps39
  go_wp2
  go_loopw [3, 4] (fun v3 v4 W => ∃ (k : Nat) (a' : Option Addr) (c' : Nat) (ys : List RE), k ≤ n ∧ v4 = .int .i64 k ∧ v3 = .slice a' k c' ∧ Hid (ys.length = k ∧ OwnE W (.slice a' k c') ys ∧ ys.map RE.ent = (xs.take k).map RE.ent ∧ (∀ b, Value.ownBlock (.slice a' k c') = some b → w.heap.size ≤ b) ∧ Below w.heap.size w W)) (fun _ v4 _ => n - (intOf v4).toNat)
  case atStart => exact ⟨0, none, 0, [], Nat.zero_le _, rfl, rfl, Lib.hid ⟨rfl, OwnE.nil _, rfl, fun b hb => by simp [Value.ownBlock] at hb, Below.refl _ _⟩⟩
  case round =>
    obtain ⟨k, a', c', ys, hk, rfl, rfl, H⟩ := hrel
    by_cases hlt : k < n
    · have hkx : k < xs.length := by have := Hlen.out; omega
      obtain ⟨x, hx⟩ : ∃ x, xs[k]? = some x := ⟨_, List.getElem?_eq_getElem hkx⟩
      have hxm : x ∈ xs := List.mem_of_getElem? hx
      obtain ⟨⟨b, o, rfl, c0, c1, c2, c3⟩, hf⟩ := (HV.out.below (by exact H.out.2.2.2.2)).at k x hx
      have HC := Lib.hid (HG.out x wr hxm hf)
      have Hnext : Hid (ys.map RE.ent ++ [x.ent] = (xs.take (k + 1)).map RE.ent) := by
        have e : xs.take (k + 1) = xs.take k ++ [x] := by rw [List.take_succ_eq_append_getElem hkx]; congr 1; simpa [List.getElem?_eq_getElem hkx] using hx
        show ys.map RE.ent ++ [x.ent] = (xs.take (k + 1)).map RE.ent
        rw [e, List.map_append, H.out.2.2.1]; rfl
      obtain ⟨i, t, kk, da, dn, dc, d⟩ := x
      simp only at HC c0 c1 c2 c3
      have hd : d.length = dn := hf.len
      have Hd := Lib.hid hd
      clear hf HG HV hx hxm hkx hd
      go_wp2_with fail
      refine HC.out.mono ?_
      rintro e w1 ⟨⟨a5, c5, rfl, i5⟩, b1⟩
      obtain ⟨h1, h2, h3, h4, h5⟩ := H.out
      have hB1 : Below w.heap.size w w1 := h5.trans (b1.mono h5.size)
      have hal : Below w1.heap.size w1 (w1.alloc (.cells #[.int .i64 i, .int .i64 t, .int .i64 kk, .slice a5 dn c5] 57)) := (Below.refl _ _).alloc (Nat.le_refl _) _
      have O1 : Hid (OwnE (w1.alloc (.cells #[.int .i64 i, .int .i64 t, .int .i64 kk, .slice a5 dn c5] 57)) (.slice a' k c') ys) := Lib.hid ((h2.below b1).below hal)
      have F1 : Hid ((⟨i, t, kk, a5, dn, c5, d⟩ : RE).Fit (w1.alloc (.cells #[.int .i64 i, .int .i64 t, .int .i64 kk, .slice a5 dn c5] 57))) := Lib.hid ⟨Hd.out, i5.below hal⟩
      have BA : Hid (Below w.heap.size w (w1.alloc (.cells #[.int .i64 i, .int .i64 t, .int .i64 kk, .slice a5 dn c5] 57))) := Lib.hid (hB1.alloc hB1.size _)
      have C1 : Hid (∀ (j : Nat) (u : Value), (⟨i, t, kk, a5, dn, c5, d⟩ : RE).vals[j]? = some u → (w1.alloc (.cells #[.int .i64 i, .int .i64 t, .int .i64 kk, .slice a5 dn c5] 57)).cell? ⟨w1.heap.size, j, none⟩ = some u) := Lib.hid (fun j u hu => by
        rw [World.cell?_alloc_new]
        rw [← hu, RE.vals]
        simp)
      have L1 := Lib.hid h1
      have X1 := Lib.hid h4
      clear h1 h2 h3 h4 h5 H HC b1 i5 hal hB1 c0 c1 c2 c3
      go_wp2_with (at_builtin; refine wpList_appE rfl (.tmp 11) (.tmp 17) rfl T28 (v := .slice a' k c') (n := k) L1.out rfl O1.out rfl C1.out F1.out (by have := HN.out; omega) ?_; intro a6 c6 w6 o6 g6 b6; have O6 := Lib.hid o6; have B6 := Lib.hid b6; have G6 := Lib.hid g6; clear o6 b6 g6)
      refine ⟨⟨k + 1, a6, c6, _, hlt, by simp, rfl, Lib.hid ⟨by rw [List.length_append, L1.out]; rfl, O6.out, ?_, ?_, below_of_fr BA.out G6.out X1.out⟩⟩, by simp [intOf]; omega⟩
      · rw [List.map_append]; exact Hnext.out
      · intro q hq
        rcases B6.out with e | ⟨g, rfl, hg⟩
        · rw [e] at hq; exact X1.out q hq
        · have := BA.out.size; simp [Value.ownBlock] at hq; omega
    · obtain rfl : k = n := by omega
      go_wp2
      go_ret
      obtain ⟨h1, h2, h3, h4, h5⟩ := H.out
      refine ⟨⟨a', c', ys, rfl, h2.esS, ?_, h4⟩, h5⟩
      rw [h3, List.take_of_length_le (by have := Hlen.out; omega)]
end Go.Proofs.YtbgockggbpmhnaaGreatDoor
