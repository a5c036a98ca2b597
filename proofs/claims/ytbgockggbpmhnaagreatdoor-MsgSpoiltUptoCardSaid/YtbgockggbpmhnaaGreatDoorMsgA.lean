/-
  msg.Seal, msg.Open, sure, by contracts; a message that came in, opened.
  Conditions: the listed variables read as listed (Env); what is opened is at most 2^47 long.
-/
import Derived.Test.YtbgockggbpmhnaaGreatDoorDec
import Derived.Test.YtbgockggbpmhnaaGreatDoorEnc
import Derived.Test.YtbgockggbpmhnaaGreatDoorSeal3
import Derived.Test.YtbgockggbpmhnaaGreatDoorThings
import Derived.Test.YtbgockggbpmhnaaGreatDoorGive3
namespace Go.Proofs.YtbgockggbpmhnaaGreatDoor
open Go Go.RowKit

theorem EsS.keptZ {V V' : World} {v : Value} {xs : List RE} {R : Nat} {t : TypeId} (h : EsS V v xs) (f : Fr (fun k => k = R) V V') (hz : V.heap[R]? = some (.cells #[.int .i64 0, .int .i64 0, .int .i64 0, .int .i64 0, .int .i64 0, .int .i64 0, .int .i64 0, .int .i64 0, .bool false, .int .i64 0, .slice none 0 0, .slice none 0 0] t)) : EsS V' v xs := by
  by_cases h0 : xs = []
  · subst h0
    obtain ⟨a, cap, rfl, h1, h2, _, _⟩ := h
    exact ⟨a, cap, rfl, h1, h2, .inl rfl, fun x hx => by simp at hx⟩
  · refine h.kept f (fun q hq j n => by subst hq; exact no8_12 hz (by simp) j n) (fun b hb e => ?_)
    subst e
    obtain ⟨a, cap, rfl, h1, h2, h3, _⟩ := h
    rcases h3 with h3 | ⟨b', o, rfl, hc⟩
    · exact h0 h3
    · simp [Value.ownBlock] at hb
      subst hb
      obtain ⟨x, hx⟩ : ∃ x, xs[0]? = some x := ⟨_, List.getElem?_eq_getElem (List.length_pos_iff.2 h0)⟩
      obtain ⟨c0, c1, _, c3⟩ := hc 0 x hx
      simp only [World.cell?, hz] at c0 c1 c3
      have ho : o = 0 ∨ o = 1 ∨ o = 2 ∨ o = 3 ∨ o = 4 ∨ o = 5 ∨ o = 6 ∨ o = 7 ∨ o = 8 ∨ 9 ≤ o := by omega
      rcases ho with rfl | rfl | rfl | rfl | rfl | rfl | rfl | rfl | rfl | ho
      · simp at c3
      · simp at c3
      · simp at c3
      · simp at c3
      · simp at c3
      · simp at c3
      · simp at c3
      · simp at c1
      · simp at c0
      · rw [Array.getElem?_eq_none (by simp; omega)] at c3; cases c3
set_option maxRecDepth 100000 in
set_option maxHeartbeats 4000000 in
theorem mseal_any (x : RM) (w : World) (hE : Env w) (hf : x.Fit w) (hroom : (PK.encM x.msg).length + 1000 ≤ roomB) :
    Calls Tryz.prog 22 #[x.val] w fun e w' => RW w w' e (PK.sealM x.msg) := by
  have HEn := Lib.hid (fun (V : World) (b : Below w.heap.size w V) => encM_any x V (hE.below b) (hf.below b) hroom)
  have HSe := Lib.hid (fun (V : World) (a : Option Addr) (n c : Nat) (hl : (PK.encM x.msg).length = n) (hv : IsB V (.slice a n c) (PK.encM x.msg)) => seal_any a n c (PK.encM x.msg) V hl hv)
  have Hs : Hid (PK.sealM x.msg = if 1048576 < (PK.encM x.msg).length then [] else PK.sealP 109 (PK.encM x.msg)) := Lib.hid rfl
  generalize PK.sealM x.msg = R at *
  generalize PK.encM x.msg = L at *
  obtain ⟨kd, fr, to, tm, ix, lt, cm, ro, ok, off, da, dn, dc, d, ea, en, ec, es⟩ := x
  simp only [RM.val] at HEn ⊢
  clear hE hf hroom
  go_enter Tryz.func22, Tryz.ntmps22
  go_wp2_with fail
  have Ba : Below w.heap.size w (w.alloc (.cells #[.int .i64 kd, .int .i64 fr, .int .i64 to, .int .i64 tm, .int .i64 ix, .int .i64 lt, .int .i64 cm, .int .i64 ro, .bool ok, .int .i64 off, .slice da dn dc, .slice ea en ec] 30)) := (Below.refl _ _).alloc (Nat.le_refl _) _
  refine (HEn.out _ Ba).mono ?_
  rintro e w1 ⟨⟨a1, n1, c1, rfl, hn1, o1, _⟩, b1⟩
  have B1 : Hid (Below w.heap.size w w1) := Ba.trans (b1.mono Ba.size)
  have HS1 := Lib.hid (HSe.out w1 a1 n1 c1 hn1 o1.isB)
  clear Ba HEn HSe o1 b1 hn1
  go_wp2_with fail
  refine HS1.out.mono ?_
  rintro e w2 ⟨⟨hlt, rfl⟩ | ⟨hlt, a2, n2, c2, rfl, h2⟩, b2⟩
  · have B2 : Hid (Below w.heap.size w w2) := B1.out.trans (b2.mono B1.out.size)
    have HR : Hid (R = []) := Lib.hid (by rw [Hs.out, if_pos hlt])
    clear hlt b2 HS1 Hs
    simp only [errV]
    go_wp2
    go_ret
    exact ⟨⟨none, 0, 0, rfl, by rw [HR.out]; rfl, by rw [HR.out]; exact OwnB.nil _, fun b hb => by simp [Value.ownBlock] at hb⟩, B2.out⟩
  · have B2 : Hid (Below w.heap.size w w2) := B1.out.trans (b2.mono B1.out.size)
    have HR : Hid (R = PK.sealP 109 L) := Lib.hid (by rw [Hs.out, if_neg hlt])
    clear hlt b2 HS1 Hs
    simp only [errV]
    go_wp2
    go_ret
    exact ⟨⟨a2, n2, c2, rfl, by rw [HR.out]; exact h2.out.1, by rw [HR.out]; exact h2.out.2.1, fun b hb => Nat.le_trans B1.out.size (h2.out.2.2 b hb)⟩, B2.out⟩

theorem openM_eq (l : List UInt8) : PK.openM l = if PK.openE l ≠ 0 ∨ at8 l 0 ≠ 109 then none else PK.decM (PK.openD l) := by
  unfold PK.openM
  by_cases h : PK.openE l = 0
  · have hl : ¬ l.length < 5 := fun h5 => by
      unfold PK.openE at h
      rw [if_pos h5] at h
      cases h
    have e : (l.head? ≠ some 109) ↔ at8 l 0 ≠ 109 := by
      cases l with
      | nil => simp at hl
      | cons c r =>
        simp only [List.head?_cons, ne_eq, Option.some.injEq]
        exact not_congr ⟨fun e => by rw [e]; rfl, fun e => at8_inj e⟩
    simp only [e]
  · rw [if_pos (.inl h), if_pos (.inl h)]
set_option maxRecDepth 100000 in
set_option maxHeartbeats 8000000 in
theorem mopen_any (a : Option Addr) (n c : Nat) (l : List UInt8) (w : World) (hE : Env w) (hl : l.length = n) (hv : IsB w (.slice a n c) l) (hl47 : l.length ≤ roomB) :
    Calls Tryz.prog 20 #[.slice a n c] w fun e w' => DecMR errV w w' e (PK.openM l) := by
  have HO := Lib.hid (fun (V : World) (b : Below w.heap.size w V) => sopen_any a n c l V hl (hv.below b) hl47)
  have hod : (PK.openD l).length ≤ roomB := by unfold PK.openD; simp; omega
  have HD : Hid (∀ (V : World), Below w.heap.size w V → ∀ (a : Option Addr) (n c : Nat), (PK.openD l).length = n → IsB V (.slice a n c) (PK.openD l) → Calls Tryz.prog 11 #[.slice a n c] V fun e w' => DecMR errV V w' e (PK.decM (PK.openD l))) := fun V b a n c hn h => by
    subst hn
    exact decM_any a c (PK.openD l) V (hE.below b) h hod
  have hres := openM_eq l
  have HRs := Lib.hid hres
  generalize PK.openM l = RES at *
  generalize PK.decM (PK.openD l) = RD at *
  obtain ⟨Wa, hWa⟩ : ∃ W, W = w.alloc (.cells #[.int .i64 0, .int .i64 0, .int .i64 0, .int .i64 0, .int .i64 0, .int .i64 0, .int .i64 0, .int .i64 0, .bool false, .int .i64 0, .slice none 0 0, .slice none 0 0] 30) := ⟨_, rfl⟩
  have gA : Hid (Wa.heap[w.heap.size]? = some (.cells #[.int .i64 0, .int .i64 0, .int .i64 0, .int .i64 0, .int .i64 0, .int .i64 0, .int .i64 0, .int .i64 0, .bool false, .int .i64 0, .slice none 0 0, .slice none 0 0] 30)) := Lib.hid (by rw [hWa]; exact heap_alloc_new _ _)
  have bA : Hid (Below w.heap.size w Wa) := Lib.hid (by rw [hWa]; exact (Below.refl _ _).alloc (Nat.le_refl _) _)
  have HO1 := Lib.hid (HO.out Wa bA.out)
  clear hE hl hv hl47 hod hres HO
  go_enter Tryz.func20, Tryz.ntmps20
  go_wp2_with fail
  rw [← hWa]
  clear hWa
  refine HO1.out.mono ?_
  rintro e w1 ⟨⟨h0, rfl⟩ | ⟨h0, a2, n2, c2, rfl, hn2, i2⟩, b1⟩
  · have BW : Hid (Below w.heap.size w w1) := bA.out.trans (b1.mono bA.out.size)
    have GR : Hid (w1.heap[w.heap.size]? = some (.cells #[.int .i64 0, .int .i64 0, .int .i64 0, .int .i64 0, .int .i64 0, .int .i64 0, .int .i64 0, .int .i64 0, .bool false, .int .i64 0, .slice none 0 0, .slice none 0 0] 30)) := Lib.hid ((b1.block _ (Array.getElem?_eq_some_iff.1 gA.out).1).trans gA.out)
    have HRes : Hid (RES = none) := Lib.hid (by rw [HRs.out, if_pos (.inl h0)])
    obtain ⟨q, hq⟩ : ∃ q, PK.openE l = q + 1 := ⟨PK.openE l - 1, by omega⟩
    rw [hq]
    obtain ⟨⟨z0, z1, z2, z3, z4, z5, z6, z7, z8, z9, za, zb⟩, zf⟩ := cells12 GR.out
    clear h0 b1 gA bA HO1 HD HRs hq
    simp only [errV]
    go_wp2
    clear z0 z1 z2 z3 z4 z5 z6 z7 z8 z9 za zb zf
    have FBd := Lib.hid (cells12 (stored12 GR.out (.int .i64 0) (.int .i64 0) (.int .i64 0) (.int .i64 0) (.int .i64 0) (.int .i64 0) (.int .i64 0) (.int .i64 0) (.bool false) (.int .i64 0) (.slice none 0 0) (.slice none 0 0)))
    have fR := set12_fr w1 w.heap.size (.int .i64 0) (.int .i64 0) (.int .i64 0) (.int .i64 0) (.int .i64 0) (.int .i64 0) (.int .i64 0) (.int .i64 0) (.bool false) (.int .i64 0) (.slice none 0 0) (.slice none 0 0)
    have no8R : ∀ q, q = w.heap.size → ∀ j n, w1.cell? ⟨q, j, none⟩ ≠ some (.int .u8 n) := fun q hq j n => by subst hq; exact no8_12 GR.out (by simp) j n
    have BBd : Hid (Below w.heap.size w (set12 w1 w.heap.size (.int .i64 0) (.int .i64 0) (.int .i64 0) (.int .i64 0) (.int .i64 0) (.int .i64 0) (.int .i64 0) (.int .i64 0) (.bool false) (.int .i64 0) (.slice none 0 0) (.slice none 0 0))) := Lib.hid (Fr.belowM BW.out fR (Nat.le_refl _) (Array.getElem?_eq_some_iff.1 GR.out).1)
    clear fR no8R GR BW
    generalize hWf : (((((((((((w1.setCell ⟨w.heap.size, 0, none⟩ (.int .i64 0)).setCell ⟨w.heap.size, 1, none⟩ (.int .i64 0)).setCell ⟨w.heap.size, 2, none⟩ (.int .i64 0)).setCell ⟨w.heap.size, 3, none⟩ (.int .i64 0)).setCell ⟨w.heap.size, 4, none⟩ (.int .i64 0)).setCell ⟨w.heap.size, 5, none⟩ (.int .i64 0)).setCell ⟨w.heap.size, 6, none⟩ (.int .i64 0)).setCell ⟨w.heap.size, 7, none⟩ (.int .i64 0)).setCell ⟨w.heap.size, 8, none⟩ (.bool false)).setCell ⟨w.heap.size, 9, none⟩ (.int .i64 0)).setCell ⟨w.heap.size, 10, none⟩ (.slice none 0 0)).setCell ⟨w.heap.size, 11, none⟩ (.slice none 0 0) = W' at *
    have hWf' : W' = set12 w1 w.heap.size (.int .i64 0) (.int .i64 0) (.int .i64 0) (.int .i64 0) (.int .i64 0) (.int .i64 0) (.int .i64 0) (.int .i64 0) (.bool false) (.int .i64 0) (.slice none 0 0) (.slice none 0 0) := hWf.symm
    rw [← hWf'] at FBd BBd
    obtain ⟨⟨e0, e1, e2, e3, e4, e5, e6, e7, e8, e9, ea', eb⟩, _⟩ := FBd.out
    refine bodyPost_ret (v := .tuple #[zeroM, .iface 60 (.int .i64 3)]) (by simp [results, Tryz.results20, go_sem, e0, e1, e2, e3, e4, e5, e6, e7, e8, e9, ea', eb, zeroM]) rfl ?_
    exact ⟨.inl ⟨HRes.out, rfl⟩, BBd.out⟩
  · have BW : Hid (Below w.heap.size w w1) := bA.out.trans (b1.mono bA.out.size)
    have GR : Hid (w1.heap[w.heap.size]? = some (.cells #[.int .i64 0, .int .i64 0, .int .i64 0, .int .i64 0, .int .i64 0, .int .i64 0, .int .i64 0, .int .i64 0, .bool false, .int .i64 0, .slice none 0 0, .slice none 0 0] 30)) := Lib.hid ((b1.block _ (Array.getElem?_eq_some_iff.1 gA.out).1).trans gA.out)
    have hr := HRs.out
    by_cases hk : at8 l 0 = 109
    · rw [if_neg (by rw [h0]; simp [hk])] at hr
      have Hr := Lib.hid hr
      have HD1 := Lib.hid (HD.out w1 BW.out a2 n2 c2 hn2 i2)
      have hk2 : (at8 l 0 != 109) = false := by rw [hk]; rfl
      clear h0 b1 gA bA HO1 HD HRs hr hn2 i2 hk
      generalize at8 l 0 = k0 at *
      simp only [errV]
      go_wp2_with fail
      refine HD1.out.mono ?_
      rintro e w2 ⟨⟨hn, rfl⟩ | ⟨y, rfl, hfy, hy⟩, b2⟩
      · have BW : Hid (Below w.heap.size w w2) := BW.out.trans (b2.mono BW.out.size)
        have GR : Hid (w2.heap[w.heap.size]? = some (.cells #[.int .i64 0, .int .i64 0, .int .i64 0, .int .i64 0, .int .i64 0, .int .i64 0, .int .i64 0, .int .i64 0, .bool false, .int .i64 0, .slice none 0 0, .slice none 0 0] 30)) := Lib.hid ((b2.block _ (Array.getElem?_eq_some_iff.1 GR.out).1).trans GR.out)
        have HRes : Hid (RES = none) := Lib.hid (by rw [Hr.out, hn])
        obtain ⟨⟨z0, z1, z2, z3, z4, z5, z6, z7, z8, z9, za, zb⟩, zf⟩ := cells12 GR.out
        clear hn b2 HD1 Hr
        simp only [errV, zeroM]
        go_wp2
        clear z0 z1 z2 z3 z4 z5 z6 z7 z8 z9 za zb zf
        have FBd := Lib.hid (cells12 (stored12 GR.out (.int .i64 0) (.int .i64 0) (.int .i64 0) (.int .i64 0) (.int .i64 0) (.int .i64 0) (.int .i64 0) (.int .i64 0) (.bool false) (.int .i64 0) (.slice none 0 0) (.slice none 0 0)))
        have fR := set12_fr w2 w.heap.size (.int .i64 0) (.int .i64 0) (.int .i64 0) (.int .i64 0) (.int .i64 0) (.int .i64 0) (.int .i64 0) (.int .i64 0) (.bool false) (.int .i64 0) (.slice none 0 0) (.slice none 0 0)
        have no8R : ∀ q, q = w.heap.size → ∀ j n, w2.cell? ⟨q, j, none⟩ ≠ some (.int .u8 n) := fun q hq j n => by subst hq; exact no8_12 GR.out (by simp) j n
        have BBd : Hid (Below w.heap.size w (set12 w2 w.heap.size (.int .i64 0) (.int .i64 0) (.int .i64 0) (.int .i64 0) (.int .i64 0) (.int .i64 0) (.int .i64 0) (.int .i64 0) (.bool false) (.int .i64 0) (.slice none 0 0) (.slice none 0 0))) := Lib.hid (Fr.belowM BW.out fR (Nat.le_refl _) (Array.getElem?_eq_some_iff.1 GR.out).1)
        clear fR no8R GR BW
        generalize hWf : (((((((((((w2.setCell ⟨w.heap.size, 0, none⟩ (.int .i64 0)).setCell ⟨w.heap.size, 1, none⟩ (.int .i64 0)).setCell ⟨w.heap.size, 2, none⟩ (.int .i64 0)).setCell ⟨w.heap.size, 3, none⟩ (.int .i64 0)).setCell ⟨w.heap.size, 4, none⟩ (.int .i64 0)).setCell ⟨w.heap.size, 5, none⟩ (.int .i64 0)).setCell ⟨w.heap.size, 6, none⟩ (.int .i64 0)).setCell ⟨w.heap.size, 7, none⟩ (.int .i64 0)).setCell ⟨w.heap.size, 8, none⟩ (.bool false)).setCell ⟨w.heap.size, 9, none⟩ (.int .i64 0)).setCell ⟨w.heap.size, 10, none⟩ (.slice none 0 0)).setCell ⟨w.heap.size, 11, none⟩ (.slice none 0 0) = W' at *
        have hWf' : W' = set12 w2 w.heap.size (.int .i64 0) (.int .i64 0) (.int .i64 0) (.int .i64 0) (.int .i64 0) (.int .i64 0) (.int .i64 0) (.int .i64 0) (.bool false) (.int .i64 0) (.slice none 0 0) (.slice none 0 0) := hWf.symm
        rw [← hWf'] at FBd BBd
        obtain ⟨⟨e0, e1, e2, e3, e4, e5, e6, e7, e8, e9, ea', eb⟩, _⟩ := FBd.out
        refine bodyPost_ret (v := .tuple #[zeroM, .iface 60 (.int .i64 3)]) (by simp [results, Tryz.results20, go_sem, e0, e1, e2, e3, e4, e5, e6, e7, e8, e9, ea', eb, zeroM]) rfl ?_
        exact ⟨.inl ⟨HRes.out, rfl⟩, BBd.out⟩
      · have hw1 : w.heap.size < w1.heap.size := (Array.getElem?_eq_some_iff.1 GR.out).1
        have BW : Hid (Below w.heap.size w w2) := BW.out.trans (b2.mono BW.out.size)
        have gr := (b2.block _ hw1).trans GR.out
        obtain ⟨kd, fr, to, tm, ix, lt, cm, ro, ok, off, da, dn, dc, d, ea, en, ec, es⟩ := y
        have GR : Hid (w2.heap[w.heap.size]? = some (.cells #[.int .i64 0, .int .i64 0, .int .i64 0, .int .i64 0, .int .i64 0, .int .i64 0, .int .i64 0, .int .i64 0, .bool false, .int .i64 0, .slice none 0 0, .slice none 0 0] 30)) := Lib.hid gr
        have HRes : Hid (RES = some (RM.msg ⟨kd, fr, to, tm, ix, lt, cm, ro, ok, off, da, dn, dc, d, ea, en, ec, es⟩)) := Lib.hid (by rw [Hr.out, hy])
        obtain ⟨hfl, hfb, hfe⟩ := hfy
        simp only at hfl hfb hfe
        have HDN := Lib.hid hfl
        have DD0 := Lib.hid hfb
        have EE0 := Lib.hid hfe
        obtain ⟨⟨z0, z1, z2, z3, z4, z5, z6, z7, z8, z9, za, zb⟩, zf⟩ := cells12 GR.out
        clear hy b2 HD1 Hr hfl hfb hfe gr hw1
        simp only [errV, RM.val]
        go_wp2
        clear z0 z1 z2 z3 z4 z5 z6 z7 z8 z9 za zb zf
        have FBd := Lib.hid (cells12 (stored12 GR.out (.int .i64 kd) (.int .i64 fr) (.int .i64 to) (.int .i64 tm) (.int .i64 ix) (.int .i64 lt) (.int .i64 cm) (.int .i64 ro) (.bool ok) (.int .i64 off) (.slice da dn dc) (.slice ea en ec)))
        have fR := set12_fr w2 w.heap.size (.int .i64 kd) (.int .i64 fr) (.int .i64 to) (.int .i64 tm) (.int .i64 ix) (.int .i64 lt) (.int .i64 cm) (.int .i64 ro) (.bool ok) (.int .i64 off) (.slice da dn dc) (.slice ea en ec)
        have no8R : ∀ q, q = w.heap.size → ∀ j n, w2.cell? ⟨q, j, none⟩ ≠ some (.int .u8 n) := fun q hq j n => by subst hq; exact no8_12 GR.out (by simp) j n
        have BBd : Hid (Below w.heap.size w (set12 w2 w.heap.size (.int .i64 kd) (.int .i64 fr) (.int .i64 to) (.int .i64 tm) (.int .i64 ix) (.int .i64 lt) (.int .i64 cm) (.int .i64 ro) (.bool ok) (.int .i64 off) (.slice da dn dc) (.slice ea en ec))) := Lib.hid (Fr.belowM BW.out fR (Nat.le_refl _) (Array.getElem?_eq_some_iff.1 GR.out).1)
        have DD : Hid (IsB (set12 w2 w.heap.size (.int .i64 kd) (.int .i64 fr) (.int .i64 to) (.int .i64 tm) (.int .i64 ix) (.int .i64 lt) (.int .i64 cm) (.int .i64 ro) (.bool ok) (.int .i64 off) (.slice da dn dc) (.slice ea en ec)) (.slice da dn dc) d) := Lib.hid (DD0.out.kept8 fR no8R)
        have EE : Hid (EsS (set12 w2 w.heap.size (.int .i64 kd) (.int .i64 fr) (.int .i64 to) (.int .i64 tm) (.int .i64 ix) (.int .i64 lt) (.int .i64 cm) (.int .i64 ro) (.bool ok) (.int .i64 off) (.slice da dn dc) (.slice ea en ec)) (.slice ea en ec) es) := Lib.hid (EE0.out.keptZ fR GR.out)
        clear fR no8R GR BW
        generalize hWf : (((((((((((w2.setCell ⟨w.heap.size, 0, none⟩ (.int .i64 kd)).setCell ⟨w.heap.size, 1, none⟩ (.int .i64 fr)).setCell ⟨w.heap.size, 2, none⟩ (.int .i64 to)).setCell ⟨w.heap.size, 3, none⟩ (.int .i64 tm)).setCell ⟨w.heap.size, 4, none⟩ (.int .i64 ix)).setCell ⟨w.heap.size, 5, none⟩ (.int .i64 lt)).setCell ⟨w.heap.size, 6, none⟩ (.int .i64 cm)).setCell ⟨w.heap.size, 7, none⟩ (.int .i64 ro)).setCell ⟨w.heap.size, 8, none⟩ (.bool ok)).setCell ⟨w.heap.size, 9, none⟩ (.int .i64 off)).setCell ⟨w.heap.size, 10, none⟩ (.slice da dn dc)).setCell ⟨w.heap.size, 11, none⟩ (.slice ea en ec) = W' at *
        have hWf' : W' = set12 w2 w.heap.size (.int .i64 kd) (.int .i64 fr) (.int .i64 to) (.int .i64 tm) (.int .i64 ix) (.int .i64 lt) (.int .i64 cm) (.int .i64 ro) (.bool ok) (.int .i64 off) (.slice da dn dc) (.slice ea en ec) := hWf.symm
        rw [← hWf'] at FBd BBd DD EE
        obtain ⟨⟨e0, e1, e2, e3, e4, e5, e6, e7, e8, e9, ea', eb⟩, _⟩ := FBd.out
        refine bodyPost_ret (v := .tuple #[.agg #[.int .i64 kd, .int .i64 fr, .int .i64 to, .int .i64 tm, .int .i64 ix, .int .i64 lt, .int .i64 cm, .int .i64 ro, .bool ok, .int .i64 off, .slice da dn dc, .slice ea en ec], .nilIface]) (by simp [results, Tryz.results20, go_sem, e0, e1, e2, e3, e4, e5, e6, e7, e8, e9, ea', eb]) rfl ?_
        exact ⟨.inr ⟨⟨kd, fr, to, tm, ix, lt, cm, ro, ok, off, da, dn, dc, d, ea, en, ec, es⟩, rfl, ⟨HDN.out, DD.out, EE.out⟩, HRes.out⟩, BBd.out⟩
    · rw [if_pos (.inr hk)] at hr
      have HRes := Lib.hid hr
      have hk2 : (at8 l 0 != 109) = true := by rw [bne_iff_ne]; exact hk
      obtain ⟨⟨z0, z1, z2, z3, z4, z5, z6, z7, z8, z9, za, zb⟩, zf⟩ := cells12 GR.out
      clear h0 b1 gA bA HO1 HD HRs hr hn2 i2 hk
      generalize at8 l 0 = k0 at *
      simp only [errV]
      go_wp2
      clear z0 z1 z2 z3 z4 z5 z6 z7 z8 z9 za zb zf
      have FBd := Lib.hid (cells12 (stored12 GR.out (.int .i64 0) (.int .i64 0) (.int .i64 0) (.int .i64 0) (.int .i64 0) (.int .i64 0) (.int .i64 0) (.int .i64 0) (.bool false) (.int .i64 0) (.slice none 0 0) (.slice none 0 0)))
      have fR := set12_fr w1 w.heap.size (.int .i64 0) (.int .i64 0) (.int .i64 0) (.int .i64 0) (.int .i64 0) (.int .i64 0) (.int .i64 0) (.int .i64 0) (.bool false) (.int .i64 0) (.slice none 0 0) (.slice none 0 0)
      have no8R : ∀ q, q = w.heap.size → ∀ j n, w1.cell? ⟨q, j, none⟩ ≠ some (.int .u8 n) := fun q hq j n => by subst hq; exact no8_12 GR.out (by simp) j n
      have BBd : Hid (Below w.heap.size w (set12 w1 w.heap.size (.int .i64 0) (.int .i64 0) (.int .i64 0) (.int .i64 0) (.int .i64 0) (.int .i64 0) (.int .i64 0) (.int .i64 0) (.bool false) (.int .i64 0) (.slice none 0 0) (.slice none 0 0))) := Lib.hid (Fr.belowM BW.out fR (Nat.le_refl _) (Array.getElem?_eq_some_iff.1 GR.out).1)
      clear fR no8R GR BW
      generalize hWf : (((((((((((w1.setCell ⟨w.heap.size, 0, none⟩ (.int .i64 0)).setCell ⟨w.heap.size, 1, none⟩ (.int .i64 0)).setCell ⟨w.heap.size, 2, none⟩ (.int .i64 0)).setCell ⟨w.heap.size, 3, none⟩ (.int .i64 0)).setCell ⟨w.heap.size, 4, none⟩ (.int .i64 0)).setCell ⟨w.heap.size, 5, none⟩ (.int .i64 0)).setCell ⟨w.heap.size, 6, none⟩ (.int .i64 0)).setCell ⟨w.heap.size, 7, none⟩ (.int .i64 0)).setCell ⟨w.heap.size, 8, none⟩ (.bool false)).setCell ⟨w.heap.size, 9, none⟩ (.int .i64 0)).setCell ⟨w.heap.size, 10, none⟩ (.slice none 0 0)).setCell ⟨w.heap.size, 11, none⟩ (.slice none 0 0) = W' at *
      have hWf' : W' = set12 w1 w.heap.size (.int .i64 0) (.int .i64 0) (.int .i64 0) (.int .i64 0) (.int .i64 0) (.int .i64 0) (.int .i64 0) (.int .i64 0) (.bool false) (.int .i64 0) (.slice none 0 0) (.slice none 0 0) := hWf.symm
      rw [← hWf'] at FBd BBd
      obtain ⟨⟨e0, e1, e2, e3, e4, e5, e6, e7, e8, e9, ea', eb⟩, _⟩ := FBd.out
      refine bodyPost_ret (v := .tuple #[zeroM, .iface 60 (.int .i64 3)]) (by simp [results, Tryz.results20, go_sem, e0, e1, e2, e3, e4, e5, e6, e7, e8, e9, ea', eb, zeroM]) rfl ?_
      exact ⟨.inl ⟨HRes.out, rfl⟩, BBd.out⟩
end Go.Proofs.YtbgockggbpmhnaaGreatDoor

namespace Go.Proofs.YtbgockggbpmhnaaGreatDoor
open Go Go.RowKit

def m0 : PK.Msg := ⟨1, 1, 2, 3, 0, 0, 0, 0, false, 0, [], []⟩
theorem m0_may : PK.mayM m0 := by decide
set_option maxRecDepth 100000 in
set_option maxHeartbeats 4000000 in
theorem sure_any (w : World) (hE : Env w) :
    Calls Tryz.prog 10 #[] w fun e w' => e = .returned (.bool true) ∧ Below w.heap.size w w' := by
  have hsm := PK.encM_small m0 m0_may
  have hopen := PK.openM_sealM m0 m0_may
  have hsl : (PK.sealM m0).length ≤ roomB := by rw [PK.sealM_may m0 m0_may, PK.seal_len]; simp only [roomB]; omega
  have HS : Hid (∀ V, Below w.heap.size w V → Calls Tryz.prog 22 #[.agg #[.int .i64 1, .int .i64 1, .int .i64 2, .int .i64 3, .int .i64 0, .int .i64 0, .int .i64 0, .int .i64 0, .bool false, .int .i64 0, .slice none 0 0, .slice none 0 0]] V fun e w' => RW V w' e (PK.sealM m0)) := fun V b =>
    mseal_any ⟨1, 1, 2, 3, 0, 0, 0, 0, false, 0, none, 0, 0, [], none, 0, 0, []⟩ V (hE.below b) ⟨rfl, IsB.nil _, EsS.nil _⟩ (by show (PK.encM m0).length + 1000 ≤ roomB; simp only [roomB]; omega)
  have HO : Hid (∀ (V : World) (a : Option Addr) (n c : Nat), Below w.heap.size w V → (PK.sealM m0).length = n → IsB V (.slice a n c) (PK.sealM m0) → Calls Tryz.prog 20 #[.slice a n c] V fun e w' => DecMR errV V w' e (some m0)) := fun V a n c b hn hi => by
    have := mopen_any a n c (PK.sealM m0) V (hE.below b) hn hi hsl
    rw [hopen] at this
    exact this
  have hzm : ¬ PK.mayM (RM.msg ⟨0, 0, 0, 0, 0, 0, 0, 0, false, 0, none, 0, 0, [], none, 0, 0, []⟩) := by decide
  have HC : Hid (∀ V, Calls Tryz.prog 13 #[.agg #[.int .i64 0, .int .i64 0, .int .i64 0, .int .i64 0, .int .i64 0, .int .i64 0, .int .i64 0, .int .i64 0, .bool false, .int .i64 0, .slice none 0 0, .slice none 0 0]] V fun e w' => e = .returned (errV 1) ∧ Below V.heap.size V w') := fun V => by
    have := check_any ⟨0, 0, 0, 0, 0, 0, 0, 0, false, 0, none, 0, 0, [], none, 0, 0, []⟩ V ⟨rfl, IsB.nil _, EsS.nil _⟩
    rw [if_neg hzm] at this
    exact this
  have HNum : Hid (∀ V, Below w.heap.size w V → Calls Tryz.prog 18 #[errV 1] V fun e w' => e = .returned (.int .i64 1) ∧ Below V.heap.size V w') := fun V b => num_any 1 V (hE.below b)
  generalize PK.sealM m0 = SM at *
  clear hsm hopen hsl hzm hE
  go_enter Tryz.func10, Tryz.ntmps10
  go_wp2_with fail
  have Ba : Below w.heap.size w (w.alloc (.cells #[.int .i64 1, .int .i64 1, .int .i64 2, .int .i64 3, .int .i64 0, .int .i64 0, .int .i64 0, .int .i64 0, .bool false, .int .i64 0, .slice none 0 0, .slice none 0 0] 30)) := (Below.refl _ _).alloc (Nat.le_refl _) _
  refine (HS.out _ Ba).mono ?_
  rintro e w1 ⟨⟨a1, n1, c1, rfl, hn1, o1, _⟩, b1⟩
  have B1 : Hid (Below w.heap.size w w1) := Ba.trans (b1.mono Ba.size)
  have HO1 := Lib.hid (HO.out w1 a1 n1 c1 B1.out hn1 o1.isB)
  clear Ba HS HO o1 b1 hn1
  go_wp2_with fail
  refine HO1.out.mono ?_
  rintro e w2 ⟨⟨h, _⟩ | ⟨y, rfl, _, hy⟩, b2⟩
  · cases h
  · obtain ⟨kd, fr, to, tm, ix, lt, cm, ro, ok, off, da, dn, dc, d, ea, en, ec, es⟩ := y
    have hm := Option.some.inj hy
    have h1 : (1 : Int) = kd := congrArg PK.Msg.kd hm
    have h2 : (1 : Int) = fr := congrArg PK.Msg.fr hm
    have h3 : (2 : Int) = to := congrArg PK.Msg.to hm
    have h4 : (3 : Int) = tm := congrArg PK.Msg.tm hm
    subst h1 h2 h3 h4
    have B2 : Hid (Below w.heap.size w w2) := B1.out.trans (b2.mono B1.out.size)
    clear hm hy b2 HO1
    simp only [RM.val, errV]
    have HC1 := HC.out
    go_wp2_with fail
    have B3 : Below w.heap.size w (w2.alloc (.cells #[.int .i64 1, .int .i64 1, .int .i64 2, .int .i64 3, .int .i64 ix, .int .i64 lt, .int .i64 cm, .int .i64 ro, .bool ok, .int .i64 off, .slice da dn dc, .slice ea en ec] 30)) := B2.out.alloc B2.out.size _
    refine (HC.out _).mono ?_
    rintro e w3 ⟨rfl, b3⟩
    have B4 : Hid (Below w.heap.size w w3) := B3.trans (b3.mono B3.size)
    have HN := Lib.hid (HNum.out w3 B4.out)
    clear B3 b3 HC HC1 HNum
    go_wp2_with fail
    refine HN.out.mono ?_
    rintro e w4 ⟨rfl, b4⟩
    have B5 : Hid (Below w.heap.size w w4) := B4.out.trans (b4.mono B4.out.size)
    clear b4 HN
    go_wp2
    go_ret
    exact ⟨rfl, B5.out⟩
end Go.Proofs.YtbgockggbpmhnaaGreatDoor

namespace Go.Proofs.YtbgockggbpmhnaaGreatDoor
open Go Go.ChangeShapes Go.WideShapes Go.ChangeAt Go.RowKit Go.Joins Go.Deep

section
variable {H : Type} {enc : TypeId × Value → H} {P : Program} {w : World} {base : Nat} {spare : Nat → Bool} {held : Bool}
/-- A struct of twelve one-cell fields. -/
theorem open_agg12 {r : Reach} {b0 : Nat} {t : TypeId} {f0 f1 f2 f3 f4 f5 f6 f7 f8 f9 f10 f11 : Field} {v : Value} {d : DataW H} {p : List MemPlace} (hs : P.underlying t = some (.struct #[f0, f1, f2, f3, f4, f5, f6, f7, f8, f9, f10, f11])) (hone : oneCellFields P #[f0, f1, f2, f3, f4, f5, f6, f7, f8, f9, f10, f11] = true) (hC : P.cellsOf t = 12)
    (hv : Value.okWide P w r b0 t v) (h : DataW.Trod enc P w base spare held t v d p) :
    ∃ (v0 v1 v2 v3 v4 v5 v6 v7 v8 v9 v10 v11 : Value) (y0 y1 y2 y3 y4 y5 y6 y7 y8 y9 y10 y11 : DataW H × List MemPlace) (n : Nat), v = .agg #[v0, v1, v2, v3, v4, v5, v6, v7, v8, v9, v10, v11] ∧ d = .agg [y0.1, y1.1, y2.1, y3.1, y4.1, y5.1, y6.1, y7.1, y8.1, y9.1, y10.1, y11.1] ∧
      DataW.trod enc P w base spare held n f0.type [v0] = some y0 ∧ DataW.trod enc P w base spare held n f1.type [v1] = some y1 ∧ DataW.trod enc P w base spare held n f2.type [v2] = some y2 ∧ DataW.trod enc P w base spare held n f3.type [v3] = some y3 ∧ DataW.trod enc P w base spare held n f4.type [v4] = some y4 ∧ DataW.trod enc P w base spare held n f5.type [v5] = some y5 ∧ DataW.trod enc P w base spare held n f6.type [v6] = some y6 ∧ DataW.trod enc P w base spare held n f7.type [v7] = some y7 ∧ DataW.trod enc P w base spare held n f8.type [v8] = some y8 ∧ DataW.trod enc P w base spare held n f9.type [v9] = some y9 ∧ DataW.trod enc P w base spare held n f10.type [v10] = some y10 ∧ DataW.trod enc P w base spare held n f11.type [v11] = some y11 := by
  obtain ⟨cs, rfl, hsz⟩ := okWide_struct hs hv
  obtain ⟨l⟩ := cs
  match l, hsz.trans hC with
  | [c0, c1, c2, c3, c4, c5, c6, c7, c8, c9, c10, c11], _ =>
    obtain ⟨fuel, hf⟩ := h
    obtain ⟨xs, n, _, hx, _, hlen, hg⟩ := DataW.trod_struct hs hf
    obtain ⟨o0, k0⟩ := hone_of hone 0 f0 rfl
    obtain ⟨o1, k1⟩ := hone_of hone 1 f1 rfl
    obtain ⟨o2, k2⟩ := hone_of hone 2 f2 rfl
    obtain ⟨o3, k3⟩ := hone_of hone 3 f3 rfl
    obtain ⟨o4, k4⟩ := hone_of hone 4 f4 rfl
    obtain ⟨o5, k5⟩ := hone_of hone 5 f5 rfl
    obtain ⟨o6, k6⟩ := hone_of hone 6 f6 rfl
    obtain ⟨o7, k7⟩ := hone_of hone 7 f7 rfl
    obtain ⟨o8, k8⟩ := hone_of hone 8 f8 rfl
    obtain ⟨o9, k9⟩ := hone_of hone 9 f9 rfl
    obtain ⟨o10, k10⟩ := hone_of hone 10 f10 rfl
    obtain ⟨o11, k11⟩ := hone_of hone 11 f11 rfl
    match xs, hlen with
    | [y0, y1, y2, y3, y4, y5, y6, y7, y8, y9, y10, y11], _ =>
      simp only [Prod.mk.injEq] at hx
      exact ⟨c0, c1, c2, c3, c4, c5, c6, c7, c8, c9, c10, c11, y0, y1, y2, y3, y4, y5, y6, y7, y8, y9, y10, y11, n, rfl, by simpa using hx.1, by simpa [Value.cells, o0, k0] using hg 0 f0 rfl, by simpa [Value.cells, o1, k1] using hg 1 f1 rfl, by simpa [Value.cells, o2, k2] using hg 2 f2 rfl, by simpa [Value.cells, o3, k3] using hg 3 f3 rfl, by simpa [Value.cells, o4, k4] using hg 4 f4 rfl, by simpa [Value.cells, o5, k5] using hg 5 f5 rfl, by simpa [Value.cells, o6, k6] using hg 6 f6 rfl, by simpa [Value.cells, o7, k7] using hg 7 f7 rfl, by simpa [Value.cells, o8, k8] using hg 8 f8 rfl, by simpa [Value.cells, o9, k9] using hg 9 f9 rfl, by simpa [Value.cells, o10, k10] using hg 10 f10 rfl, by simpa [Value.cells, o11, k11] using hg 11 f11 rfl⟩
theorem bulk_mem {d : DataW H} : ∀ {ds : List (DataW H)}, d ∈ ds → Rows.uptoBulk d ≤ Rows.uptoBulkAll ds
  | [], h => by simp at h
  | e :: r, h => by
    simp only [Rows.uptoBulkAll]
    rcases List.mem_cons.1 h with rfl | h
    · omega
    · have := bulk_mem h; omega
end
theorem cEn : Tryz.prog.cellsOf 71 = 4 := by kernel_rfl
theorem cMs : Tryz.prog.cellsOf 25 = 12 := by kernel_rfl
set_option maxRecDepth 100000 in
/-- A slice of entries that came in. -/
theorem open_entries {H : Type} {enc : TypeId × Value → H} {W : World} {base k : Nat} {sp : Nat → Bool} {held : Bool} {v : Value} {y : DataW H × List MemPlace}
    (hf : DataW.trod enc Tryz.prog W base sp held k 23 [v] = some y) : ∃ a n c xs, v = .slice a n c ∧ EsS W (.slice a n c) xs ∧ ∀ x ∈ xs, x.n ≤ Rows.uptoBulk y.1 := by
  rcases open_slice_fields Tryz.underlying23 Tryz.underlying71 (by kernel_rfl) cEn hf with ⟨hcs, _⟩ | ⟨x, len, cap, m, D, Pl, hcs, _, hl, hm, hmm, hx, hi⟩
  · simp at hcs
    subst hcs
    exact ⟨none, 0, 0, [], rfl, EsS.nil W, fun x hx => by simp at hx⟩
  · simp at hcs
    subst hcs
    have hlm : len ≤ m := by rw [hmm]; split <;> omega
    have each : ∀ i, i < len → ∃ y : RE, y.Fit W ∧ W.cell? (x.add (i * 4)) = some (.int .i64 y.i) ∧ W.cell? (x.add (i * 4 + 1)) = some (.int .i64 y.t) ∧ W.cell? (x.add (i * 4 + 2)) = some (.int .i64 y.k) ∧ W.cell? (x.add (i * 4 + 3)) = some (.slice y.a y.n y.c) ∧ y.n ≤ Rows.uptoBulk (D i) := by
      intro i hil
      obtain ⟨ys, n, hD, _, hyl, hg⟩ := hi i (by omega)
      obtain ⟨v0, y0, c0, e0, t0⟩ := hg 0 _ rfl
      obtain ⟨v1, y1, c1, e1, t1⟩ := hg 1 _ rfl
      obtain ⟨v2, y2, c2, e2, t2⟩ := hg 2 _ rfl
      obtain ⟨v3, y3, c3, e3, t3⟩ := hg 3 _ rfl
      obtain ⟨n0, f0, _, _⟩ := DataW.trod_int Tryz.underlying3 t0
      obtain ⟨n1, f1, _, _⟩ := DataW.trod_int Tryz.underlying3 t1
      obtain ⟨n2, f2, _, _⟩ := DataW.trod_int Tryz.underlying3 t2
      obtain ⟨a, m, c, b, rfl, hb, hI, hu, _⟩ := open_bytes t3
      simp at f0 f1 f2
      subst f0 f1 f2
      refine ⟨⟨n0, n1, n2, a, m, c, b⟩, ⟨hb, hI⟩, c0, c1, c2, c3, ?_⟩
      rw [hD]
      match ys, hyl, e0, e1, e2, e3 with
      | [z0, z1, z2, z3], _, e0, e1, e2, e3 =>
        simp at e0 e1 e2 e3
        subst e0 e1 e2 e3
        simp only [Rows.uptoBulk, List.map, Rows.uptoBulkAll]
        omega
    obtain ⟨xs, hxl, hxs⟩ := list_choice len each
    subst hx
    refine ⟨_, len, cap, xs, rfl, ⟨_, cap, by rw [hxl], by omega, hm, ?_, fun y hy => ?_⟩, fun y hy => ?_⟩
    · by_cases h0 : len = 0
      · exact .inl (List.eq_nil_of_length_eq_zero (by omega))
      · have hc := (each 0 (by omega)).choose_spec.2.1
        obtain ⟨b, off, spot⟩ := x
        have hspot : spot = none := by simpa [Addr.add] using World.cell?_spot hc
        subst hspot
        have hadd : ∀ i, (⟨b, off, none⟩ : Addr).add i = ⟨b, off + i, none⟩ := fun i => by unfold Addr.add; split <;> simp_all
        refine .inr ⟨b, off, rfl, fun i y hy => ?_⟩
        obtain ⟨_, c0, c1, c2, c3, _⟩ := hxs i y hy
        rw [hadd] at c0 c1 c2 c3
        rw [← Nat.add_assoc] at c1 c2 c3
        exact ⟨c0, c1, c2, c3⟩
    · obtain ⟨i, hi, rfl⟩ := List.getElem_of_mem hy
      exact (hxs i _ (List.getElem?_eq_getElem hi)).1
    · obtain ⟨i, hi, rfl⟩ := List.getElem_of_mem hy
      have h1 := (hxs i _ (List.getElem?_eq_getElem hi)).2.2.2.2.2
      have h2 : D i ∈ (List.range len).map D := List.mem_map.2 ⟨i, List.mem_range.2 (by omega), rfl⟩
      have h3 := bulk_mem h2
      simp only [Rows.uptoBulk]
      omega
set_option maxRecDepth 100000 in
/-- A message that came in. -/
theorem open_msg {H : Type} {enc : TypeId × Value → H} {W : World} {base b0 : Nat} {sp : Nat → Bool} {held : Bool} {v : Value} {d : DataW H} {p : List MemPlace} (ho : Value.okWide Tryz.prog W .any b0 25 v)
    (h : DataW.Trod enc Tryz.prog W base sp held 25 v d p) : ∃ x : RM, v = x.val ∧ x.Fit W ∧ x.dn ≤ Rows.uptoBulk d ∧ ∀ y ∈ x.es, y.n ≤ Rows.uptoBulk d := by
  obtain ⟨v0, v1, v2, v3, v4, v5, v6, v7, v8, v9, v10, v11, y0, y1, y2, y3, y4, y5, y6, y7, y8, y9, y10, y11, k, rfl, rfl, t0, t1, t2, t3, t4, t5, t6, t7, t8, t9, t10, t11⟩ := open_agg12 Tryz.underlying25 (by kernel_rfl) cMs ho h
  obtain ⟨n0, e0, _, _⟩ := DataW.trod_int Tryz.underlying3 t0
  obtain ⟨n1, e1, _, _⟩ := DataW.trod_int Tryz.underlying3 t1
  obtain ⟨n2, e2, _, _⟩ := DataW.trod_int Tryz.underlying3 t2
  obtain ⟨n3, e3, _, _⟩ := DataW.trod_int Tryz.underlying3 t3
  obtain ⟨n4, e4, _, _⟩ := DataW.trod_int Tryz.underlying3 t4
  obtain ⟨n5, e5, _, _⟩ := DataW.trod_int Tryz.underlying3 t5
  obtain ⟨n6, e6, _, _⟩ := DataW.trod_int Tryz.underlying3 t6
  obtain ⟨n7, e7, _, _⟩ := DataW.trod_int Tryz.underlying3 t7
  obtain ⟨n9, e9, _, _⟩ := DataW.trod_int Tryz.underlying3 t9
  obtain ⟨bb, e8, _⟩ := DataW.trod_bool Tryz.underlying4 t8
  obtain ⟨a, m, c, b, rfl, hb, hI, hu, _⟩ := open_bytes t10
  obtain ⟨ea, en, ec, xs, rfl, hes, hxu⟩ := open_entries t11
  simp at e0 e1 e2 e3 e4 e5 e6 e7 e9 e8
  subst e0 e1 e2 e3 e4 e5 e6 e7 e9 e8
  refine ⟨⟨n0, n1, n2, n3, n4, n5, n6, n7, bb, n9, a, m, c, b, ea, en, ec, xs⟩, rfl, ⟨hb, hI, hes⟩, ?_, fun y hy => ?_⟩
  · simp only [Rows.uptoBulk, Rows.uptoBulkAll]; omega
  · have := hxu y hy
    simp only [Rows.uptoBulk, Rows.uptoBulkAll]; omega
end Go.Proofs.YtbgockggbpmhnaaGreatDoor
