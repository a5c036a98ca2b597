/-
  may, Check, by contracts.
  Conditions: what is looked at reads as such.
-/
import Derived.Test.YtbgockggbpmhnaaGreatDoorMay2
namespace Go.Proofs.YtbgockggbpmhnaaGreatDoor
open Go Go.RowKit

def okAll (xs : List RE) : Bool := xs.all fun x => decide (PK.okE x.ent)
theorem okAll_take {l : List RE} {k : Nat} {x : RE} (hx : l[k]? = some x) : okAll (l.take (k + 1)) = (okAll (l.take k) && decide (PK.okE x.ent)) := by
  have hk : k < l.length := (List.getElem?_eq_some_iff.1 hx).1
  have e : l.take (k + 1) = l.take k ++ [x] := by rw [List.take_succ_eq_append_getElem hk]; congr 1; simpa [List.getElem?_eq_getElem hk] using hx
  unfold okAll
  rw [e, List.all_append]
  simp
theorem okAll_no {l : List RE} {k : Nat} {x : RE} (hx : l[k]? = some x) (h : decide (PK.okE x.ent) = false) : okAll l = false := by
  unfold okAll
  rw [List.all_eq_false]
  exact ⟨x, List.mem_of_getElem? hx, by rw [h]; decide⟩
set_option maxHeartbeats 2000000 in
theorem indexE_any (a : Option Addr) (n c : Nat) (xs : List RE) (w : World) (hv : EsS w (.slice a n c) xs) :
    Calls Tryz.prog 85 #[.slice a n c, .func (.func 63) #[] #[]] w fun e w' => (∃ r : Int, e = .returned (.int .i64 r) ∧ (0 ≤ r ↔ okAll xs = false)) ∧ Below w.heap.size w w' := by
  have HV := Lib.hid (fun (V : World) (b : Below w.heap.size w V) => hv.below b)
  have HL := Lib.hid hv.len
  have hn63 : (n : Int) ≤ 9223372036854775807 := by have := HL.out; simp only [maxLen] at this; omega
  clear hv
  go_enter Tryz.func85, Tryz.ntmps85
  go_wp2
  go_loopw [5, 8] (fun _ v V => ∃ k : Nat, k ≤ n ∧ v = .int .i64 k ∧ Hid (okAll (xs.take k) = true) ∧ Hid (Below w.heap.size w V)) (fun _ v _ => n - (intOf v).toNat)
  case atStart => exact ⟨0, by omega, rfl, rfl, Lib.hid (Below.refl _ _)⟩
  case round =>
    obtain ⟨k, hk, rfl, Hno, B1⟩ := hrel
    by_cases hlt : k < n
    · have hkl : k < xs.length := by rw [HL.out.1]; exact hlt
      obtain ⟨x, hx⟩ : ∃ x, xs[k]? = some x := ⟨_, List.getElem?_eq_getElem hkl⟩
      obtain ⟨⟨b, o, rfl, c0, c1, c2, c3⟩, hf⟩ := (HV.out wr B1.out).at k x hx
      have HC := Lib.hid (odd_any x wr hf.len)
      have Hx := Lib.hid hx
      clear hx hkl hf HV
      by_cases hin : decide (PK.okE x.ent) = true
      · rw [hin] at HC
        have Hs : Hid (okAll (xs.take (k + 1)) = true) := Lib.hid (by rw [okAll_take Hx.out, Hno.out, hin]; rfl)
        clear hin
        go_wp2_with fail
        refine HC.out.mono ?_
        rintro e w1 ⟨rfl, b1⟩
        have B2 : Hid (Below w.heap.size w w1) := B1.out.trans (b1.mono B1.out.size)
        clear b1
        go_wp2
        exact ⟨⟨k + 1, hlt, by simp, Hs, B2⟩, by simp [intOf]; omega⟩
      · have hin2 : decide (PK.okE x.ent) = false := by simpa using hin
        rw [hin2] at HC
        have Hs : Hid (okAll xs = false) := Lib.hid (okAll_no Hx.out hin2)
        clear hin hin2
        go_wp2_with fail
        refine HC.out.mono ?_
        rintro e w1 ⟨rfl, b1⟩
        have B2 : Hid (Below w.heap.size w w1) := B1.out.trans (b1.mono B1.out.size)
        clear b1
        go_wp2
        go_ret
        exact ⟨⟨k, rfl, fun _ => Hs.out, fun _ => by omega⟩, B2.out⟩
    · obtain rfl : k = n := by omega
      have Hs : Hid (okAll xs = true) := Lib.hid (by have := Hno.out; rwa [List.take_of_length_le (by rw [HL.out.1]; exact Nat.le_refl _)] at this)
      go_wp2
      go_ret
      exact ⟨⟨-1, rfl, fun h => by omega, fun h => by rw [Hs.out] at h; cases h⟩, B1.out⟩
theorem containsE_any (a : Option Addr) (n c : Nat) (xs : List RE) (w : World) (hv : EsS w (.slice a n c) xs) :
    Calls Tryz.prog 62 #[.slice a n c, .func (.func 63) #[] #[]] w fun e w' => e = .returned (.bool (!okAll xs)) ∧ Below w.heap.size w w' := by
  have HC := Lib.hid (indexE_any a n c xs w hv)
  clear hv
  cases ha : okAll xs with
  | true =>
    rw [ha] at HC
    go_enter Tryz.func62, Tryz.ntmps62
    go_wp2_with fail
    refine HC.out.mono ?_
    rintro e w1 ⟨⟨r, rfl, hr⟩, b1⟩
    have B1 := Lib.hid b1
    have h0 : r < 0 := by
      rcases Int.lt_or_le r 0 with h | h
      · exact h
      · cases hr.1 h
    have h0' : decide (0 ≤ r) = false := by simp; omega
    clear hr ha b1
    go_wp2
    go_ret
    exact ⟨rfl, B1.out⟩
  | false =>
    rw [ha] at HC
    go_enter Tryz.func62, Tryz.ntmps62
    go_wp2_with fail
    refine HC.out.mono ?_
    rintro e w1 ⟨⟨r, rfl, hr⟩, b1⟩
    have B1 := Lib.hid b1
    have h0 : 0 ≤ r := hr.2 trivial
    clear hr ha b1
    go_wp2
    go_ret
    exact ⟨rfl, B1.out⟩
theorem okAll_iff (xs : List RE) : okAll xs = true ↔ ∀ e ∈ xs.map RE.ent, PK.okE e := by
  unfold okAll
  rw [List.all_eq_true]
  exact ⟨fun h e he => by obtain ⟨x, hx, rfl⟩ := List.mem_map.1 he; exact of_decide_eq_true (h x hx), fun h x hx => decide_eq_true (h _ (List.mem_map_of_mem hx))⟩
theorem mayM_iff (x : RM) : PK.mayM x.msg ↔ (((allIn 1 6 [x.kd] = true ∧ allIn 1 64 [x.fr, x.to] = true) ∧ x.fr ≠ x.to) ∧ (allIn 1 1099511627776 [x.tm] = true ∧ allIn 0 1099511627776 [x.ix, x.lt, x.cm, x.ro, x.off] = true)) ∧ (x.d.length ≤ 4096 ∧ x.es.length ≤ 64) ∧ okAll x.es = true := by
  rw [okAll_iff]
  unfold PK.mayM allIn RM.msg
  simp only [List.all_cons, List.all_nil, Bool.and_true, Bool.and_eq_true, decide_eq_true_eq, List.length_map]
  exact ⟨fun ⟨⟨a, b, c, d⟩, ⟨e, f, g, h, i, j⟩, k, l, m⟩ => ⟨⟨⟨⟨a, b, c⟩, d⟩, e, f, g, h, i, j⟩, ⟨k, l⟩, m⟩, fun ⟨⟨⟨⟨a, b, c⟩, d⟩, e, f, g, h, i, j⟩, ⟨k, l⟩, m⟩ => ⟨⟨a, b, c, d⟩, ⟨e, f, g, h, i, j⟩, k, l, m⟩⟩
set_option maxRecDepth 100000 in
set_option maxHeartbeats 8000000 in
theorem may_any (x : RM) (w : World) (hf : x.Fit w) :
    Calls Tryz.prog 32 #[x.val] w fun e w' => e = .returned (.bool (decide (PK.mayM x.msg))) ∧ Below w.heap.size w w' := by
  have hok := mayM_iff x
  obtain ⟨kd, fr, to, tm, ix, lt, cm, ro, ok, off, da, dn, dc, d, ea, en, ec, es⟩ := x
  obtain ⟨hl, _, he⟩ := hf
  have hel := he.len.1
  simp only at hl hok hel he
  rw [hl, hel] at hok
  simp only [RM.val]
  have he63 : (en : Int) ≤ 9223372036854775807 := by have := he.len; simp only [maxLen] at this; omega
  have Hdec : Hid (∀ r : Bool, (r = true ↔ PK.mayM (RM.msg ⟨kd, fr, to, tm, ix, lt, cm, ro, ok, off, da, dn, dc, d, ea, en, ec, es⟩)) → decide (PK.mayM (RM.msg ⟨kd, fr, to, tm, ix, lt, cm, ro, ok, off, da, dn, dc, d, ea, en, ec, es⟩)) = r) := fun r h => by
    cases r
    · exact decide_eq_false (fun q => by cases h.2 q)
    · exact decide_eq_true (h.1 rfl)
  generalize decide (PK.mayM (RM.msg ⟨kd, fr, to, tm, ix, lt, cm, ro, ok, off, da, dn, dc, d, ea, en, ec, es⟩)) = R at *
  generalize PK.mayM (RM.msg ⟨kd, fr, to, tm, ix, lt, cm, ro, ok, off, da, dn, dc, d, ea, en, ec, es⟩) = P at *
  obtain ⟨Wa, hWa⟩ : ∃ W, W = w.alloc (.cells #[.int .i64 kd, .int .i64 fr, .int .i64 to, .int .i64 tm, .int .i64 ix, .int .i64 lt, .int .i64 cm, .int .i64 ro, .bool ok, .int .i64 off, .slice da dn dc, .slice ea en ec] 30) := ⟨_, rfl⟩
  have gA : Wa.heap[w.heap.size]? = some (.cells #[.int .i64 kd, .int .i64 fr, .int .i64 to, .int .i64 tm, .int .i64 ix, .int .i64 lt, .int .i64 cm, .int .i64 ro, .bool ok, .int .i64 off, .slice da dn dc, .slice ea en ec] 30) := by rw [hWa]; exact heap_alloc_new _ _
  obtain ⟨⟨p0, p1, p2, p3, p4, p5, p6, p7, p8, p9, pa, pb⟩, _⟩ := cells12 gA
  have hBa : Hid (Below w.heap.size w Wa) := Lib.hid (by rw [hWa]; exact (Below.refl _ _).alloc (Nat.le_refl _) _)
  have hsz : Wa.heap.size = w.heap.size + 1 := by rw [hWa]; simp
  have cont : Hid (∀ V, Below (w.heap.size + 1) Wa V → (Hid (Below (w.heap.size + 1) Wa V) ∧ V.cell? ⟨w.heap.size, 0, none⟩ = some (.int .i64 kd) ∧ V.cell? ⟨w.heap.size, 1, none⟩ = some (.int .i64 fr) ∧ V.cell? ⟨w.heap.size, 2, none⟩ = some (.int .i64 to) ∧ V.cell? ⟨w.heap.size, 3, none⟩ = some (.int .i64 tm) ∧ V.cell? ⟨w.heap.size, 4, none⟩ = some (.int .i64 ix) ∧ V.cell? ⟨w.heap.size, 5, none⟩ = some (.int .i64 lt) ∧ V.cell? ⟨w.heap.size, 6, none⟩ = some (.int .i64 cm) ∧ V.cell? ⟨w.heap.size, 7, none⟩ = some (.int .i64 ro) ∧ V.cell? ⟨w.heap.size, 8, none⟩ = some (.bool ok) ∧ V.cell? ⟨w.heap.size, 9, none⟩ = some (.int .i64 off) ∧ V.cell? ⟨w.heap.size, 10, none⟩ = some (.slice da dn dc) ∧ V.cell? ⟨w.heap.size, 11, none⟩ = some (.slice ea en ec))) := fun V h => by
    have hk := h.block w.heap.size (by omega)
    exact ⟨Lib.hid h, (World.cell?_of_block hk).trans p0, (World.cell?_of_block hk).trans p1, (World.cell?_of_block hk).trans p2, (World.cell?_of_block hk).trans p3, (World.cell?_of_block hk).trans p4, (World.cell?_of_block hk).trans p5, (World.cell?_of_block hk).trans p6, (World.cell?_of_block hk).trans p7, (World.cell?_of_block hk).trans p8, (World.cell?_of_block hk).trans p9, (World.cell?_of_block hk).trans pa, (World.cell?_of_block hk).trans pb⟩
  have fin : Hid (∀ V, (Hid (Below (w.heap.size + 1) Wa V) ∧ V.cell? ⟨w.heap.size, 0, none⟩ = some (.int .i64 kd) ∧ V.cell? ⟨w.heap.size, 1, none⟩ = some (.int .i64 fr) ∧ V.cell? ⟨w.heap.size, 2, none⟩ = some (.int .i64 to) ∧ V.cell? ⟨w.heap.size, 3, none⟩ = some (.int .i64 tm) ∧ V.cell? ⟨w.heap.size, 4, none⟩ = some (.int .i64 ix) ∧ V.cell? ⟨w.heap.size, 5, none⟩ = some (.int .i64 lt) ∧ V.cell? ⟨w.heap.size, 6, none⟩ = some (.int .i64 cm) ∧ V.cell? ⟨w.heap.size, 7, none⟩ = some (.int .i64 ro) ∧ V.cell? ⟨w.heap.size, 8, none⟩ = some (.bool ok) ∧ V.cell? ⟨w.heap.size, 9, none⟩ = some (.int .i64 off) ∧ V.cell? ⟨w.heap.size, 10, none⟩ = some (.slice da dn dc) ∧ V.cell? ⟨w.heap.size, 11, none⟩ = some (.slice ea en ec)) → Below w.heap.size w V) := fun V h => hBa.out.trans (h.1.out.mono (Nat.le_succ _))
  have CW : Hid (∀ (V : World) (l : List Int) (lo hi : Int) (m : Nat) (cs : Array Value), l.length = m → m ≤ 100 → cs = (l.map (Value.int .i64 ·)).toArray → (Hid (Below (w.heap.size + 1) Wa V) ∧ V.cell? ⟨w.heap.size, 0, none⟩ = some (.int .i64 kd) ∧ V.cell? ⟨w.heap.size, 1, none⟩ = some (.int .i64 fr) ∧ V.cell? ⟨w.heap.size, 2, none⟩ = some (.int .i64 to) ∧ V.cell? ⟨w.heap.size, 3, none⟩ = some (.int .i64 tm) ∧ V.cell? ⟨w.heap.size, 4, none⟩ = some (.int .i64 ix) ∧ V.cell? ⟨w.heap.size, 5, none⟩ = some (.int .i64 lt) ∧ V.cell? ⟨w.heap.size, 6, none⟩ = some (.int .i64 cm) ∧ V.cell? ⟨w.heap.size, 7, none⟩ = some (.int .i64 ro) ∧ V.cell? ⟨w.heap.size, 8, none⟩ = some (.bool ok) ∧ V.cell? ⟨w.heap.size, 9, none⟩ = some (.int .i64 off) ∧ V.cell? ⟨w.heap.size, 10, none⟩ = some (.slice da dn dc) ∧ V.cell? ⟨w.heap.size, 11, none⟩ = some (.slice ea en ec)) → Calls Tryz.prog 61 #[.int .i64 lo, .int .i64 hi, .slice (some ⟨V.heap.size, 0, none⟩) m m] (V.alloc (.cells cs 3)) fun e w' => e = .returned (.bool (allIn lo hi l)) ∧ (Hid (Below (w.heap.size + 1) Wa w') ∧ w'.cell? ⟨w.heap.size, 0, none⟩ = some (.int .i64 kd) ∧ w'.cell? ⟨w.heap.size, 1, none⟩ = some (.int .i64 fr) ∧ w'.cell? ⟨w.heap.size, 2, none⟩ = some (.int .i64 to) ∧ w'.cell? ⟨w.heap.size, 3, none⟩ = some (.int .i64 tm) ∧ w'.cell? ⟨w.heap.size, 4, none⟩ = some (.int .i64 ix) ∧ w'.cell? ⟨w.heap.size, 5, none⟩ = some (.int .i64 lt) ∧ w'.cell? ⟨w.heap.size, 6, none⟩ = some (.int .i64 cm) ∧ w'.cell? ⟨w.heap.size, 7, none⟩ = some (.int .i64 ro) ∧ w'.cell? ⟨w.heap.size, 8, none⟩ = some (.bool ok) ∧ w'.cell? ⟨w.heap.size, 9, none⟩ = some (.int .i64 off) ∧ w'.cell? ⟨w.heap.size, 10, none⟩ = some (.slice da dn dc) ∧ w'.cell? ⟨w.heap.size, 11, none⟩ = some (.slice ea en ec))) := fun V l lo hi m cs h1 h2 h3 h => by
    subst h3
    have hs := h.1.out.size
    rw [hsz] at hs
    exact (within_any V.heap.size 0 m m l lo hi _ h1 h2 (isI_new V l _)).mono fun e w' ⟨e1, e2⟩ => ⟨e1, cont.out w' ((h.1.out.alloc hs _).trans (e2.mono (by simp; omega)))⟩
  have C5 : Hid (∀ V, (Hid (Below (w.heap.size + 1) Wa V) ∧ V.cell? ⟨w.heap.size, 0, none⟩ = some (.int .i64 kd) ∧ V.cell? ⟨w.heap.size, 1, none⟩ = some (.int .i64 fr) ∧ V.cell? ⟨w.heap.size, 2, none⟩ = some (.int .i64 to) ∧ V.cell? ⟨w.heap.size, 3, none⟩ = some (.int .i64 tm) ∧ V.cell? ⟨w.heap.size, 4, none⟩ = some (.int .i64 ix) ∧ V.cell? ⟨w.heap.size, 5, none⟩ = some (.int .i64 lt) ∧ V.cell? ⟨w.heap.size, 6, none⟩ = some (.int .i64 cm) ∧ V.cell? ⟨w.heap.size, 7, none⟩ = some (.int .i64 ro) ∧ V.cell? ⟨w.heap.size, 8, none⟩ = some (.bool ok) ∧ V.cell? ⟨w.heap.size, 9, none⟩ = some (.int .i64 off) ∧ V.cell? ⟨w.heap.size, 10, none⟩ = some (.slice da dn dc) ∧ V.cell? ⟨w.heap.size, 11, none⟩ = some (.slice ea en ec)) → Calls Tryz.prog 62 #[.slice ea en ec, .func (.func 63) #[] #[]] V fun e w' => e = .returned (.bool (!okAll es)) ∧ (Hid (Below (w.heap.size + 1) Wa w') ∧ w'.cell? ⟨w.heap.size, 0, none⟩ = some (.int .i64 kd) ∧ w'.cell? ⟨w.heap.size, 1, none⟩ = some (.int .i64 fr) ∧ w'.cell? ⟨w.heap.size, 2, none⟩ = some (.int .i64 to) ∧ w'.cell? ⟨w.heap.size, 3, none⟩ = some (.int .i64 tm) ∧ w'.cell? ⟨w.heap.size, 4, none⟩ = some (.int .i64 ix) ∧ w'.cell? ⟨w.heap.size, 5, none⟩ = some (.int .i64 lt) ∧ w'.cell? ⟨w.heap.size, 6, none⟩ = some (.int .i64 cm) ∧ w'.cell? ⟨w.heap.size, 7, none⟩ = some (.int .i64 ro) ∧ w'.cell? ⟨w.heap.size, 8, none⟩ = some (.bool ok) ∧ w'.cell? ⟨w.heap.size, 9, none⟩ = some (.int .i64 off) ∧ w'.cell? ⟨w.heap.size, 10, none⟩ = some (.slice da dn dc) ∧ w'.cell? ⟨w.heap.size, 11, none⟩ = some (.slice ea en ec))) := fun V h =>
    (containsE_any ea en ec es V (he.below (fin.out V h))).mono fun e w' ⟨e1, e2⟩ => ⟨e1, cont.out w' (h.1.out.trans (e2.mono (by have := h.1.out.size; rw [hsz] at this; exact this)))⟩
  have SA := cont.out Wa (Below.refl _ _)
  have c1 := CW.out Wa [kd] 1 6 1 #[.int .i64 kd] rfl (by decide) (by simp) SA
  rw [hsz] at c1
  have C1 := Lib.hid c1
  have C2 := Lib.hid (fun (V : World) (h : (Hid (Below (w.heap.size + 1) Wa V) ∧ V.cell? ⟨w.heap.size, 0, none⟩ = some (.int .i64 kd) ∧ V.cell? ⟨w.heap.size, 1, none⟩ = some (.int .i64 fr) ∧ V.cell? ⟨w.heap.size, 2, none⟩ = some (.int .i64 to) ∧ V.cell? ⟨w.heap.size, 3, none⟩ = some (.int .i64 tm) ∧ V.cell? ⟨w.heap.size, 4, none⟩ = some (.int .i64 ix) ∧ V.cell? ⟨w.heap.size, 5, none⟩ = some (.int .i64 lt) ∧ V.cell? ⟨w.heap.size, 6, none⟩ = some (.int .i64 cm) ∧ V.cell? ⟨w.heap.size, 7, none⟩ = some (.int .i64 ro) ∧ V.cell? ⟨w.heap.size, 8, none⟩ = some (.bool ok) ∧ V.cell? ⟨w.heap.size, 9, none⟩ = some (.int .i64 off) ∧ V.cell? ⟨w.heap.size, 10, none⟩ = some (.slice da dn dc) ∧ V.cell? ⟨w.heap.size, 11, none⟩ = some (.slice ea en ec))) => CW.out V [fr, to] 1 64 2 #[.int .i64 fr, .int .i64 to] rfl (by decide) (by simp) h)
  have C3 := Lib.hid (fun (V : World) (h : (Hid (Below (w.heap.size + 1) Wa V) ∧ V.cell? ⟨w.heap.size, 0, none⟩ = some (.int .i64 kd) ∧ V.cell? ⟨w.heap.size, 1, none⟩ = some (.int .i64 fr) ∧ V.cell? ⟨w.heap.size, 2, none⟩ = some (.int .i64 to) ∧ V.cell? ⟨w.heap.size, 3, none⟩ = some (.int .i64 tm) ∧ V.cell? ⟨w.heap.size, 4, none⟩ = some (.int .i64 ix) ∧ V.cell? ⟨w.heap.size, 5, none⟩ = some (.int .i64 lt) ∧ V.cell? ⟨w.heap.size, 6, none⟩ = some (.int .i64 cm) ∧ V.cell? ⟨w.heap.size, 7, none⟩ = some (.int .i64 ro) ∧ V.cell? ⟨w.heap.size, 8, none⟩ = some (.bool ok) ∧ V.cell? ⟨w.heap.size, 9, none⟩ = some (.int .i64 off) ∧ V.cell? ⟨w.heap.size, 10, none⟩ = some (.slice da dn dc) ∧ V.cell? ⟨w.heap.size, 11, none⟩ = some (.slice ea en ec))) => CW.out V [tm] 1 1099511627776 1 #[.int .i64 tm] rfl (by decide) (by simp) h)
  have C4 := Lib.hid (fun (V : World) (h : (Hid (Below (w.heap.size + 1) Wa V) ∧ V.cell? ⟨w.heap.size, 0, none⟩ = some (.int .i64 kd) ∧ V.cell? ⟨w.heap.size, 1, none⟩ = some (.int .i64 fr) ∧ V.cell? ⟨w.heap.size, 2, none⟩ = some (.int .i64 to) ∧ V.cell? ⟨w.heap.size, 3, none⟩ = some (.int .i64 tm) ∧ V.cell? ⟨w.heap.size, 4, none⟩ = some (.int .i64 ix) ∧ V.cell? ⟨w.heap.size, 5, none⟩ = some (.int .i64 lt) ∧ V.cell? ⟨w.heap.size, 6, none⟩ = some (.int .i64 cm) ∧ V.cell? ⟨w.heap.size, 7, none⟩ = some (.int .i64 ro) ∧ V.cell? ⟨w.heap.size, 8, none⟩ = some (.bool ok) ∧ V.cell? ⟨w.heap.size, 9, none⟩ = some (.int .i64 off) ∧ V.cell? ⟨w.heap.size, 10, none⟩ = some (.slice da dn dc) ∧ V.cell? ⟨w.heap.size, 11, none⟩ = some (.slice ea en ec))) => CW.out V [ix, lt, cm, ro, off] 0 1099511627776 5 #[.int .i64 ix, .int .i64 lt, .int .i64 cm, .int .i64 ro, .int .i64 off] rfl (by decide) (by simp) h)
  have HOK := Lib.hid hok
  clear c1 SA hBa hsz cont CW gA p0 p1 p2 p3 p4 p5 p6 p7 p8 p9 pa pb hok hl hel he
  generalize hA1 : allIn 1 6 [kd] = A1 at *
  generalize hA2 : allIn 1 64 [fr, to] = A2 at *
  generalize hA3 : allIn 1 1099511627776 [tm] = A3 at *
  generalize hA4 : allIn 0 1099511627776 [ix, lt, cm, ro, off] = A4 at *
  generalize hA5 : okAll es = A5 at *
  clear hA1 hA2 hA3 hA4 hA5
  cases A1 with
  | false =>
    rw [Hdec.out false (by rw [HOK.out]; simp)]
    go_enter Tryz.func32, Tryz.ntmps32
    go_wp2_with fail
    rw [← hWa]
    refine C1.out.mono ?_
    rintro e w1 ⟨rfl, s1⟩
    obtain ⟨hb1, q0, q1, q2, q3, q4, q5, q6, q7, q8, q9, qa, qb⟩ := id s1
    have S1 := Lib.hid s1
    clear s1 C1
    go_wp2
    go_ret
    exact ⟨by first | rfl | (simp; done) | (simp; omega), fin.out _ S1.out⟩
  | true =>
    cases A2 with
    | false =>
      rw [Hdec.out false (by rw [HOK.out]; simp)]
      go_enter Tryz.func32, Tryz.ntmps32
      go_wp2_with fail
      rw [← hWa]
      refine C1.out.mono ?_
      rintro e w1 ⟨rfl, s1⟩
      obtain ⟨hb1, q0, q1, q2, q3, q4, q5, q6, q7, q8, q9, qa, qb⟩ := id s1
      have S1 := Lib.hid s1
      clear s1 C1
      go_wp2_with fail
      clear q0 q1 q2 q3 q4 q5 q6 q7 q8 q9 qa qb
      refine (C2.out w1 S1.out).mono ?_
      rintro e w2 ⟨rfl, s2⟩
      obtain ⟨hb2, q0, q1, q2, q3, q4, q5, q6, q7, q8, q9, qa, qb⟩ := id s2
      have S2 := Lib.hid s2
      clear s2 C2
      go_wp2
      go_ret
      exact ⟨by first | rfl | (simp; done) | (simp; omega), fin.out _ S2.out⟩
    | true =>
      by_cases hft : fr = to
      · have hb : (fr == to) = true := by simp [hft]
        rw [Hdec.out false (by rw [HOK.out]; simp [hft])]
        clear hft
        go_enter Tryz.func32, Tryz.ntmps32
        go_wp2_with fail
        rw [← hWa]
        refine C1.out.mono ?_
        rintro e w1 ⟨rfl, s1⟩
        obtain ⟨hb1, q0, q1, q2, q3, q4, q5, q6, q7, q8, q9, qa, qb⟩ := id s1
        have S1 := Lib.hid s1
        clear s1 C1
        go_wp2_with fail
        clear q0 q1 q2 q3 q4 q5 q6 q7 q8 q9 qa qb
        refine (C2.out w1 S1.out).mono ?_
        rintro e w2 ⟨rfl, s2⟩
        obtain ⟨hb2, q0, q1, q2, q3, q4, q5, q6, q7, q8, q9, qa, qb⟩ := id s2
        have S2 := Lib.hid s2
        clear s2 C2
        go_wp2
        go_ret
        exact ⟨by first | rfl | (simp; done) | (simp; omega), fin.out _ S2.out⟩
      · have hb : (fr == to) = false := by simp [hft]
        cases A3 with
        | false =>
          rw [Hdec.out false (by rw [HOK.out]; simp)]
          go_enter Tryz.func32, Tryz.ntmps32
          go_wp2_with fail
          rw [← hWa]
          refine C1.out.mono ?_
          rintro e w1 ⟨rfl, s1⟩
          obtain ⟨hb1, q0, q1, q2, q3, q4, q5, q6, q7, q8, q9, qa, qb⟩ := id s1
          have S1 := Lib.hid s1
          clear s1 C1
          go_wp2_with fail
          clear q0 q1 q2 q3 q4 q5 q6 q7 q8 q9 qa qb
          refine (C2.out w1 S1.out).mono ?_
          rintro e w2 ⟨rfl, s2⟩
          obtain ⟨hb2, q0, q1, q2, q3, q4, q5, q6, q7, q8, q9, qa, qb⟩ := id s2
          have S2 := Lib.hid s2
          clear s2 C2
          go_wp2_with fail
          clear q0 q1 q2 q3 q4 q5 q6 q7 q8 q9 qa qb
          refine (C3.out w2 S2.out).mono ?_
          rintro e w3 ⟨rfl, s3⟩
          obtain ⟨hb3, q0, q1, q2, q3, q4, q5, q6, q7, q8, q9, qa, qb⟩ := id s3
          have S3 := Lib.hid s3
          clear s3 C3
          go_wp2
          go_ret
          exact ⟨by first | rfl | (simp; done) | (simp; omega), fin.out _ S3.out⟩
        | true =>
          cases A4 with
          | false =>
            rw [Hdec.out false (by rw [HOK.out]; simp)]
            go_enter Tryz.func32, Tryz.ntmps32
            go_wp2_with fail
            rw [← hWa]
            refine C1.out.mono ?_
            rintro e w1 ⟨rfl, s1⟩
            obtain ⟨hb1, q0, q1, q2, q3, q4, q5, q6, q7, q8, q9, qa, qb⟩ := id s1
            have S1 := Lib.hid s1
            clear s1 C1
            go_wp2_with fail
            clear q0 q1 q2 q3 q4 q5 q6 q7 q8 q9 qa qb
            refine (C2.out w1 S1.out).mono ?_
            rintro e w2 ⟨rfl, s2⟩
            obtain ⟨hb2, q0, q1, q2, q3, q4, q5, q6, q7, q8, q9, qa, qb⟩ := id s2
            have S2 := Lib.hid s2
            clear s2 C2
            go_wp2_with fail
            clear q0 q1 q2 q3 q4 q5 q6 q7 q8 q9 qa qb
            refine (C3.out w2 S2.out).mono ?_
            rintro e w3 ⟨rfl, s3⟩
            obtain ⟨hb3, q0, q1, q2, q3, q4, q5, q6, q7, q8, q9, qa, qb⟩ := id s3
            have S3 := Lib.hid s3
            clear s3 C3
            go_wp2_with fail
            clear q0 q1 q2 q3 q4 q5 q6 q7 q8 q9 qa qb
            refine (C4.out w3 S3.out).mono ?_
            rintro e w4 ⟨rfl, s4⟩
            obtain ⟨hb4, q0, q1, q2, q3, q4, q5, q6, q7, q8, q9, qa, qb⟩ := id s4
            have S4 := Lib.hid s4
            clear s4 C4
            go_wp2
            go_ret
            exact ⟨by first | rfl | (simp; done) | (simp; omega), fin.out _ S4.out⟩
          | true =>
            by_cases hdn : dn ≤ 4096
            · have hd1 : (dn : Int) ≤ 4096 := by omega
              by_cases hen : en ≤ 64
              · have he1 : (en : Int) ≤ 64 := by omega
                cases A5 with
                | false =>
                  rw [Hdec.out false (by rw [HOK.out]; simp)]
                  go_enter Tryz.func32, Tryz.ntmps32
                  go_wp2_with fail
                  rw [← hWa]
                  refine C1.out.mono ?_
                  rintro e w1 ⟨rfl, s1⟩
                  obtain ⟨hb1, q0, q1, q2, q3, q4, q5, q6, q7, q8, q9, qa, qb⟩ := id s1
                  have S1 := Lib.hid s1
                  clear s1 C1
                  go_wp2_with fail
                  clear q0 q1 q2 q3 q4 q5 q6 q7 q8 q9 qa qb
                  refine (C2.out w1 S1.out).mono ?_
                  rintro e w2 ⟨rfl, s2⟩
                  obtain ⟨hb2, q0, q1, q2, q3, q4, q5, q6, q7, q8, q9, qa, qb⟩ := id s2
                  have S2 := Lib.hid s2
                  clear s2 C2
                  go_wp2_with fail
                  clear q0 q1 q2 q3 q4 q5 q6 q7 q8 q9 qa qb
                  refine (C3.out w2 S2.out).mono ?_
                  rintro e w3 ⟨rfl, s3⟩
                  obtain ⟨hb3, q0, q1, q2, q3, q4, q5, q6, q7, q8, q9, qa, qb⟩ := id s3
                  have S3 := Lib.hid s3
                  clear s3 C3
                  go_wp2_with fail
                  clear q0 q1 q2 q3 q4 q5 q6 q7 q8 q9 qa qb
                  refine (C4.out w3 S3.out).mono ?_
                  rintro e w4 ⟨rfl, s4⟩
                  obtain ⟨hb4, q0, q1, q2, q3, q4, q5, q6, q7, q8, q9, qa, qb⟩ := id s4
                  have S4 := Lib.hid s4
                  clear s4 C4
                  go_wp2_with fail
                  clear q0 q1 q2 q3 q4 q5 q6 q7 q8 q9 qa qb
                  refine (C5.out w4 S4.out).mono ?_
                  rintro e w5 ⟨rfl, s5⟩
                  obtain ⟨hb5, q0, q1, q2, q3, q4, q5, q6, q7, q8, q9, qa, qb⟩ := id s5
                  have S5 := Lib.hid s5
                  clear s5 C5
                  go_wp2
                  go_ret
                  exact ⟨by first | rfl | (simp; done) | (simp; omega), fin.out _ S5.out⟩
                | true =>
                  rw [Hdec.out true (by rw [HOK.out]; simp; omega)]
                  go_enter Tryz.func32, Tryz.ntmps32
                  go_wp2_with fail
                  rw [← hWa]
                  refine C1.out.mono ?_
                  rintro e w1 ⟨rfl, s1⟩
                  obtain ⟨hb1, q0, q1, q2, q3, q4, q5, q6, q7, q8, q9, qa, qb⟩ := id s1
                  have S1 := Lib.hid s1
                  clear s1 C1
                  go_wp2_with fail
                  clear q0 q1 q2 q3 q4 q5 q6 q7 q8 q9 qa qb
                  refine (C2.out w1 S1.out).mono ?_
                  rintro e w2 ⟨rfl, s2⟩
                  obtain ⟨hb2, q0, q1, q2, q3, q4, q5, q6, q7, q8, q9, qa, qb⟩ := id s2
                  have S2 := Lib.hid s2
                  clear s2 C2
                  go_wp2_with fail
                  clear q0 q1 q2 q3 q4 q5 q6 q7 q8 q9 qa qb
                  refine (C3.out w2 S2.out).mono ?_
                  rintro e w3 ⟨rfl, s3⟩
                  obtain ⟨hb3, q0, q1, q2, q3, q4, q5, q6, q7, q8, q9, qa, qb⟩ := id s3
                  have S3 := Lib.hid s3
                  clear s3 C3
                  go_wp2_with fail
                  clear q0 q1 q2 q3 q4 q5 q6 q7 q8 q9 qa qb
                  refine (C4.out w3 S3.out).mono ?_
                  rintro e w4 ⟨rfl, s4⟩
                  obtain ⟨hb4, q0, q1, q2, q3, q4, q5, q6, q7, q8, q9, qa, qb⟩ := id s4
                  have S4 := Lib.hid s4
                  clear s4 C4
                  go_wp2_with fail
                  clear q0 q1 q2 q3 q4 q5 q6 q7 q8 q9 qa qb
                  refine (C5.out w4 S4.out).mono ?_
                  rintro e w5 ⟨rfl, s5⟩
                  obtain ⟨hb5, q0, q1, q2, q3, q4, q5, q6, q7, q8, q9, qa, qb⟩ := id s5
                  have S5 := Lib.hid s5
                  clear s5 C5
                  go_wp2
                  go_ret
                  exact ⟨by first | rfl | (simp; done) | (simp; omega), fin.out _ S5.out⟩
              · have he1 : ¬ ((en : Int) ≤ 64) := by omega
                have he2 : decide ((en : Int) ≤ 64) = false := decide_eq_false he1
                rw [Hdec.out false (by rw [HOK.out]; simp; omega)]
                clear hen
                go_enter Tryz.func32, Tryz.ntmps32
                go_wp2_with fail
                rw [← hWa]
                refine C1.out.mono ?_
                rintro e w1 ⟨rfl, s1⟩
                obtain ⟨hb1, q0, q1, q2, q3, q4, q5, q6, q7, q8, q9, qa, qb⟩ := id s1
                have S1 := Lib.hid s1
                clear s1 C1
                go_wp2_with fail
                clear q0 q1 q2 q3 q4 q5 q6 q7 q8 q9 qa qb
                refine (C2.out w1 S1.out).mono ?_
                rintro e w2 ⟨rfl, s2⟩
                obtain ⟨hb2, q0, q1, q2, q3, q4, q5, q6, q7, q8, q9, qa, qb⟩ := id s2
                have S2 := Lib.hid s2
                clear s2 C2
                go_wp2_with fail
                clear q0 q1 q2 q3 q4 q5 q6 q7 q8 q9 qa qb
                refine (C3.out w2 S2.out).mono ?_
                rintro e w3 ⟨rfl, s3⟩
                obtain ⟨hb3, q0, q1, q2, q3, q4, q5, q6, q7, q8, q9, qa, qb⟩ := id s3
                have S3 := Lib.hid s3
                clear s3 C3
                go_wp2_with fail
                clear q0 q1 q2 q3 q4 q5 q6 q7 q8 q9 qa qb
                refine (C4.out w3 S3.out).mono ?_
                rintro e w4 ⟨rfl, s4⟩
                obtain ⟨hb4, q0, q1, q2, q3, q4, q5, q6, q7, q8, q9, qa, qb⟩ := id s4
                have S4 := Lib.hid s4
                clear s4 C4
                go_wp2
                go_ret
                exact ⟨by first | rfl | (simp; done) | (simp; omega), fin.out _ S4.out⟩
            · have hd1 : ¬ ((dn : Int) ≤ 4096) := by omega
              have hd2 : decide ((dn : Int) ≤ 4096) = false := decide_eq_false hd1
              rw [Hdec.out false (by rw [HOK.out]; simp; omega)]
              clear hdn
              go_enter Tryz.func32, Tryz.ntmps32
              go_wp2_with fail
              rw [← hWa]
              refine C1.out.mono ?_
              rintro e w1 ⟨rfl, s1⟩
              obtain ⟨hb1, q0, q1, q2, q3, q4, q5, q6, q7, q8, q9, qa, qb⟩ := id s1
              have S1 := Lib.hid s1
              clear s1 C1
              go_wp2_with fail
              clear q0 q1 q2 q3 q4 q5 q6 q7 q8 q9 qa qb
              refine (C2.out w1 S1.out).mono ?_
              rintro e w2 ⟨rfl, s2⟩
              obtain ⟨hb2, q0, q1, q2, q3, q4, q5, q6, q7, q8, q9, qa, qb⟩ := id s2
              have S2 := Lib.hid s2
              clear s2 C2
              go_wp2_with fail
              clear q0 q1 q2 q3 q4 q5 q6 q7 q8 q9 qa qb
              refine (C3.out w2 S2.out).mono ?_
              rintro e w3 ⟨rfl, s3⟩
              obtain ⟨hb3, q0, q1, q2, q3, q4, q5, q6, q7, q8, q9, qa, qb⟩ := id s3
              have S3 := Lib.hid s3
              clear s3 C3
              go_wp2_with fail
              clear q0 q1 q2 q3 q4 q5 q6 q7 q8 q9 qa qb
              refine (C4.out w3 S3.out).mono ?_
              rintro e w4 ⟨rfl, s4⟩
              obtain ⟨hb4, q0, q1, q2, q3, q4, q5, q6, q7, q8, q9, qa, qb⟩ := id s4
              have S4 := Lib.hid s4
              clear s4 C4
              go_wp2
              go_ret
              exact ⟨by first | rfl | (simp; done) | (simp; omega), fin.out _ S4.out⟩
set_option maxHeartbeats 2000000 in
theorem check_any (x : RM) (w : World) (hf : x.Fit w) :
    Calls Tryz.prog 13 #[x.val] w fun e w' => e = .returned (errV (if PK.mayM x.msg then 0 else 1)) ∧ Below w.heap.size w w' := by
  have HM := Lib.hid (fun (V : World) (b : Below w.heap.size w V) => may_any x V (hf.below b))
  obtain ⟨kd, fr, to, tm, ix, lt, cm, ro, ok, off, da, dn, dc, d, ea, en, ec, es⟩ := x
  simp only [RM.val] at HM ⊢
  clear hf
  by_cases hm : PK.mayM (RM.msg ⟨kd, fr, to, tm, ix, lt, cm, ro, ok, off, da, dn, dc, d, ea, en, ec, es⟩)
  · rw [if_pos hm]
    rw [decide_eq_true hm] at HM
    clear hm
    go_enter Tryz.func13, Tryz.ntmps13
    go_wp2_with fail
    have Ba : Below w.heap.size w (w.alloc (.cells #[.int .i64 kd, .int .i64 fr, .int .i64 to, .int .i64 tm, .int .i64 ix, .int .i64 lt, .int .i64 cm, .int .i64 ro, .bool ok, .int .i64 off, .slice da dn dc, .slice ea en ec] 30)) := (Below.refl _ _).alloc (Nat.le_refl _) _
    refine (HM.out _ Ba).mono ?_
    rintro e w1 ⟨rfl, b1⟩
    have B1 : Hid (Below w.heap.size w w1) := Ba.trans (b1.mono Ba.size)
    clear b1
    go_wp2
    go_ret
    exact ⟨rfl, B1.out⟩
  · rw [if_neg hm]
    rw [decide_eq_false hm] at HM
    clear hm
    go_enter Tryz.func13, Tryz.ntmps13
    go_wp2_with fail
    have Ba : Below w.heap.size w (w.alloc (.cells #[.int .i64 kd, .int .i64 fr, .int .i64 to, .int .i64 tm, .int .i64 ix, .int .i64 lt, .int .i64 cm, .int .i64 ro, .bool ok, .int .i64 off, .slice da dn dc, .slice ea en ec] 30)) := (Below.refl _ _).alloc (Nat.le_refl _) _
    refine (HM.out _ Ba).mono ?_
    rintro e w1 ⟨rfl, b1⟩
    have B1 : Hid (Below w.heap.size w w1) := Ba.trans (b1.mono Ba.size)
    clear b1
    go_wp2
    go_ret
    exact ⟨rfl, B1.out⟩
end Go.Proofs.YtbgockggbpmhnaaGreatDoor
