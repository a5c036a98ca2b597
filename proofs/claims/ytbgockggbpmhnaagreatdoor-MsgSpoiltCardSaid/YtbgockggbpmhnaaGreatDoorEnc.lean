/-
  msg.Encode, by a contract.
  Conditions: the listed variables read as listed ('Env'); what is laid comes to at most 2^47 - 500 bytes.
-/
import Derived.Test.YtbgockggbpmhnaaGreatDoorWg
import Derived.Test.YtbgockggbpmhnaaGreatDoorMayR
namespace Go.Proofs.YtbgockggbpmhnaaGreatDoor
open Go Go.RowKit

/-- Numbers as laid. -/
def uBs : List Int → List UInt8
  | [] => []
  | n :: r => PK.uB (PK.u64 n) ++ uBs r
theorem uBs_append (a b : List Int) : uBs (a ++ b) = uBs a ++ uBs b := by
  induction a with
  | nil => rfl
  | cons n r ih => simp [uBs, ih]
theorem uBs_take {l : List Int} {k : Nat} {n : Int} (hx : l[k]? = some n) : uBs (l.take (k + 1)) = uBs (l.take k) ++ PK.uB (PK.u64 n) := by
  have hk : k < l.length := (List.getElem?_eq_some_iff.1 hx).1
  have e : l.take (k + 1) = l.take k ++ [n] := by rw [List.take_succ_eq_append_getElem hk]; congr 1; simpa [List.getElem?_eq_getElem hk] using hx
  rw [e, uBs_append]; simp [uBs]
theorem uBs_len (l : List Int) : (uBs l).length ≤ 22 * l.length := by
  induction l with
  | nil => simp [uBs]
  | cons n r ih => have := PK.uB_len _ (PK.u64_lt n); simp [uBs]; omega
theorem encEs_take {l : List RE} {k : Nat} {x : RE} (hx : l[k]? = some x) : PK.encEs ((l.take (k + 1)).map RE.ent) = PK.encEs ((l.take k).map RE.ent) ++ PK.bB (PK.encE x.ent) := by
  have hk : k < l.length := (List.getElem?_eq_some_iff.1 hx).1
  have e : l.take (k + 1) = l.take k ++ [x] := by rw [List.take_succ_eq_append_getElem hk]; congr 1; simpa [List.getElem?_eq_getElem hk] using hx
  rw [e, List.map_append, PK.encEs_append]; simp [PK.encEs]
theorem encEs_take_le (l : List RE) (k : Nat) : (PK.encEs ((l.take k).map RE.ent)).length ≤ (PK.encEs (l.map RE.ent)).length := by
  have h : l.map RE.ent = (l.take k).map RE.ent ++ (l.drop k).map RE.ent := by rw [← List.map_append, List.take_append_drop]
  rw [h, PK.encEs_append, List.length_append]
  omega
theorem bB_len_eq (d : List UInt8) : (PK.bB d).length = (Lib.decDigits d.length).length + 2 + d.length := by simp [PK.bB]; omega
theorem encE_ge (e : PK.Ent) : e.d.length ≤ (PK.encE e).length := by
  unfold PK.encE
  simp only [List.length_append, bB_len_eq]
  omega
set_option maxRecDepth 100000 in
set_option maxHeartbeats 8000000 in
theorem encM_any (x : RM) (w : World) (hE : Env w) (hf : x.Fit w) (hroom : (PK.encM x.msg).length + 1000 ≤ roomB) :
    Calls Tryz.prog 16 #[x.val] w fun e w' => RW w w' e (PK.encM x.msg) := by
  obtain ⟨kd, fr, to, tm, ix, lt, cm, ro, ok, off, da, dn, dc, d, ea, en, ec, es⟩ := x
  obtain ⟨hl, hv, he⟩ := hf
  simp only at hl hv he
  simp only [RM.val]
  have hel := he.len.1
  have he63 : (en : Int) ≤ 9223372036854775807 := by have := he.len; simp only [maxLen] at this; omega
  obtain ⟨L8, hL8⟩ : ∃ L, L = uBs [kd, fr, to, tm, ix, lt, cm, ro] := ⟨_, rfl⟩
  obtain ⟨Lb, hLb⟩ : ∃ L, L = L8 ++ PK.tB ok := ⟨_, rfl⟩
  obtain ⟨Lo, hLo⟩ : ∃ L, L = Lb ++ PK.uB (PK.u64 off) := ⟨_, rfl⟩
  obtain ⟨Ld, hLd⟩ : ∃ L, L = Lo ++ PK.bB d := ⟨_, rfl⟩
  obtain ⟨Ln, hLn⟩ : ∃ L, L = Ld ++ PK.uB en := ⟨_, rfl⟩
  have henc : PK.encM (RM.msg ⟨kd, fr, to, tm, ix, lt, cm, ro, ok, off, da, dn, dc, d, ea, en, ec, es⟩) = Ln ++ PK.encEs (es.map RE.ent) := by
    rw [hLn, hLd, hLo, hLb, hL8]
    simp [PK.encM, RM.msg, uBs, hel]
  rw [henc, List.length_append] at hroom
  rw [henc]
  have l8 : L8.length ≤ Ln.length := by rw [hLn, hLd, hLo, hLb]; simp only [List.length_append]; omega
  have lb : Lb.length ≤ Ln.length := by rw [hLn, hLd, hLo]; simp only [List.length_append]; omega
  have lo : Lo.length + (PK.bB d).length ≤ Ln.length := by rw [hLn, hLd]; simp only [List.length_append]; omega
  have ld : Ld.length ≤ Ln.length := by rw [hLn]; simp only [List.length_append]; omega
  have hen64 : en < 18446744073709551616 := by omega
  have wo := wrap_u64_nat off
  have wn : IntKind.u64.wrap (en : Int) = (en : Int) := by rw [IntKind.wrap_u64]; omega
  have HE := Lib.hid hE
  have HV := Lib.hid hv
  have HES := Lib.hid he
  have HR := Lib.hid hroom
  have HL := Lib.hid hl
  have HEL := Lib.hid hel
  obtain ⟨Wa, hWa⟩ : ∃ W, W = w.alloc (.cells #[.int .i64 kd, .int .i64 fr, .int .i64 to, .int .i64 tm, .int .i64 ix, .int .i64 lt, .int .i64 cm, .int .i64 ro, .bool ok, .int .i64 off, .slice da dn dc, .slice ea en ec] 30) := ⟨_, rfl⟩
  have gA : Wa.heap[w.heap.size]? = some (.cells #[.int .i64 kd, .int .i64 fr, .int .i64 to, .int .i64 tm, .int .i64 ix, .int .i64 lt, .int .i64 cm, .int .i64 ro, .bool ok, .int .i64 off, .slice da dn dc, .slice ea en ec] 30) := by rw [hWa]; exact heap_alloc_new _ _
  have hBa : Below w.heap.size w Wa := by rw [hWa]; exact (Below.refl _ _).alloc (Nat.le_refl _) _
  have hsz : w.heap.size < Wa.heap.size := by rw [hWa]; simp
  have HN := Lib.hid (new_any Wa (hE.below hBa))
  obtain ⟨M, hM⟩ : ∃ M, Wa.heap.size = M := ⟨_, rfl⟩
  rw [hM] at HN hsz
  have GA := Lib.hid gA
  have BA := Lib.hid hBa
  have SZ := Lib.hid hsz
  have L8l := Lib.hid hL8
  have Hg : Hid (glob ≤ M) := Lib.hid (Nat.le_of_lt (Nat.lt_of_le_of_lt (show glob ≤ w.heap.size from hE.big) hsz))
  have l8' := Lib.hid l8
  have lb' := Lib.hid lb
  have lo' := Lib.hid lo
  have ld' := Lib.hid ld
  have LB := Lib.hid hLb
  have LO := Lib.hid hLo
  have LD := Lib.hid hLd
  have LN := Lib.hid hLn
  have H64 := Lib.hid hen64
  clear hE hv he hroom hl hel gA hBa hsz henc hL8 l8 lb lo ld hLb hLo hLd hLn hM hen64
  go_enter Tryz.func16, Tryz.ntmps16
  go_wp2_with fail
  rw [← hWa]
  clear hWa
  refine HN.out.mono ?_
  rintro e w1 ⟨rfl, h1, b1⟩
  have G1 := Lib.hid ((b1.block _ SZ.out).trans GA.out)
  have B1 : Hid (Below w.heap.size w w1) := BA.out.trans (b1.mono (Nat.le_of_lt SZ.out))
  have X1 := Lib.hid h1
  clear GA BA HN h1 b1
  obtain ⟨⟨p0, p1, p2, p3, p4, p5, p6, p7, p8, p9, pa, pb⟩, _⟩ := cells12 G1.out
  go_wp2_with fail
  obtain ⟨W1, hW1⟩ : ∃ W, W = w1.alloc (.cells #[.int .i64 kd, .int .i64 fr, .int .i64 to, .int .i64 tm, .int .i64 ix, .int .i64 lt, .int .i64 cm, .int .i64 ro] 3) := ⟨_, rfl⟩
  obtain ⟨K8, hK8⟩ : ∃ K, w1.heap.size = K := ⟨_, rfl⟩
  have hlt1 : M < w1.heap.size := X1.out.lt
  have hW1s : W1.heap.size = K8 + 1 := by rw [hW1]; simp [hK8]
  have hb1 : Below w1.heap.size w1 W1 := by rw [hW1]; exact (Below.refl _ _).alloc (Nat.le_refl _) _
  have hin : IsI W1 K8 0 [kd, fr, to, tm, ix, lt, cm, ro] := by rw [hW1, ← hK8]; exact isI_new w1 [kd, fr, to, tm, ix, lt, cm, ro] _
  have hgl : ∀ k, (M ≤ k ∧ k ≠ K8) → glob ≤ k := fun k hk => Nat.le_trans Hg.out hk.1
  have hX : Wg W1 (fun k => M ≤ k ∧ k ≠ K8) M [] := (X1.out.wg.turn hgl (fun k h1 h2 => ⟨h2, by omega⟩)).below hb1
  have hB1 : Below w.heap.size w W1 := B1.out.trans (hb1.mono B1.out.size)
  have bx := hb1.block w.heap.size (by have := SZ.out; omega)
  have cont : Hid (∀ V, Fr (fun k => M ≤ k ∧ k ≠ K8) W1 V → (Hid (Fr (fun k => M ≤ k ∧ k ≠ K8) W1 V) ∧ V.cell? ⟨w.heap.size, 8, none⟩ = some (.bool ok) ∧ V.cell? ⟨w.heap.size, 9, none⟩ = some (.int .i64 off) ∧ V.cell? ⟨w.heap.size, 10, none⟩ = some (.slice da dn dc) ∧ V.cell? ⟨w.heap.size, 11, none⟩ = some (.slice ea en ec))) := fun V f => by
    have hk := f.block w.heap.size (by have := SZ.out; omega) (fun x => by have := SZ.out; omega)
    have hk2 := hk.trans bx
    exact ⟨Lib.hid f, (World.cell?_of_block hk2).trans p8, (World.cell?_of_block hk2).trans p9, (World.cell?_of_block hk2).trans pa, (World.cell?_of_block hk2).trans pb⟩
  have HBel : Hid (∀ V, Fr (fun k => M ≤ k ∧ k ≠ K8) W1 V → Below w.heap.size w V) := fun V f => hB1.trans ⟨f.os, f.tape, f.output, f.size, fun k hk => f.block k (Nat.lt_of_lt_of_le hk hB1.size) (fun x => by have := SZ.out; omega)⟩
  have HK : Hid (∀ V, Fr (fun k => M ≤ k ∧ k ≠ K8) W1 V → ∀ k n, [kd, fr, to, tm, ix, lt, cm, ro][k]? = some n → V.cell? ⟨K8, k, none⟩ = some (.int .i64 n)) := fun V f k n hk => by
    have := hin k n hk
    rw [Nat.zero_add] at this
    exact f.cell this (fun x => x.2 rfl)
  have HNew : Hid (∀ V, Fr (fun k => M ≤ k ∧ k ≠ K8) W1 V → ∀ k, V.heap.size ≤ k → M ≤ k ∧ k ≠ K8) := fun V f k hk => by have := f.size; omega
  have HU : Hid (∀ (V : World) (u : Nat) (l : List UInt8), Fr (fun k => M ≤ k ∧ k ≠ K8) W1 V → Wg V (fun k => M ≤ k ∧ k ≠ K8) M l → u < 18446744073709551616 → l.length + 100 ≤ roomB → Calls Tryz.prog 42 #[.pointer (some ⟨M, 0, none⟩), .int .u64 u] V fun e w' => e = .returned (.pointer (some ⟨M, 0, none⟩)) ∧ Hid (Wg w' (fun k => M ≤ k ∧ k ≠ K8) M (l ++ PK.uB u)) ∧ (Hid (Fr (fun k => M ≤ k ∧ k ≠ K8) W1 w') ∧ w'.cell? ⟨w.heap.size, 8, none⟩ = some (.bool ok) ∧ w'.cell? ⟨w.heap.size, 9, none⟩ = some (.int .i64 off) ∧ w'.cell? ⟨w.heap.size, 10, none⟩ = some (.slice da dn dc) ∧ w'.cell? ⟨w.heap.size, 11, none⟩ = some (.slice ea en ec))) := fun V u l f h hu hr =>
    (wuint_g _ M l u V h (HNew.out V f) hu (by have := PK.dec_le u hu; omega) (HE.out.below (HBel.out V f))).mono fun e w' ⟨e1, e2, e3⟩ => ⟨e1, Lib.hid e2, cont.out w' (f.trans e3)⟩
  have H8r : Hid (L8.length + 1000 ≤ roomB) := Lib.hid (by have := HR.out; have := l8'.out; omega)
  have HX := Lib.hid hX
  clear hX hgl hin hb1 bx p0 p1 p2 p3 p4 p5 p6 p7 p8 p9 pa pb hB1 G1 B1 X1
  rw [← hW1, hK8]
  have hKs : K8 < W1.heap.size := by omega
  have HKs := Lib.hid hKs
  clear hW1 hK8 hlt1 hW1s hKs
  go_loopw [5, 27] (fun _ v V => ∃ k : Nat, k ≤ 8 ∧ v = .int .i64 k ∧ Hid (Wg V (fun k => M ≤ k ∧ k ≠ K8) M (uBs ([kd, fr, to, tm, ix, lt, cm, ro].take k))) ∧ Hid (Fr (fun k => M ≤ k ∧ k ≠ K8) W1 V)) (fun _ v _ => 8 - (intOf v).toNat)
  case atStart => exact ⟨0, by decide, rfl, HX, Lib.hid (Fr.refl _ _)⟩
  case round =>
    obtain ⟨k, hk, rfl, X2, F2⟩ := hrel
    by_cases hlt : k < 8
    · obtain ⟨n, hn⟩ : ∃ n, [kd, fr, to, tm, ix, lt, cm, ro][k]? = some n := ⟨_, List.getElem?_eq_getElem hlt⟩
      have c0 := HK.out wr F2.out k n hn
      have hs := uBs_take hn
      have hlen := uBs_len ([kd, fr, to, tm, ix, lt, cm, ro].take k)
      have hr : (uBs ([kd, fr, to, tm, ix, lt, cm, ro].take k)).length + 100 ≤ roomB := by have := List.length_take_le k [kd, fr, to, tm, ix, lt, cm, ro]; simp only [roomB]; omega
      have HC := Lib.hid (HU.out wr (PK.u64 n) _ F2.out X2.out (PK.u64_lt n) hr)
      rw [← hs] at HC
      have wv := wrap_u64_nat n
      generalize PK.u64 n = u at *
      clear hs hlen hr hn
      go_wp2_with fail
      refine HC.out.mono ?_
      rintro e w2 ⟨rfl, X3, F3⟩
      have X3 := Lib.hid X3.out
      have F3 := Lib.hid F3.1.out
      go_wp2
      exact ⟨⟨k + 1, hlt, by simp, X3, F3⟩, by simp [intOf]; omega⟩
    · obtain rfl : k = 8 := by omega
      have X3 : Hid (Wg wr (fun k => M ≤ k ∧ k ≠ K8) M L8) := Lib.hid (by have := X2.out; rw [L8l.out]; exact this)
      clear X2 HK HX
      have CB : Hid (∀ V, (Hid (Fr (fun k => M ≤ k ∧ k ≠ K8) W1 V) ∧ V.cell? ⟨w.heap.size, 8, none⟩ = some (.bool ok) ∧ V.cell? ⟨w.heap.size, 9, none⟩ = some (.int .i64 off) ∧ V.cell? ⟨w.heap.size, 10, none⟩ = some (.slice da dn dc) ∧ V.cell? ⟨w.heap.size, 11, none⟩ = some (.slice ea en ec)) → Hid (Wg V (fun k => M ≤ k ∧ k ≠ K8) M L8) → Calls Tryz.prog 43 #[.pointer (some ⟨M, 0, none⟩), .bool ok] V fun e w' => e = .returned (.pointer (some ⟨M, 0, none⟩)) ∧ Hid (Wg w' (fun k => M ≤ k ∧ k ≠ K8) M Lb) ∧ (Hid (Fr (fun k => M ≤ k ∧ k ≠ K8) W1 w') ∧ w'.cell? ⟨w.heap.size, 8, none⟩ = some (.bool ok) ∧ w'.cell? ⟨w.heap.size, 9, none⟩ = some (.int .i64 off) ∧ w'.cell? ⟨w.heap.size, 10, none⟩ = some (.slice da dn dc) ∧ w'.cell? ⟨w.heap.size, 11, none⟩ = some (.slice ea en ec))) := fun V h x =>
        (wbool_g _ M L8 ok V x.out (HNew.out V h.1.out) (by have := H8r.out; omega)).mono fun e w' ⟨e1, e2, e3⟩ => ⟨e1, Lib.hid (by rw [LB.out]; exact e2), cont.out w' (h.1.out.trans e3)⟩
      have CO : Hid (∀ V, (Hid (Fr (fun k => M ≤ k ∧ k ≠ K8) W1 V) ∧ V.cell? ⟨w.heap.size, 8, none⟩ = some (.bool ok) ∧ V.cell? ⟨w.heap.size, 9, none⟩ = some (.int .i64 off) ∧ V.cell? ⟨w.heap.size, 10, none⟩ = some (.slice da dn dc) ∧ V.cell? ⟨w.heap.size, 11, none⟩ = some (.slice ea en ec)) → Hid (Wg V (fun k => M ≤ k ∧ k ≠ K8) M Lb) → Calls Tryz.prog 42 #[.pointer (some ⟨M, 0, none⟩), .int .u64 (PK.u64 off)] V fun e w' => e = .returned (.pointer (some ⟨M, 0, none⟩)) ∧ Hid (Wg w' (fun k => M ≤ k ∧ k ≠ K8) M Lo) ∧ (Hid (Fr (fun k => M ≤ k ∧ k ≠ K8) W1 w') ∧ w'.cell? ⟨w.heap.size, 8, none⟩ = some (.bool ok) ∧ w'.cell? ⟨w.heap.size, 9, none⟩ = some (.int .i64 off) ∧ w'.cell? ⟨w.heap.size, 10, none⟩ = some (.slice da dn dc) ∧ w'.cell? ⟨w.heap.size, 11, none⟩ = some (.slice ea en ec))) := fun V h x => by
        rw [LO.out]
        exact HU.out V (PK.u64 off) Lb h.1.out x.out (PK.u64_lt off) (by have := HR.out; have := lb'.out; omega)
      have CD : Hid (∀ V, (Hid (Fr (fun k => M ≤ k ∧ k ≠ K8) W1 V) ∧ V.cell? ⟨w.heap.size, 8, none⟩ = some (.bool ok) ∧ V.cell? ⟨w.heap.size, 9, none⟩ = some (.int .i64 off) ∧ V.cell? ⟨w.heap.size, 10, none⟩ = some (.slice da dn dc) ∧ V.cell? ⟨w.heap.size, 11, none⟩ = some (.slice ea en ec)) → Hid (Wg V (fun k => M ≤ k ∧ k ≠ K8) M Lo) → Calls Tryz.prog 44 #[.pointer (some ⟨M, 0, none⟩), .slice da dn dc] V fun e w' => e = .returned (.pointer (some ⟨M, 0, none⟩)) ∧ Hid (Wg w' (fun k => M ≤ k ∧ k ≠ K8) M Ld) ∧ (Hid (Fr (fun k => M ≤ k ∧ k ≠ K8) W1 w') ∧ w'.cell? ⟨w.heap.size, 8, none⟩ = some (.bool ok) ∧ w'.cell? ⟨w.heap.size, 9, none⟩ = some (.int .i64 off) ∧ w'.cell? ⟨w.heap.size, 10, none⟩ = some (.slice da dn dc) ∧ w'.cell? ⟨w.heap.size, 11, none⟩ = some (.slice ea en ec))) := fun V h x =>
        (wbytes_g _ M Lo da dn dc d V x.out (HNew.out V h.1.out) HL.out (HV.out.below (HBel.out V h.1.out)) (fun hd b hb q => by have := HV.out.own_lt hd b hb; have := SZ.out; omega) (by have := HR.out; have := lo'.out; rw [bB_len_eq] at this; omega) (HE.out.below (HBel.out V h.1.out))).mono fun e w' ⟨e1, e2, e3⟩ => ⟨e1, Lib.hid (by rw [LD.out, PK.bB, ← List.append_assoc]; exact e2), cont.out w' (h.1.out.trans e3)⟩
      have CN : Hid (∀ V, (Hid (Fr (fun k => M ≤ k ∧ k ≠ K8) W1 V) ∧ V.cell? ⟨w.heap.size, 8, none⟩ = some (.bool ok) ∧ V.cell? ⟨w.heap.size, 9, none⟩ = some (.int .i64 off) ∧ V.cell? ⟨w.heap.size, 10, none⟩ = some (.slice da dn dc) ∧ V.cell? ⟨w.heap.size, 11, none⟩ = some (.slice ea en ec)) → Hid (Wg V (fun k => M ≤ k ∧ k ≠ K8) M Ld) → Calls Tryz.prog 42 #[.pointer (some ⟨M, 0, none⟩), .int .u64 en] V fun e w' => e = .returned (.pointer (some ⟨M, 0, none⟩)) ∧ Hid (Wg w' (fun k => M ≤ k ∧ k ≠ K8) M Ln) ∧ (Hid (Fr (fun k => M ≤ k ∧ k ≠ K8) W1 w') ∧ w'.cell? ⟨w.heap.size, 8, none⟩ = some (.bool ok) ∧ w'.cell? ⟨w.heap.size, 9, none⟩ = some (.int .i64 off) ∧ w'.cell? ⟨w.heap.size, 10, none⟩ = some (.slice da dn dc) ∧ w'.cell? ⟨w.heap.size, 11, none⟩ = some (.slice ea en ec))) := fun V h x => by
        rw [LN.out]
        exact HU.out V en Ld h.1.out x.out H64.out (by have := HR.out; have := ld'.out; omega)
      have S0 := cont.out wr.drew F2.out.drew
      have X4 : Hid (Wg wr.drew (fun k => M ≤ k ∧ k ≠ K8) M L8) := Lib.hid (X3.out.below (Below.refl _ _).drew)
      generalize PK.u64 off = uo at *
      clear HU H8r X3 cont
      go_wp2_with fail
      refine wp_region_noPanic ?_
      refine wp_region_held_drew (S := fun V => (Hid (Fr (fun k => M ≤ k ∧ k ≠ K8) W1 V) ∧ V.cell? ⟨w.heap.size, 8, none⟩ = some (.bool ok) ∧ V.cell? ⟨w.heap.size, 9, none⟩ = some (.int .i64 off) ∧ V.cell? ⟨w.heap.size, 10, none⟩ = some (.slice da dn dc) ∧ V.cell? ⟨w.heap.size, 11, none⟩ = some (.slice ea en ec))) (by kernel_rfl) S0 (fun hHeld => ?_)
      refine wpAnyH_take (i := 0) (v := ?hv0) (List.getElem?_toArray.trans rfl) (by kernel_rfl) (by kernel_rfl) (by kernel_rfl) (fun _ _ _ h => h) (Or.inl ⟨by rfl, ?hy0⟩) (by assumption) ?hr0
      case hy0 => (intro wt hSw; (try dsimp only at hSw); go_simp; try (with_reducible rfl))
      try simp only [Act.put, List.setIfInBounds_toArray, List.set_cons_zero, List.set_cons_succ]
      refine wpAnyH_take (i := 1) (v := ?hv1) (List.getElem?_toArray.trans rfl) (by kernel_rfl) (by kernel_rfl) (by kernel_rfl) (fun _ _ _ h => h) (Or.inl ⟨by rfl, ?hy1⟩) (by assumption) ?hr1
      case hy1 => (intro wt hSw; (try dsimp only at hSw); go_simp; try (with_reducible rfl))
      try simp only [Act.put, List.setIfInBounds_toArray, List.set_cons_zero, List.set_cons_succ]
      refine wpAnyH_take (i := 2) (v := ?hv2) (List.getElem?_toArray.trans rfl) (by kernel_rfl) (by kernel_rfl) (by kernel_rfl) (fun _ _ _ h => h) (Or.inl ⟨by rfl, ?hy2⟩) (by assumption) ?hr2
      case hy2 => (intro wt hSw; (try dsimp only at hSw); go_simp; try (with_reducible rfl))
      try simp only [Act.put, List.setIfInBounds_toArray, List.set_cons_zero, List.set_cons_succ]
      refine wpAnyH_take (i := 4) (v := ?hv4) (List.getElem?_toArray.trans rfl) (by kernel_rfl) (by kernel_rfl) (by kernel_rfl) (fun _ _ _ h => h) (Or.inl ⟨by rfl, ?hy4⟩) (by assumption) ?hr4
      case hy4 => (intro wt hSw; (try dsimp only at hSw); go_simp; try (with_reducible rfl))
      try simp only [Act.put, List.setIfInBounds_toArray, List.set_cons_zero, List.set_cons_succ]
      refine wpAnyH_take (i := 5) (v := ?hv5) (List.getElem?_toArray.trans rfl) (by kernel_rfl) (by kernel_rfl) (by kernel_rfl) (fun _ _ _ h => h) (Or.inl ⟨by rfl, ?hy5⟩) (by assumption) ?hr5
      case hy5 => (intro wt hSw; (try dsimp only at hSw); go_simp; try (with_reducible rfl))
      try simp only [Act.put, List.setIfInBounds_toArray, List.set_cons_zero, List.set_cons_succ]
      refine wpAnyH_take (i := 6) (v := ?hv6) (List.getElem?_toArray.trans rfl) (by kernel_rfl) (by kernel_rfl) (by kernel_rfl) (fun _ _ _ h => h) (Or.inl ⟨by rfl, ?hy6⟩) (by assumption) ?hr6
      case hy6 => (intro wt hSw; (try dsimp only at hSw); go_simp; try (with_reducible rfl))
      try simp only [Act.put, List.setIfInBounds_toArray, List.set_cons_zero, List.set_cons_succ]
      refine wpAnyH_take (i := 8) (v := ?hv8) (List.getElem?_toArray.trans rfl) (by kernel_rfl) (by kernel_rfl) (by kernel_rfl) (fun _ _ _ h => h) (Or.inl ⟨by rfl, ?hy8⟩) (by assumption) ?hr8
      case hy8 => (intro wt hSw; (try dsimp only at hSw); go_simp; try (with_reducible rfl))
      try simp only [Act.put, List.setIfInBounds_toArray, List.set_cons_zero, List.set_cons_succ]
      refine wpAnyH_take (i := 9) (v := ?hv9) (List.getElem?_toArray.trans rfl) (by kernel_rfl) (by kernel_rfl) (by kernel_rfl) (fun _ _ _ h => h) (Or.inl ⟨by rfl, ?hy9⟩) (by assumption) ?hr9
      case hy9 => (intro wt hSw; (try dsimp only at hSw); go_simp; try (with_reducible rfl))
      try simp only [Act.put, List.setIfInBounds_toArray, List.set_cons_zero, List.set_cons_succ]
      refine wpAnyH_take (i := 11) (v := ?hv11) (List.getElem?_toArray.trans rfl) (by kernel_rfl) (by kernel_rfl) (by kernel_rfl) (fun _ _ _ h => h) (Or.inl ⟨by rfl, ?hy11⟩) (by assumption) ?hr11
      case hy11 => (intro wt hSw; (try dsimp only at hSw); go_simp; try (with_reducible rfl))
      try simp only [Act.put, List.setIfInBounds_toArray, List.set_cons_zero, List.set_cons_succ]
      refine wpAnyH_take (i := 12) (v := ?hv12) (List.getElem?_toArray.trans rfl) (by kernel_rfl) (by kernel_rfl) (by kernel_rfl) (fun _ _ _ h => h) (Or.inl ⟨by rfl, ?hy12⟩) (by assumption) ?hr12
      case hy12 => (intro wt hSw; (try dsimp only at hSw); go_simp; try (with_reducible rfl))
      try simp only [Act.put, List.setIfInBounds_toArray, List.set_cons_zero, List.set_cons_succ]
      refine wpAnyH_take (i := 13) (v := ?hv13) (List.getElem?_toArray.trans rfl) (by kernel_rfl) (by kernel_rfl) (by kernel_rfl) (fun _ _ _ h => h) (Or.inl ⟨by rfl, ?hy13⟩) (by assumption) ?hr13
      case hy13 => (intro wt hSw; (try dsimp only at hSw); go_simp; try (with_reducible rfl))
      try simp only [Act.put, List.setIfInBounds_toArray, List.set_cons_zero, List.set_cons_succ]
      refine wpAnyH_take (i := 14) (v := ?hv14) (List.getElem?_toArray.trans rfl) (by kernel_rfl) (by kernel_rfl) (by kernel_rfl) (fun _ _ _ h => h) (Or.inl ⟨by rfl, ?hy14⟩) (by assumption) ?hr14
      case hy14 => (intro wt hSw; (try dsimp only at hSw); go_simp; try (with_reducible rfl))
      try simp only [Act.put, List.setIfInBounds_toArray, List.set_cons_zero, List.set_cons_succ]
      refine wpAnyH_ready (rs := [3]) (by kernel_rfl) (by simp) ?_
      refine AllReadyH.cons (List.getElem?_toArray.trans rfl) (fun K hK => ?_) AllReadyH.nil
      go_simp
      go_at_call 43
      refine (CB.out _ ?_ X4).mono ?_
      assumption
      rintro e v1 ⟨rfl, X5, k1⟩
      clear CB X4
      try (go_wp2_with fail)
      refine hK.out _ _ ?_ (fun hHeld => ?_)
      · (try dsimp only)
        assumption
      clear hK K
      try simp only [Act.put, List.setIfInBounds_toArray, List.set_cons_zero, List.set_cons_succ]
      refine wpAnyH_ready (rs := [7]) (by kernel_rfl) (by simp) ?_
      refine AllReadyH.cons (List.getElem?_toArray.trans rfl) (fun K hK => ?_) AllReadyH.nil
      go_simp
      go_at_call 42
      refine (CO.out _ ?_ X5).mono ?_
      assumption
      rintro e v2 ⟨rfl, X6, k2⟩
      clear CO X5 k1
      try (go_wp2_with fail)
      refine hK.out _ _ ?_ (fun hHeld => ?_)
      · (try dsimp only)
        assumption
      clear hK K
      try simp only [Act.put, List.setIfInBounds_toArray, List.set_cons_zero, List.set_cons_succ]
      refine wpAnyH_ready (rs := [10]) (by kernel_rfl) (by simp) ?_
      refine AllReadyH.cons (List.getElem?_toArray.trans rfl) (fun K hK => ?_) AllReadyH.nil
      go_simp
      go_at_call 44
      refine (CD.out _ ?_ X6).mono ?_
      assumption
      rintro e v3 ⟨rfl, X7, k3⟩
      clear CD X6 k2
      try (go_wp2_with fail)
      refine hK.out _ _ ?_ (fun hHeld => ?_)
      · (try dsimp only)
        assumption
      clear hK K
      try simp only [Act.put, List.setIfInBounds_toArray, List.set_cons_zero, List.set_cons_succ]
      refine wpAnyH_ready (rs := [15]) (by kernel_rfl) (by simp) ?_
      refine AllReadyH.cons (List.getElem?_toArray.trans rfl) (fun K hK => ?_) AllReadyH.nil
      go_simp
      go_at_call 42
      refine (CN.out _ ?_ X7).mono ?_
      assumption
      rintro e v4 ⟨rfl, X8, k4⟩
      clear CN X7 k3
      try (go_wp2_with fail)
      refine hK.out _ _ ?_ (fun hHeld => ?_)
      · (try dsimp only)
        assumption
      clear hK K
      try simp only [Act.put, List.setIfInBounds_toArray, List.set_cons_zero, List.set_cons_succ]
      refine wpAnyH_done (by kernel_rfl) ?_ _
      refine NoPanic.normal ?_
      obtain ⟨hF4, r8, r9, ra, rb⟩ := id k4
      have B4 := Lib.hid (HBel.out v4 hF4.out)
      have hgM : ∀ k, M ≤ k → glob ≤ k := fun k hk => Nat.le_trans Hg.out hk
      have X9 : Hid (Wg v4 (fun k => M ≤ k) M Ln) := Lib.hid (X8.out.turn hgM (fun k _ h => h.1))
      have HgM := Lib.hid hgM
      clear k4 hF4 X8 hgM HBel HNew S0
      go_wp2_with fail
      go_loopw [55] (fun v V => ∃ k : Nat, k ≤ en ∧ v = .int .i64 k ∧ Hid (Wg V (fun k => M ≤ k) M (Ln ++ PK.encEs ((es.take k).map RE.ent))) ∧ Hid (Below w.heap.size w V)) (fun v _ => en - (intOf v).toNat)
      case atStart => exact ⟨0, Nat.zero_le _, rfl, Lib.hid (by simpa [PK.encEs] using X9.out), B4⟩
      case round =>
        obtain ⟨k, hk, rfl, X10, B5⟩ := hrel
        by_cases hlt : k < en
        · have hkl : k < es.length := by rw [HEL.out]; exact hlt
          obtain ⟨x, hx⟩ : ∃ x, es[k]? = some x := ⟨_, List.getElem?_eq_getElem hkl⟩
          obtain ⟨⟨b, o, rfl, c0, c1, c2, c3⟩, hf⟩ := (HES.out.below B5.out).at k x hx
          have henc := encEs_take hx
          have hle := encEs_take_le es (k + 1)
          rw [henc, List.length_append, bB_len_eq] at hle
          have hge := encE_ge x.ent
          have hrm := HR.out
          have hdl : x.d.length ≤ (PK.encE x.ent).length := hge
          have r1 : x.d.length + 200 ≤ roomB := by omega
          have r2 : (Ln ++ PK.encEs ((es.take k).map RE.ent)).length + (Lib.decDigits (PK.encE x.ent).length).length + 2 + (PK.encE x.ent).length ≤ roomB := by rw [List.length_append]; omega
          obtain ⟨Lk, hLk⟩ : ∃ L, L = Ln ++ PK.encEs ((es.take k).map RE.ent) := ⟨_, rfl⟩
          have hnext : Ln ++ PK.encEs ((es.take (k + 1)).map RE.ent) = Lk ++ PK.bB (PK.encE x.ent) := by rw [henc, hLk, List.append_assoc]
          rw [← hLk] at X10 r2
          obtain ⟨V1, hV1⟩ : ∃ V, V = wr.alloc (.cells #[.int .i64 x.i, .int .i64 x.t, .int .i64 x.k, .slice x.a x.n x.c] 57) := ⟨_, rfl⟩
          have hb1 : Below wr.heap.size wr V1 := by rw [hV1]; exact (Below.refl _ _).alloc (Nat.le_refl _) _
          have hB1 : Below w.heap.size w V1 := B5.out.trans (hb1.mono B5.out.size)
          have HEn := Lib.hid (encE_any x.ent x.a x.n x.c V1 (HE.out.below hB1) (hf.bytes.below hb1) r1)
          have Hnext := Lib.hid hnext
          have X11 := Lib.hid (X10.out.below hb1)
          have HB1 := Lib.hid hB1
          have Hb1 := Lib.hid hb1
          have R2 := Lib.hid r2
          have Xlt : Hid (∀ a' c', wr.heap[M]? = some (.cells #[.slice a' Lk.length c'] 118) → True) := fun _ _ _ => trivial
          generalize PK.encE x.ent = E at *
          simp only [RE.ent] at HEn
          generalize x.i = xi at *
          generalize x.t = xt at *
          generalize x.k = xk at *
          generalize x.a = xa at *
          generalize x.n = xn at *
          generalize x.c = xc at *
          clear hx hf henc hle hge hrm hdl r1 r2 hLk hnext hb1 hB1 hkl Xlt
          go_wp2_with fail
          rw [← hV1]
          clear hV1
          refine HEn.out.mono ?_
          rintro e V2 ⟨⟨a5, n5, c5, rfl, hn5, o5, ho5⟩, b5⟩
          have hgG : ∀ q, (M ≤ q ∧ ∀ b, Value.ownBlock (.slice a5 n5 c5) = some b → q ≠ b) → glob ≤ q := fun q hq => HgM.out q hq.1
          have Y2 : Wg V2 (fun q => M ≤ q ∧ ∀ b, Value.ownBlock (.slice a5 n5 c5) = some b → q ≠ b) M Lk :=
            ((X10.out.turn hgG (fun q h1 h2 => ⟨h2, fun b hb e => by have := ho5 b hb; have := Hb1.out.size; omega⟩)).below Hb1.out).below b5
          have B6 : Below w.heap.size w V2 := HB1.out.trans (b5.mono HB1.out.size)
          have HC := Lib.hid (wbytes_g _ M Lk a5 n5 c5 E V2 Y2 (fun q hq => ⟨by have := Y2.lt; omega, fun b hb e => by have := o5.lt b hb; omega⟩) hn5 o5.isB (fun _ b hb q => q.2 b hb rfl) R2.out (HE.out.below B6))
          have HB6 := Lib.hid B6
          clear hgG Y2 B6 o5 ho5 b5 HEn X10 X11 HB1 Hb1 hn5
          go_wp2_with fail
          refine HC.out.mono ?_
          rintro e V3 ⟨rfl, Y3, f3⟩
          have Y4 : Hid (Wg V3 (fun k => M ≤ k) M (Ln ++ PK.encEs ((es.take (k + 1)).map RE.ent))) := Lib.hid (by rw [Hnext.out, PK.bB, ← List.append_assoc]; exact Y3.turn HgM.out (fun q _ h => h.1))
          have B7 : Hid (Below w.heap.size w V3) := Lib.hid (HB6.out.trans ⟨f3.os, f3.tape, f3.output, f3.size, fun q hq => f3.block q (Nat.lt_of_lt_of_le hq HB6.out.size) (fun x => by have := SZ.out; have := x.1; omega)⟩)
          clear Y3 f3 HC HB6
          go_wp2
          exact ⟨⟨k + 1, hlt, by simp, Y4, B7⟩, by simp [intOf]; omega⟩
        · obtain rfl : k = en := by omega
          have X11 : Hid (Wg wr (fun k => M ≤ k) M (Ln ++ PK.encEs (es.map RE.ent))) := Lib.hid (by have := X10.out; rwa [List.take_of_length_le (by rw [HEL.out]; exact Nat.le_refl _)] at this)
          have HC := Lib.hid (wdone_g _ M _ wr X11.out (by rw [List.length_append]; have := HR.out; omega))
          obtain ⟨m, hm⟩ : ∃ m, (Ln ++ PK.encEs (es.map RE.ent)).length = m := ⟨_, rfl⟩
          rw [hm] at HC
          have Hm := Lib.hid hm
          clear X10 hm
          go_wp2_with fail
          refine HC.out.mono ?_
          rintro e V2 ⟨⟨a5, c5, rfl, o5, ho5⟩, b5⟩
          have RWr : Hid (RW w V2 (.returned (.slice a5 m c5)) (Ln ++ PK.encEs (es.map RE.ent))) := Lib.hid ⟨⟨a5, _, c5, rfl, Hm.out, o5, fun b hb => Nat.le_trans B5.out.size (ho5 b hb)⟩, B5.out.trans (b5.mono B5.out.size)⟩
          clear o5 ho5 b5 HC
          go_wp2
          go_ret
          exact RWr.out
end Go.Proofs.YtbgockggbpmhnaaGreatDoor
