/-
  The program's sums of a node, by a contract (by induction over what is left of the depth).
  Conditions: the tree's maps hold the lists' (TreeQ), which rise (RiseQ); no two nodes of a name, every way up ends, every use's node is there.
  The program's claim, limit and within, by contracts.
  Conditions: a full tree (FullQ); a node of it.
-/
import Derived.Test.YtkanjdijmdjbaaaGreatDoorG15
import Derived.Test.YtkanjdijmdjbaaaGreatDoorHoldsR
namespace Go.Proofs.YtkanjdijmdjbaaaGreatDoor
open Go Go.RowKit

/-- ALL THAT A TREE OUGHT TO BE. -/
structure FullQ (N : List QT.Nd) (U : List QT.Us) : Prop where
  rise : RiseQ N U
  uniq : QT.Uniq N
  root : QT.rooted N
  have_ : ∀ u ∈ U, ∃ n ∈ N, n.nm = u.nd
def QT.kidsN (N : List QT.Nd) (s : QT.Str) : List QT.Nd := N.filter fun c => c.pr == s
theorem QT.kidsN_mem {N : List QT.Nd} {s : QT.Str} {c : QT.Nd} (h : c ∈ QT.kidsN N s) : c ∈ N ∧ c.pr = s := by
  obtain ⟨h1, h2⟩ := List.mem_filter.1 h
  exact ⟨h1, by simpa using h2⟩
theorem FullQ.tot {N : List QT.Nd} {U : List QT.Us} (h : FullQ N U) (f : QT.Nd → Nat) {t : QT.Nd} (ht : t ∈ N) : QT.Total N f t.nm = f t + QT.S (QT.kidsN N t.nm) (fun c => QT.Total N f c.nm) := by
  rw [← QT.tot_eq h.uniq h.root f (N.length + 2) t ht (by omega), QT.ts]
  congr 1
  · unfold QT.own; rw [QT.find_of h.uniq ht]
  · refine QT.S_congr fun c hc => ?_
    exact QT.tot_eq h.uniq h.root f (N.length + 1) c (QT.kidsN_mem hc).1 (by omega)
theorem FullQ.used {N : List QT.Nd} {U : List QT.Us} (h : FullQ N U) (g : QT.Us → Nat) {t : QT.Nd} (ht : t ∈ N) : QT.Used N U g t.nm = QT.here U g t.nm + QT.S (QT.kidsN N t.nm) (fun c => QT.Used N U g c.nm) := by
  rw [← QT.used_eq h.uniq h.root U h.have_ g (N.length + 2) t ht (by omega), QT.ts]
  congr 1
  refine QT.S_congr fun c hc => ?_
  exact QT.used_eq h.uniq h.root U h.have_ g (N.length + 1) c (QT.kidsN_mem hc).1 (by omega)
theorem QT.S_take_succ {α : Type} {L : List α} {j : Nat} {x : α} (h : L[j]? = some x) (F : α → Nat) : QT.S (L.take (j + 1)) F = QT.S (L.take j) F + F x := by
  rw [List.take_add_one, h]
  unfold QT.S
  simp
theorem QT.S_take_le {α : Type} (F : α → Nat) : ∀ (L : List α) (j : Nat), QT.S (L.take j) F ≤ QT.S L F
  | [], j => by simp
  | x :: r, 0 => by rw [List.take_zero, QT.S_nil]; exact Nat.zero_le _
  | x :: r, j + 1 => by
    have := QT.S_take_le F r j
    rw [List.take_succ_cons, QT.S_cons, QT.S_cons]
    omega
theorem OwnS.at {w : World} {base : Nat} {v : Value} {L : List QT.Str} (h : OwnS w base v L) : ∃ a c, v = .slice a L.length c ∧ ∀ j s, L[j]? = some s → ∃ g, a = some ⟨g, 0, none⟩ ∧ w.cell? ⟨g, j, none⟩ = some (.string (str s)) := by
  rcases h with ⟨rfl, rfl⟩ | ⟨g, cap, rfl, _, _, _, hc⟩
  · exact ⟨none, 0, rfl, fun j s hs => by simp at hs⟩
  · exact ⟨_, _, rfl, fun j s hs => ⟨g, rfl, (hc j s hs).1⟩⟩
set_option maxRecDepth 100000 in
set_option maxHeartbeats 8000000 in
/-- sums. -/
theorem sums_any (N : List QT.Nd) (U : List QT.Us) (hF : FullQ N U) (T bn bu n m : Nat) : ∀ (k : Nat) (t : QT.Nd) (w : World), t ∈ N → N.length + 1 ≤ k + QT.dd N t.nm → TreeQ w T bn bu n m N U →
    Calls Tryz.prog 96 #[.pointer (some ⟨T, 0, none⟩), .string (str t.nm)] w fun e w' =>
      e = .returned (.tuple #[.complex .f64 (FL.fB (QT.Total N QT.Nd.o1 t.nm)) (FL.fB (QT.Total N QT.Nd.o2 t.nm)), .complex .f64 (FL.fB (QT.Used N U QT.Us.a1 t.nm)) (FL.fB (QT.Used N U QT.Us.a2 t.nm))]) ∧ Below w.heap.size w w' := by
  intro k
  induction k with
  | zero => intro t w ht hk; have := QT.dd_le (N := N) t.nm; omega
  | succ k ih =>
    intro t w ht hk hT
    have hG := hF.rise.good
    have IH := Lib.hid (fun (c : QT.Nd) (V : World) (hc : c ∈ QT.kidsN N t.nm) (b : Below w.heap.size w V) => ih c V (QT.kidsN_mem hc).1 (by rw [QT.dd_step hF.uniq hF.root (QT.kidsN_mem hc).1, (QT.kidsN_mem hc).2]; omega) (hT.below b))
    have HH := Lib.hid (fun (V : World) (b : Below w.heap.size w V) => here_any T bn bu n m N U t.nm V (hT.below b) hG)
    have HC := Lib.hid (fun (V : World) (b : Below w.heap.size w V) => children_any T bn bu n m N U t.nm V (hT.below b) hF.rise)
    have HTb := Lib.hid (fun (V : World) (b : Below w.heap.size w V) => hT.below b)
    obtain ⟨C, hC⟩ : ∃ C, C = QT.kidsN N t.nm := ⟨_, rfl⟩
    have e1 := hF.tot QT.Nd.o1 ht
    have e2 := hF.tot QT.Nd.o2 ht
    have e3 := hF.used QT.Us.a1 ht
    have e4 := hF.used QT.Us.a2 ht
    have b1 := QT.total_bound N QT.Nd.o1 t.nm (B := 1099511627776) (fun y hy => (hF.rise.fN y hy).2.1)
    have b2 := QT.total_bound N QT.Nd.o2 t.nm (B := 1099511627776) (fun y hy => (hF.rise.fN y hy).2.2.1)
    have b3 := QT.used_bound N U QT.Us.a1 t.nm (B := 1099511627776) (fun y hy => (hF.rise.fU y hy).2.1)
    have b4 := QT.used_bound N U QT.Us.a2 t.nm (B := 1099511627776) (fun y hy => (hF.rise.fU y hy).2.2)
    have lN := Nat.mul_le_mul_right 1099511627776 hF.rise.lN
    have lU := Nat.mul_le_mul_right 1099511627776 hF.rise.lU
    obtain ⟨P1, hP1⟩ : ∃ P : Nat → Nat, P = fun j => t.o1 + QT.S (C.take j) (fun c => QT.Total N QT.Nd.o1 c.nm) := ⟨_, rfl⟩
    obtain ⟨P2, hP2⟩ : ∃ P : Nat → Nat, P = fun j => t.o2 + QT.S (C.take j) (fun c => QT.Total N QT.Nd.o2 c.nm) := ⟨_, rfl⟩
    obtain ⟨P3, hP3⟩ : ∃ P : Nat → Nat, P = fun j => QT.here U QT.Us.a1 t.nm + QT.S (C.take j) (fun c => QT.Used N U QT.Us.a1 c.nm) := ⟨_, rfl⟩
    obtain ⟨P4, hP4⟩ : ∃ P : Nat → Nat, P = fun j => QT.here U QT.Us.a2 t.nm + QT.S (C.take j) (fun c => QT.Used N U QT.Us.a2 c.nm) := ⟨_, rfl⟩
    have HB : Hid (∀ j, P1 j ≤ 1125899906842624 ∧ P2 j ≤ 1125899906842624 ∧ P3 j ≤ 1125899906842624 ∧ P4 j ≤ 1125899906842624) := Lib.hid (fun j => by
      have s1 := QT.S_take_le (fun c => QT.Total N QT.Nd.o1 c.nm) C j
      have s2 := QT.S_take_le (fun c => QT.Total N QT.Nd.o2 c.nm) C j
      have s3 := QT.S_take_le (fun c => QT.Used N U QT.Us.a1 c.nm) C j
      have s4 := QT.S_take_le (fun c => QT.Used N U QT.Us.a2 c.nm) C j
      rw [hP1, hP2, hP3, hP4]
      rw [← hC] at e1 e2 e3 e4
      simp only
      omega)
    have HS : Hid (∀ j c, C[j]? = some c → P1 (j + 1) = P1 j + QT.Total N QT.Nd.o1 c.nm ∧ P2 (j + 1) = P2 j + QT.Total N QT.Nd.o2 c.nm ∧ P3 (j + 1) = P3 j + QT.Used N U QT.Us.a1 c.nm ∧ P4 (j + 1) = P4 j + QT.Used N U QT.Us.a2 c.nm) := Lib.hid (fun j c h => by
      rw [hP1, hP2, hP3, hP4]
      simp only
      rw [QT.S_take_succ h, QT.S_take_succ h, QT.S_take_succ h, QT.S_take_succ h]
      omega)
    have HE : Hid (P1 C.length = QT.Total N QT.Nd.o1 t.nm ∧ P2 C.length = QT.Total N QT.Nd.o2 t.nm ∧ P3 C.length = QT.Used N U QT.Us.a1 t.nm ∧ P4 C.length = QT.Used N U QT.Us.a2 t.nm) := Lib.hid (by
      rw [hP1, hP2, hP3, hP4, e1, e2, e3, e4, ← hC]
      simp only [List.take_length, and_self])
    have HZ : Hid (P1 0 = t.o1 ∧ P2 0 = t.o2 ∧ P3 0 = QT.here U QT.Us.a1 t.nm ∧ P4 0 = QT.here U QT.Us.a2 t.nm) := Lib.hid (by
      rw [hP1, hP2, hP3, hP4]
      simp [QT.S])
    have hlen : QT.kids N t.nm = C.map QT.Nd.nm := by rw [hC]; rfl
    rw [hlen] at HC
    have hCl : C.length ≤ 256 := by rw [hC]; exact Nat.le_trans (List.length_filter_le _ _) hF.rise.lN
    have hCi : (C.length : Int) ≤ 281474976710656 := by omega
    have HCm : Hid (∀ j c, C[j]? = some c → c ∈ QT.kidsN N t.nm) := Lib.hid (fun j c h => by rw [← hC]; exact List.mem_of_getElem? h)
    have fx := hG.fnd ht
    have cont : Hid (∀ V, Below w.heap.size w V → (Hid (Below w.heap.size w V) ∧ V.cell? ⟨T, 0, none⟩ = some (.map (some bn)) ∧ (Instr.lookup 118 (.map (some bn)) (.string (str t.nm)) false).run Tryz.prog V = .ok (.agg #[.string (str t.nm), .string (str t.pr), .complex .f64 (FL.fB t.o1) (FL.fB t.o2), .complex .f64 (FL.fB t.b1) (FL.fB t.b2), .complex .f64 (FL.fB t.l1) (FL.fB t.l2)]) V)) := Lib.hid (fun V b => by
      obtain ⟨t0, _⟩ := cells2 (hT.below b).tb
      have hl := (hT.below b).mN.at0 t.nm (by have := (hF.rise.fN t ht).1.1; omega)
      rw [show QT.at0 N t.nm = t from by unfold QT.at0; rw [fx]; rfl, vNd] at hl
      exact ⟨Lib.hid b, t0, hl⟩)
    have S0 := cont.out w.drew (Below.refl _ _).drew
    have C1 : Hid (∀ V, (Hid (Below w.heap.size w V) ∧ V.cell? ⟨T, 0, none⟩ = some (.map (some bn)) ∧ (Instr.lookup 118 (.map (some bn)) (.string (str t.nm)) false).run Tryz.prog V = .ok (.agg #[.string (str t.nm), .string (str t.pr), .complex .f64 (FL.fB t.o1) (FL.fB t.o2), .complex .f64 (FL.fB t.b1) (FL.fB t.b2), .complex .f64 (FL.fB t.l1) (FL.fB t.l2)]) V) → Calls Tryz.prog 138 #[.pointer (some ⟨T, 0, none⟩), .string (str t.nm)] V fun e w' => e = .returned (.complex .f64 (FL.fB (QT.here U QT.Us.a1 t.nm)) (FL.fB (QT.here U QT.Us.a2 t.nm))) ∧ (Hid (Below w.heap.size w w') ∧ w'.cell? ⟨T, 0, none⟩ = some (.map (some bn)) ∧ (Instr.lookup 118 (.map (some bn)) (.string (str t.nm)) false).run Tryz.prog w' = .ok (.agg #[.string (str t.nm), .string (str t.pr), .complex .f64 (FL.fB t.o1) (FL.fB t.o2), .complex .f64 (FL.fB t.b1) (FL.fB t.b2), .complex .f64 (FL.fB t.l1) (FL.fB t.l2)]) w')) := Lib.hid (fun V h => (HH.out V h.1.out).mono fun e w' ⟨q1, q2⟩ => ⟨q1, cont.out w' (h.1.out.trans (q2.mono h.1.out.size))⟩)
    have hf2 := fldN2 t
    clear hG HH e1 e2 e3 e4 b1 b2 b3 b4 lN lU hP1 hP2 hP3 hP4 hlen hCl fx hC hT hF ih hk ht cont
    go_enter Tryz.func96, Tryz.ntmps96
    go_wp2_with fail
    refine wp_region_noPanic ?_
    refine wp_region_held_drew (S := fun V => (Hid (Below w.heap.size w V) ∧ V.cell? ⟨T, 0, none⟩ = some (.map (some bn)) ∧ (Instr.lookup 118 (.map (some bn)) (.string (str t.nm)) false).run Tryz.prog V = .ok (.agg #[.string (str t.nm), .string (str t.pr), .complex .f64 (FL.fB t.o1) (FL.fB t.o2), .complex .f64 (FL.fB t.b1) (FL.fB t.b2), .complex .f64 (FL.fB t.l1) (FL.fB t.l2)]) V)) (by kernel_rfl) S0 (fun hHeld => ?_)
    refine rTk 0 ?_; try simp only [Act.put, rP1, rP2, rP3]
    refine rTk 1 ?_; try simp only [Act.put, rP1, rP2, rP3]
    refine rTk 2 ?_; try simp only [Act.put, rP1, rP2, rP3]
    refine rTk 3 ?_; try simp only [Act.put, rP1, rP2, rP3]
    refine rTk 4 ?_; try simp only [Act.put, rP1, rP2, rP3]
    refine rTk 5 ?_; try simp only [Act.put, rP1, rP2, rP3]
    refine rTk 6 ?_; try simp only [Act.put, rP1, rP2, rP3]
    refine rTk 7 ?_; try simp only [Act.put, rP1, rP2, rP3]
    refine rTk 8 ?_; try simp only [Act.put, rP1, rP2, rP3]
    refine rBr 9 fun K hK => ?_
    go_simp
    go_at_call 138
    refine (C1.out _ ?_).mono ?_
    assumption
    rintro e v1 ⟨rfl, k1⟩
    clear C1
    try (go_wp2_with fail)
    refine hK.out _ _ (by (try dsimp only); assumption) (fun hHeld => ?_)
    clear hK K
    try simp only [Act.put, rP1, rP2, rP3]
    refine rTk 10 ?_; try simp only [Act.put, rP1, rP2, rP3]
    refine rTk 11 ?_; try simp only [Act.put, rP1, rP2, rP3]
    refine wpAnyH_done (by kernel_rfl) ?_ _
    refine NoPanic.normal ?_
    have HC1 := Lib.hid (HC.out v1 k1.1.out)
    have B1 := k1.1
    clear k1 S0 hHeld HC hf2
    go_wp2_with fail
    refine HC1.out.mono ?_
    rintro e v2 ⟨v, rfl, hO, b2⟩
    obtain ⟨a, c, rfl, hat⟩ := hO.at
    rw [List.length_map]
    have B2 := Lib.hid (B1.out.trans (b2.mono B1.out.size))
    have HA := Lib.hid hat
    clear hO b2 HC1 B1 hat
    go_wp2_with fail
    obtain ⟨z1, z2, z3, z4⟩ := HZ.out
    have a1 : FL.fB t.o1 = FL.fI (P1 0 : Nat) := by rw [z1]; rfl
    have a2 : FL.fB t.o2 = FL.fI (P2 0 : Nat) := by rw [z2]; rfl
    have a3 : FL.fB (QT.here U QT.Us.a1 t.nm) = FL.fI (P3 0 : Nat) := by rw [z3]; rfl
    have a4 : FL.fB (QT.here U QT.Us.a2 t.nm) = FL.fI (P4 0 : Nat) := by rw [z4]; rfl
    have Z1 := Lib.hid a1
    have Z2 := Lib.hid a2
    have Z3 := Lib.hid a3
    have Z4 := Lib.hid a4
    clear z1 z2 z3 z4 a1 a2 a3 a4 HZ
    go_loopw [4, 5, 24] (fun v4 v5 v24 V => ∃ j : Nat, j ≤ C.length ∧ v24 = .int .i64 j ∧ v4 = .complex .f64 (FL.fI (P1 j : Nat)) (FL.fI (P2 j : Nat)) ∧ v5 = .complex .f64 (FL.fI (P3 j : Nat)) (FL.fI (P4 j : Nat)) ∧ Hid (Below w.heap.size w V) ∧ Hid (Below v2.heap.size v2 V)) (fun _ _ v _ => C.length - (intOf v).toNat)
    case atStart => exact ⟨0, Nat.zero_le _, rfl, by rw [Z1.out, Z2.out], by rw [Z3.out, Z4.out], B2, Lib.hid (Below.refl _ _)⟩
    case round =>
      obtain ⟨j, hj, rfl, rfl, rfl, Bj, Vj⟩ := hrel
      clear Z1 Z2 Z3 Z4 B2
      by_cases hlt : j < C.length
      · have h1 : (j : Int) < (C.length : Int) := by omega
        obtain ⟨x, hx⟩ : ∃ x, C[j]? = some x := ⟨_, List.getElem?_eq_getElem hlt⟩
        obtain ⟨g, ea, hc⟩ := HA.out j x.nm (by rw [List.getElem?_map, hx]; rfl)
        subst ea
        have hc2 := (World.cell?_of_block (a := ⟨g, j, none⟩) (Vj.out.block g (World.block_lt_of_cell? _ _ hc))).trans hc
        have HI := Lib.hid (IH.out x wr (HCm.out j x hx) Bj.out)
        obtain ⟨s1, s2, s3, s4⟩ := HS.out j x hx
        obtain ⟨b1, b2, b3, b4⟩ := HB.out j
        obtain ⟨d1, d2, d3, d4⟩ := HB.out (j + 1)
        have A1 : ∀ V : World, (binOp .add 43 (.complex .f64 (FL.fI (P1 j : Nat)) (FL.fI (P2 j : Nat))) (.complex .f64 (FL.fB (QT.Total N QT.Nd.o1 x.nm)) (FL.fB (QT.Total N QT.Nd.o2 x.nm)))).run Tryz.prog V = .ok (.complex .f64 (FL.fI (P1 (j + 1) : Nat)) (FL.fI (P2 (j + 1) : Nat))) V := fun V => by
          rw [s1, s2, Int.natCast_add, Int.natCast_add]
          refine run_cadd _ _ _ (QT.Total N QT.Nd.o1 x.nm : Int) (QT.Total N QT.Nd.o2 x.nm : Int) V ?_ ?_ ?_ ?_ ?_ ?_ <;> unfold W53 <;> omega
        have A2 : ∀ V : World, (binOp .add 43 (.complex .f64 (FL.fI (P3 j : Nat)) (FL.fI (P4 j : Nat))) (.complex .f64 (FL.fB (QT.Used N U QT.Us.a1 x.nm)) (FL.fB (QT.Used N U QT.Us.a2 x.nm)))).run Tryz.prog V = .ok (.complex .f64 (FL.fI (P3 (j + 1) : Nat)) (FL.fI (P4 (j + 1) : Nat))) V := fun V => by
          rw [s3, s4, Int.natCast_add, Int.natCast_add]
          refine run_cadd _ _ _ (QT.Used N U QT.Us.a1 x.nm : Int) (QT.Used N U QT.Us.a2 x.nm : Int) V ?_ ?_ ?_ ?_ ?_ ?_ <;> unfold W53 <;> omega
        clear s1 s2 s3 s4 b1 b2 b3 b4 d1 d2 d3 d4 hx hc
        generalize QT.Total N QT.Nd.o1 x.nm = X1 at *
        generalize QT.Total N QT.Nd.o2 x.nm = X2 at *
        generalize QT.Used N U QT.Us.a1 x.nm = X3 at *
        generalize QT.Used N U QT.Us.a2 x.nm = X4 at *
        go_wp2_with fail
        refine HI.out.mono ?_
        rintro e w5 ⟨rfl, b5⟩
        have B5 := Lib.hid (Bj.out.trans (b5.mono Bj.out.size))
        have V5 := Lib.hid (Vj.out.trans (b5.mono Vj.out.size))
        clear b5 HI
        go_wp2
        exact ⟨⟨j + 1, hlt, by simp, rfl, rfl, B5, V5⟩, by simp [intOf]; omega⟩
      · obtain rfl : j = C.length := by omega
        obtain ⟨r1, r2, r3, r4⟩ := HE.out
        have R := Lib.hid (And.intro r1 (And.intro r2 (And.intro r3 r4)))
        clear r1 r2 r3 r4
        go_wp2
        go_ret2
        exact ⟨by rw [← R.out.1, ← R.out.2.1, ← R.out.2.2.1, ← R.out.2.2.2]; rfl, Bj.out⟩
set_option maxRecDepth 100000 in
set_option maxHeartbeats 8000000 in
/-- claim. -/
theorem claim_any (N : List QT.Nd) (U : List QT.Us) (hF : FullQ N U) (T bn bu n m : Nat) (t : QT.Nd) (w : World) (ht : t ∈ N) (hT : TreeQ w T bn bu n m N U) :
    Calls Tryz.prog 140 #[.pointer (some ⟨T, 0, none⟩), .string (str t.nm)] w fun e w' => e = .returned (.complex .f64 (FL.fI (QT.claim1 N U t)) (FL.fI (QT.claim2 N U t))) ∧ Below w.heap.size w w' := by
  have HS := Lib.hid (sums_any N U hF T bn bu n m (N.length + 1) t w ht (by omega) hT)
  have HTb := Lib.hid (fun (V : World) (b : Below w.heap.size w V) => hT.below b)
  have hl := Lib.hid (fun (V : World) (b : Below w.heap.size w V) => (hT.below b).mN.at0 t.nm (by have := (hF.rise.fN t ht).1.1; omega))
  have fx := hF.rise.good.fnd ht
  rw [show QT.at0 N t.nm = t from by unfold QT.at0; rw [fx]; rfl, vNd] at hl
  have b1 := QT.total_bound N QT.Nd.o1 t.nm (B := 1099511627776) (fun y hy => (hF.rise.fN y hy).2.1)
  have b2 := QT.total_bound N QT.Nd.o2 t.nm (B := 1099511627776) (fun y hy => (hF.rise.fN y hy).2.2.1)
  have b3 := QT.used_bound N U QT.Us.a1 t.nm (B := 1099511627776) (fun y hy => (hF.rise.fU y hy).2.1)
  have b4 := QT.used_bound N U QT.Us.a2 t.nm (B := 1099511627776) (fun y hy => (hF.rise.fU y hy).2.2)
  have lN := Nat.mul_le_mul_right 1099511627776 hF.rise.lN
  have lU := Nat.mul_le_mul_right 1099511627776 hF.rise.lU
  have hfl := (hF.rise.fN t ht).2.2.2.2.2
  simp only [QT.cap] at hfl
  have hf4 := fldN4 t
  unfold QT.claim1 QT.claim2
  clear hF ht hT fx
  generalize QT.Total N QT.Nd.o1 t.nm = T1 at *
  generalize QT.Total N QT.Nd.o2 t.nm = T2 at *
  generalize QT.Used N U QT.Us.a1 t.nm = U1 at *
  generalize QT.Used N U QT.Us.a2 t.nm = U2 at *
  have A1 : ∀ V : World, (binOp .sub 43 (.complex .f64 (FL.fB T1) (FL.fB T2)) (.complex .f64 (FL.fB t.l1) (FL.fB t.l2))).run Tryz.prog V = .ok (.complex .f64 (FL.fI ((T1 : Int) - (t.l1 : Int))) (FL.fI ((T2 : Int) - (t.l2 : Int)))) V := fun V => run_csub _ (T1 : Int) (T2 : Int) (t.l1 : Int) (t.l2 : Int) V (by unfold W53; omega) (by unfold W53; omega) (by unfold W53; omega) (by unfold W53; omega) (by unfold W53; omega) (by unfold W53; omega)
  have M1 : ∀ (V : World) ts ty, (Builtin.max_ ts ty #[.float .f64 (FL.fB U1), .float .f64 (FL.fI ((T1 : Int) - (t.l1 : Int)))]).run Tryz.prog V = .ok (.float .f64 (FL.fI (max (U1 : Int) ((T1 : Int) - (t.l1 : Int))))) V := fun V ts ty => run_fmax ts ty (U1 : Int) _ V (by unfold W53; omega) (by unfold W53; omega)
  have M2 : ∀ (V : World) ts ty, (Builtin.max_ ts ty #[.float .f64 (FL.fB U2), .float .f64 (FL.fI ((T2 : Int) - (t.l2 : Int)))]).run Tryz.prog V = .ok (.float .f64 (FL.fI (max (U2 : Int) ((T2 : Int) - (t.l2 : Int))))) V := fun V ts ty => run_fmax ts ty (U2 : Int) _ V (by unfold W53; omega) (by unfold W53; omega)
  clear b1 b2 b3 b4 lN lU hfl
  generalize ((T1 : Int) - (t.l1 : Int)) = D1 at *
  generalize ((T2 : Int) - (t.l2 : Int)) = D2 at *
  generalize max (U1 : Int) D1 = R1 at *
  generalize max (U2 : Int) D2 = R2 at *
  go_enter Tryz.func140, Tryz.ntmps140
  go_wp2_with fail
  refine HS.out.mono ?_
  rintro e w1 ⟨rfl, b1⟩
  have B1 := Lib.hid b1
  obtain ⟨t0, _⟩ := cells2 (HTb.out w1 b1).tb
  have hl1 := hl.out w1 b1
  clear b1 HS HTb hl
  go_wp2
  go_ret
  exact ⟨rfl, B1.out⟩
set_option maxRecDepth 100000 in
set_option maxHeartbeats 8000000 in
/-- limit. -/
theorem limit_any (N : List QT.Nd) (U : List QT.Us) (hF : FullQ N U) (T bn bu n m : Nat) (t : QT.Nd) (w : World) (ht : t ∈ N) (hT : TreeQ w T bn bu n m N U) :
    Calls Tryz.prog 100 #[.pointer (some ⟨T, 0, none⟩), .string (str t.nm)] w fun e w' => e = .returned (.complex .f64 (FL.fI (QT.limit1 N t)) (FL.fI (QT.limit2 N t))) ∧ Below w.heap.size w w' := by
  have hstc := @run_store_complex Tryz.prog
  obtain ⟨W, hW⟩ : ∃ W, W = w.alloc (.cells #[.string (str t.nm), .string (str t.pr), .complex .f64 (FL.fB t.o1) (FL.fB t.o2), .complex .f64 (FL.fB t.b1) (FL.fB t.b2), .complex .f64 (FL.fB t.l1) (FL.fB t.l2)] 50) := ⟨_, rfl⟩
  have bW : Below w.heap.size w W := by rw [hW]; exact (Below.refl _ _).alloc (Nat.le_refl _) _
  have gW : W.heap[w.heap.size]? = some (.cells #[.string (str t.nm), .string (str t.pr), .complex .f64 (FL.fB t.o1) (FL.fB t.o2), .complex .f64 (FL.fB t.b1) (FL.fB t.b2), .complex .f64 (FL.fB t.l1) (FL.fB t.l2)] 50) := by rw [hW]; exact heap_alloc_new _ _
  have HS := Lib.hid (sums_any N U hF T bn bu n m (N.length + 1) t W ht (by omega) (hT.below bW))
  obtain ⟨t0, _⟩ := cells2 hT.tb
  have hl := hT.mN.at0 t.nm (by have := (hF.rise.fN t ht).1.1; omega)
  have fx := hF.rise.good.fnd ht
  rw [show QT.at0 N t.nm = t from by unfold QT.at0; rw [fx]; rfl, vNd] at hl
  have b1 := QT.total_bound N QT.Nd.o1 t.nm (B := 1099511627776) (fun y hy => (hF.rise.fN y hy).2.1)
  have b2 := QT.total_bound N QT.Nd.o2 t.nm (B := 1099511627776) (fun y hy => (hF.rise.fN y hy).2.2.1)
  have lN := Nat.mul_le_mul_right 1099511627776 hF.rise.lN
  have hfl := (hF.rise.fN t ht).2.2.2
  simp only [QT.cap] at hfl
  have GW := Lib.hid gW
  have BW := Lib.hid bW
  unfold QT.limit1 QT.limit2
  clear hF ht hT fx bW gW
  generalize QT.Total N QT.Nd.o1 t.nm = T1 at *
  generalize QT.Total N QT.Nd.o2 t.nm = T2 at *
  generalize QT.Used N U QT.Us.a1 t.nm = U1 at *
  generalize QT.Used N U QT.Us.a2 t.nm = U2 at *
  by_cases hpr : t.pr = []
  · have ht : (str t.pr).toList.isEmpty = true := by rw [str_toList, hpr]; rfl
    rw [if_pos hpr, if_pos hpr, Int.add_zero, Int.add_zero]
    clear hpr b1 b2 lN hfl
    go_enter Tryz.func100, Tryz.ntmps100
    go_wp2_with fail
    rw [← hW]
    refine HS.out.mono ?_
    rintro e w1 ⟨rfl, b1⟩
    have B1 := Lib.hid (BW.out.trans (b1.mono BW.out.size))
    obtain ⟨z0, z1, z2, z3, z4⟩ := cells5 ((b1.block _ (Array.getElem?_eq_some_iff.1 GW.out).1).trans GW.out)
    clear b1 HS BW GW t0 hl hW
    go_wp2
    go_ret
    exact ⟨rfl, B1.out⟩
  · have ht : (str t.pr).toList.isEmpty = false := by rw [str_toList]; simpa using hpr
    rw [if_neg hpr, if_neg hpr]
    have A1 : ∀ V : World, (binOp .add 43 (.complex .f64 (FL.fB T1) (FL.fB T2)) (.complex .f64 (FL.fB t.b1) (FL.fB t.b2))).run Tryz.prog V = .ok (.complex .f64 (FL.fI ((T1 : Int) + (t.b1 : Int))) (FL.fI ((T2 : Int) + (t.b2 : Int)))) V := fun V => run_cadd _ (T1 : Int) (T2 : Int) (t.b1 : Int) (t.b2 : Int) V (by unfold W53; omega) (by unfold W53; omega) (by unfold W53; omega) (by unfold W53; omega) (by unfold W53; omega) (by unfold W53; omega)
    clear hpr b1 b2 lN hfl
    go_enter Tryz.func100, Tryz.ntmps100
    go_wp2_with fail
    rw [← hW]
    refine HS.out.mono ?_
    rintro e w1 ⟨rfl, b1⟩
    have B1 := Lib.hid (BW.out.trans (b1.mono BW.out.size))
    obtain ⟨z0, z1, z2, z3, z4⟩ := cells5 ((b1.block _ (Array.getElem?_eq_some_iff.1 GW.out).1).trans GW.out)
    clear b1 HS BW GW t0 hl hW
    go_wp2
    go_ret
    exact ⟨rfl, B1.out⟩
set_option maxHeartbeats 2000000 in
/-- within. -/
theorem within_any (a b c d : Int) (w : World) (ha : W53 a) (hb : W53 b) (hc : W53 c) (hd : W53 d) :
    Calls Tryz.prog 98 #[.complex .f64 (FL.fI a) (FL.fI b), .complex .f64 (FL.fI c) (FL.fI d)] w fun e w' => e = .returned (.bool (decide (a ≤ c) && decide (b ≤ d))) ∧ w = w' := by
  have g1 := ford_le a c ha hc
  have g2 := ford_le b d hb hd
  clear ha hb hc hd
  by_cases h1 : a ≤ c
  · rw [decide_eq_true h1] at g1 ⊢
    obtain ⟨q, hq⟩ : ∃ q, q = decide (b ≤ d) := ⟨_, rfl⟩
    rw [← hq] at g2 ⊢
    clear h1 hq
    go_enter Tryz.func98, Tryz.ntmps98
    go_wp2
    go_ret
    exact ⟨rfl, rfl⟩
  · rw [decide_eq_false h1] at g1 ⊢
    clear h1 g2
    go_enter Tryz.func98, Tryz.ntmps98
    go_wp2
    go_ret
    exact ⟨rfl, rfl⟩
end Go.Proofs.YtkanjdijmdjbaaaGreatDoor
