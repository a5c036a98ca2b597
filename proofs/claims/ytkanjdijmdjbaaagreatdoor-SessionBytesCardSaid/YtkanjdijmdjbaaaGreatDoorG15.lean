/-
  slices.Sorted(maps.Keys(m)) of the program's maps, by the shelf's contracts; over lists.
  Conditions: the map holds the list's entries (MapD); their keys rise.
  The program's Nodes and children, by contracts.
  Conditions: the tree's maps hold the lists' (TreeQ), which rise (RiseQ).
  The program's children, by a contract.
-/
import Derived.Test.YtkanjdijmdjbaaaGreatDoorIterL
import Derived.Test.YtkanjdijmdjbaaaGreatDoorG7
import Derived.Test.YtkanjdijmdjbaaaGreatDoorG6
import Derived.Shelf.SlicesE.DeleteFunc
import Derived.Deep.RegionHeld3
namespace Go.Proofs.YtkanjdijmdjbaaaGreatDoor
open Go Go.RowKit Go.Maps Go.Sort Go.Shelf

theorem sorts66 (m : Nat) : AnyZ.SortsIn Tryz.prog Tryz.laySo_ren Fence.wide m :=
  ⟨fun blk off cap ss W hH hblk hsz => callsIn_wide.2 (AnyM.slices_Sort_string Tryz.laySt blk off cap ss W hH hblk hsz),
   fun p cap W => callsIn_wide.2 (AnyM.slices_Sort_string_none Tryz.laySt p cap W)⟩
theorem keysN (mb : Option Nat) (W : World) : Calls Tryz.prog 46 #[.map mb] W fun e w' => e = .returned (.func (.func 94) #[] #[.pointer (some ⟨W.heap.size, 0, none⟩)]) ∧ w' = W.alloc (.cells #[.map mb] 118) :=
  callsIn_wide.1 (AnyZ.keys_in Tryz.layKN Fence.wide 5 trivial rfl mb W)
theorem keysU (mb : Option Nat) (W : World) : Calls Tryz.prog 118 #[.map mb] W fun e w' => e = .returned (.func (.func 148) #[] #[.pointer (some ⟨W.heap.size, 0, none⟩)]) ∧ w' = W.alloc (.cells #[.map mb] 119) :=
  callsIn_wide.1 (AnyZ.keys_in Tryz.layKU Fence.wide 5 trivial rfl mb W)
set_option maxHeartbeats 1000000 in
theorem sortedN {H : Type} (b nn : Nat) (D0 : DataW H) (R : Value → Option (DataW H × List MemPlace)) (w : World) (hown : w.ownsMap Tryz.prog 9 R b nn D0) (hmax : Maps.size D0 ≤ maxLen) (hbytes : Maps.size D0 * 16 ≤ 140737488355328) :
    Calls Tryz.prog 45 #[.func (.func 94) #[] #[.pointer (some ⟨w.heap.size, 0, none⟩)]] (w.alloc (.cells #[.map (some b)] 118)) fun e w' => ∃ (v : Value) (ss : List (List UInt8)), e = .returned v ∧ ss.Perm (strKeys D0) ∧
      w'.ownsRow (w.alloc (.cells #[.map (some b)] 118)).heap.size 9 1 v ss.length ((ss.mergeSort (fun x y => decide (x ≤ y))).map encStr) ∧ (v = .slice none 0 0 ↔ ss = []) ∧ Below (w.alloc (.cells #[.map (some b)] 118)).heap.size (w.alloc (.cells #[.map (some b)] 118)) w' := by
  have hbl := hown.lt
  have hseq : SeqGives Fence.wide 2 Tryz.prog 94 #[.pointer (some ⟨w.heap.size, 0, none⟩)] encStr (fun ss => ss.Perm (strKeys D0)) (Maps.size D0) (w.alloc (.cells #[.map (some b)] 118)) :=
    AnyZ.keys_gives (ρ := Tryz.layKN_ren) { Tryz.layKN with } Fence.wide _ trivial rfl (by omega) w.heap.size b nn D0 _ (by simp) (by simp) (by
      obtain ⟨es, clock, hb, Ft, hs, hD⟩ := hown
      exact ⟨es, clock, (Below.heap_alloc _ _ b hbl).trans hb, Ft, hs, hD⟩)
  exact callsIn_wide.1 (AnyZ.sorted_in Tryz.laySo Fence.wide 5 trivial trivial trivial trivial rfl (by omega) (sorts66 _) (enters_of Tryz.func93 (by kernel_rfl) rfl) 94 #[.pointer (some ⟨w.heap.size, 0, none⟩)] trivial (enters_of Tryz.func94 (by kernel_rfl) rfl) _ _ hmax hbytes _ hseq)
set_option maxHeartbeats 1000000 in
theorem sortedU {H : Type} (b nn : Nat) (D0 : DataW H) (R : Value → Option (DataW H × List MemPlace)) (w : World) (hown : w.ownsMap Tryz.prog 9 R b nn D0) (hmax : Maps.size D0 ≤ maxLen) (hbytes : Maps.size D0 * 16 ≤ 140737488355328) :
    Calls Tryz.prog 45 #[.func (.func 148) #[] #[.pointer (some ⟨w.heap.size, 0, none⟩)]] (w.alloc (.cells #[.map (some b)] 119)) fun e w' => ∃ (v : Value) (ss : List (List UInt8)), e = .returned v ∧ ss.Perm (strKeys D0) ∧
      w'.ownsRow (w.alloc (.cells #[.map (some b)] 119)).heap.size 9 1 v ss.length ((ss.mergeSort (fun x y => decide (x ≤ y))).map encStr) ∧ (v = .slice none 0 0 ↔ ss = []) ∧ Below (w.alloc (.cells #[.map (some b)] 119)).heap.size (w.alloc (.cells #[.map (some b)] 119)) w' := by
  have hbl := hown.lt
  have hseq : SeqGives Fence.wide 2 Tryz.prog 148 #[.pointer (some ⟨w.heap.size, 0, none⟩)] encStr (fun ss => ss.Perm (strKeys D0)) (Maps.size D0) (w.alloc (.cells #[.map (some b)] 119)) :=
    AnyZ.keys_gives (ρ := Tryz.layKU_ren) { Tryz.layKU with } Fence.wide _ trivial rfl (by omega) w.heap.size b nn D0 _ (by simp) (by simp) (by
      obtain ⟨es, clock, hb, Ft, hs, hD⟩ := hown
      exact ⟨es, clock, (Below.heap_alloc _ _ b hbl).trans hb, Ft, hs, hD⟩)
  exact callsIn_wide.1 (AnyZ.sorted_in Tryz.laySo Fence.wide 5 trivial trivial trivial trivial rfl (by omega) (sorts66 _) (enters_of Tryz.func93 (by kernel_rfl) rfl) 148 #[.pointer (some ⟨w.heap.size, 0, none⟩)] trivial (enters_of Tryz.func148 (by kernel_rfl) rfl) _ _ hmax hbytes _ hseq)

/-! ### sorted keys, over lists -/
theorem QT.less_le : ∀ {x y : QT.Str}, Op.bytesLess x y = true → x ≤ y
  | _, [], h => by unfold Op.bytesLess at h; cases h
  | [], _ :: _, _ => List.nil_le _
  | a :: r, b :: s, h => by
    unfold Op.bytesLess at h
    simp only [Bool.or_eq_true, Bool.and_eq_true, decide_eq_true_eq, beq_iff_eq] at h
    rw [List.cons_le_cons_iff]
    rcases h with h | ⟨h1, h2⟩
    · exact .inl h
    · exact .inr ⟨h1, QT.less_le h2⟩
section
variable {α : Type} {key : α → QT.Str} {val : α → Value} {w : World} {b n : Nat} {N : List α}
theorem keys_sorted {D : DataW Value} {R : Value → Option (DataW Value × List MemPlace)} (hown : w.ownsMap Tryz.prog 9 R b n D) (hr : ReadsG key val D N) (hs : N.Pairwise (fun x y => Op.bytesLess (key x) (key y) = true)) {ss : List (List UInt8)} (hp : ss.Perm (strKeys D)) :
    ss.mergeSort (fun x y => decide (x ≤ y)) = N.map key := by
  obtain ⟨es, rfl, hk⟩ := hown.keysOf
  obtain ⟨es2, e2, hap, _⟩ := hown.entries KK
  injection e2 with e2
  subst e2
  have hps : (N.map key).Pairwise (fun x y => Op.bytesLess x y = true) := List.pairwise_map.2 hs
  have hnd : (N.map key).Nodup := hps.imp (fun {x y} h e => by subst e; rw [QT.less_irr] at h; cases h)
  have hm : ∀ x, x ∈ N.map key ↔ Maps.has (.map es : DataW Value) (.string x) = true := fun x => by
    rw [hr.has x]
    unfold QT.fnd
    rw [List.find?_isSome, List.mem_map]
    constructor
    · rintro ⟨y, h1, h2⟩; exact ⟨y, h1, by simpa using h2⟩
    · rintro ⟨y, h1, h2⟩; exact ⟨y, h1, by simpa using h2⟩
  have h1 := perm_strKeys hap (fun p hp => by
    obtain ⟨v, hv⟩ := hk p hp
    obtain ⟨x, _, hx, _⟩ := Maps.keyOf_str KS hv
    exact ⟨x, hx⟩) hnd hm
  rw [show ss.mergeSort (fun x y => decide (x ≤ y)) = (N.map key).mergeSort (fun x y => decide (x ≤ y)) from mergeSort_of_perm (hp.trans h1.symm)]
  exact List.mergeSort_of_pairwise (hps.imp (fun {x y} h => by simpa using QT.less_le h))
end
/-- A SLICE OF TEXTS OF THE CALL's OWN. -/
def OwnS (w : World) (base : Nat) (v : Value) (L : List QT.Str) : Prop :=
  (v = .slice none 0 0 ∧ L = []) ∨ ∃ g cap, v = .slice (some ⟨g, 0, none⟩) L.length cap ∧ base ≤ g ∧ L.length ≤ cap ∧ cap ≤ maxLen ∧ ∀ j s, L[j]? = some s → w.cell? ⟨g, j, none⟩ = some (.string (str s)) ∧ w.frozen? ⟨g, j, none⟩ = false
theorem OwnS.below {w w' : World} {base : Nat} {v : Value} {L : List QT.Str} (h : OwnS w base v L) (f : Below w.heap.size w w') : OwnS w' base v L := by
  rcases h with h | ⟨g, cap, rfl, h1, h2, h3, h4⟩
  · exact .inl h
  · refine .inr ⟨g, cap, rfl, h1, h2, h3, fun j s hs => ?_⟩
    obtain ⟨a, b⟩ := h4 j s hs
    have hlt := World.block_lt_of_cell? _ _ a
    exact ⟨(World.cell?_of_block (f.block _ hlt)).trans a, (World.frozen?_of_block (f.block _ hlt)).trans b⟩
theorem OwnS.base {w : World} {base c : Nat} {v : Value} {L : List QT.Str} (h : OwnS w base v L) (hc : c ≤ base) : OwnS w c v L := by
  rcases h with h | ⟨g, cap, rfl, h1, h⟩
  · exact .inl h
  · exact .inr ⟨g, cap, rfl, by omega, h⟩
theorem OwnS.of_row {w : World} {base : Nat} {v : Value} {L : List QT.Str} (h : w.ownsRow base 9 1 v L.length (L.map encStr)) : OwnS w base v L := by
  obtain ⟨_, h⟩ := h
  rcases h with ⟨h1, h2⟩ | ⟨g, cap, cur, h1, h2, h3, h4, h5, h6, h7⟩
  · exact .inl ⟨h1, List.length_eq_zero_iff.1 h2⟩
  · refine .inr ⟨g, cap, h1, h2, h4, h5, fun j s hs => ?_⟩
    have hj := (List.getElem?_eq_some_iff.1 hs).1
    have hc : cur[j]? = some (.string (str s)) := by
      have : (cur.toList.take (L.length * 1))[j]? = some (encStr s) := by rw [h7, List.getElem?_map, hs]; rfl
      rw [List.getElem?_take_of_lt (by omega), Array.getElem?_toList] at this
      exact this
    exact ⟨by simp [World.cell?, h3, hc], by simp [World.frozen?, h3]⟩
end Go.Proofs.YtkanjdijmdjbaaaGreatDoor

namespace Go.Proofs.YtkanjdijmdjbaaaGreatDoor
open Go Go.RowKit Go.Maps Go.Sort Go.Shelf

/-- THE LISTS RISE, and are as the program asks. -/
structure RiseQ (N : List QT.Nd) (U : List QT.Us) : Prop where
  rN : N.Pairwise (fun a b => Op.bytesLess a.nm b.nm = true)
  rU : U.Pairwise (fun a b => Op.bytesLess a.id b.id = true)
  fN : ∀ x ∈ N, QT.fineNd x
  fU : ∀ x ∈ U, QT.fineUs x
  lN : N.length ≤ 256
  lU : U.length ≤ 1024
theorem RiseQ.good {N : List QT.Nd} {U : List QT.Us} (h : RiseQ N U) : GoodQ N U :=
  ⟨h.rN.imp (fun {a b} q e => by rw [e, QT.less_irr] at q; cases q), h.rU.imp (fun {a b} q e => by rw [e, QT.less_irr] at q; cases q), h.fN, h.fU, h.lN, h.lU⟩
theorem GoodQ.fnd {N : List QT.Nd} {U : List QT.Us} (h : GoodQ N U) {x : QT.Nd} (hx : x ∈ N) : QT.fnd QT.Nd.nm N x.nm = some x := by
  have hp := h.pN
  clear h
  unfold QT.fnd
  induction N with
  | nil => cases hx
  | cons y r ih =>
    obtain ⟨h1, h2⟩ := List.pairwise_cons.1 hp
    rw [List.find?_cons]
    rcases List.mem_cons.1 hx with e | h'
    · subst e; simp
    · have : (y.nm == x.nm) = false := by simpa using h1 x h'
      rw [this]
      exact ih h' h2
set_option maxHeartbeats 1000000 in
/-- Nodes. -/
theorem nodes_any (T bn bu n m : Nat) (N : List QT.Nd) (U : List QT.Us) (w : World) (hT : TreeQ w T bn bu n m N U) (hR : RiseQ N U) :
    Calls Tryz.prog 14 #[.pointer (some ⟨T, 0, none⟩)] w fun e w' => ∃ v, e = .returned v ∧ OwnS w' w.heap.size v (N.map QT.Nd.nm) ∧ Below w.heap.size w w' := by
  obtain ⟨t0, t1, _, _⟩ := cells2 hT.tb
  obtain ⟨D, hown, hr⟩ := hT.mN
  have hsz : Maps.size D ≤ 256 := by rw [(hr rfl).2]; exact hR.lN
  have HS := Lib.hid (sortedN bn n D (heldG vNd) w hown (by simp only [maxLen]; omega) (by omega))
  have HK := Lib.hid (fun (ss : List (List UInt8)) (hp : ss.Perm (strKeys D)) => keys_sorted hown (hr rfl) hR.rN hp)
  clear hT hown hr hR hsz
  go_enter Tryz.func14, Tryz.ntmps14
  go_wp2_with fail
  refine (keysN (some bn) w).mono ?_
  rintro e w1 ⟨rfl, rfl⟩
  go_wp2_with fail
  refine HS.out.mono ?_
  rintro e w2 ⟨v, ss, rfl, hp, hrow, _, hb⟩
  have hk := HK.out ss hp
  have hlen : ss.length = (N.map QT.Nd.nm).length := by rw [← hk, List.length_mergeSort]
  rw [hk, hlen] at hrow
  have HO := Lib.hid ((OwnS.of_row hrow).base (c := w.heap.size) (by simp))
  have HB := Lib.hid (((Below.refl _ w).alloc (Nat.le_refl _) (.cells #[.map (some bn)] 118)).trans (hb.mono (by simp)))
  clear hrow hb hk hlen HS HK hp
  go_wp2
  go_ret
  exact ⟨v, rfl, HO.out, HB.out⟩

/-! ### children -/
abbrev NameQ : Type := { s : QT.Str // s.length ≤ 1099511627776 }
instance : Inhabited NameQ := ⟨⟨[], Nat.zero_le _⟩⟩
def encQ (x : NameQ) : Value := .string (str x.1)
/-- The node that the map tells. -/
def QT.at0 (N : List QT.Nd) (s : QT.Str) : QT.Nd := (QT.fnd QT.Nd.nm N s).getD ⟨[], [], 0, 0, 0, 0, 0, 0⟩
theorem zNd_eq : zNd = vNd ⟨[], [], 0, 0, 0, 0, 0, 0⟩ := by
  have e : FL.fB 0 = 0 := FL.fI_zero
  simp only [zNd, vNd, e]
  rfl
theorem MapD.at0 {w : World} {b n : Nat} {N : List QT.Nd} (h : MapD QT.Nd.nm vNd true w b n N) (s : QT.Str) (hs : s.length ≤ 1099511627776) :
    (Instr.lookup 118 (.map (some b)) (.string (str s)) false).run Tryz.prog w = .ok (vNd (QT.at0 N s)) w := by
  rw [h.look Tryz.underlying118 (zeroNd _) ⟨_, zNd_val⟩ s hs]
  unfold QT.at0
  cases QT.fnd QT.Nd.nm N s with
  | none => rw [Option.map_none, Option.getD_none, Option.getD_none, zNd_eq]
  | some y => rfl
theorem fldN1 (y : QT.Nd) : ∀ w : World, (Instr.field 50 (.agg #[.string (str y.nm), .string (str y.pr), .complex .f64 (FL.fB y.o1) (FL.fB y.o2), .complex .f64 (FL.fB y.b1) (FL.fB y.b2), .complex .f64 (FL.fB y.l1) (FL.fB y.l2)]) 1).run Tryz.prog w = .ok (.string (str y.pr)) w := fun _ => by kernel_rfl
theorem fldN2 (y : QT.Nd) : ∀ w : World, (Instr.field 50 (.agg #[.string (str y.nm), .string (str y.pr), .complex .f64 (FL.fB y.o1) (FL.fB y.o2), .complex .f64 (FL.fB y.b1) (FL.fB y.b2), .complex .f64 (FL.fB y.l1) (FL.fB y.l2)]) 2).run Tryz.prog w = .ok (.complex .f64 (FL.fB y.o1) (FL.fB y.o2)) w := fun _ => by kernel_rfl
theorem fldN4 (y : QT.Nd) : ∀ w : World, (Instr.field 50 (.agg #[.string (str y.nm), .string (str y.pr), .complex .f64 (FL.fB y.o1) (FL.fB y.o2), .complex .f64 (FL.fB y.b1) (FL.fB y.b2), .complex .f64 (FL.fB y.l1) (FL.fB y.l2)]) 4).run Tryz.prog w = .ok (.complex .f64 (FL.fB y.l1) (FL.fB y.l2)) w := fun _ => by kernel_rfl
set_option maxHeartbeats 1000000 in
theorem kid_gives (T BT BN bn n : Nat) (N : List QT.Nd) (name x : QT.Str) (hx : x.length ≤ 1099511627776) (W : World) (h1 : W.cell? ⟨BT, 0, none⟩ = some (.pointer (some ⟨T, 0, none⟩))) (h2 : W.cell? ⟨BN, 0, none⟩ = some (.string (str name)))
    (h3 : W.cell? ⟨T, 0, none⟩ = some (.map (some bn))) (hM : MapD QT.Nd.nm vNd true W bn n N) :
    Calls Tryz.prog 137 #[.string (str x), .pointer (some ⟨BT, 0, none⟩), .pointer (some ⟨BN, 0, none⟩)] W fun e w' => e = .returned (.bool (!((QT.at0 N x).pr == name))) ∧ ∃ q, w' = W.drewN q := by
  have hl := MapD.at0 (hM.below (Below.refl _ _).drew) x hx
  obtain ⟨y, hy⟩ : ∃ y, y = QT.at0 N x := ⟨_, rfl⟩
  rw [← hy] at hl ⊢
  rw [vNd] at hl
  have S0 : (W.drew.cell? ⟨BT, 0, none⟩ = some (.pointer (some ⟨T, 0, none⟩)) ∧ W.drew.cell? ⟨BN, 0, none⟩ = some (.string (str name)) ∧ W.drew.cell? ⟨T, 0, none⟩ = some (.map (some bn)) ∧ (Instr.lookup 118 (.map (some bn)) (.string (str x)) false).run Tryz.prog W.drew = .ok (.agg #[.string (str y.nm), .string (str y.pr), .complex .f64 (FL.fB y.o1) (FL.fB y.o2), .complex .f64 (FL.fB y.b1) (FL.fB y.b2), .complex .f64 (FL.fB y.l1) (FL.fB y.l2)]) W.drew) := ⟨h1, h2, h3, hl⟩
  obtain ⟨q, hq⟩ : ∃ q, q = (y.pr == name) := ⟨_, rfl⟩
  have ht : ((str y.pr).toList == (str name).toList) = q := by rw [str_toList, str_toList, hq]
  rw [← hq]
  have hf1 := fldN1 y
  clear hM hy hq hl
  go_enter Tryz.func137, Tryz.ntmps137
  go_wp2_with fail
  refine wp_region_noPanic ?_
  refine wp_region_held_drew (S := fun V => (V.cell? ⟨BT, 0, none⟩ = some (.pointer (some ⟨T, 0, none⟩)) ∧ V.cell? ⟨BN, 0, none⟩ = some (.string (str name)) ∧ V.cell? ⟨T, 0, none⟩ = some (.map (some bn)) ∧ (Instr.lookup 118 (.map (some bn)) (.string (str x)) false).run Tryz.prog V = .ok (.agg #[.string (str y.nm), .string (str y.pr), .complex .f64 (FL.fB y.o1) (FL.fB y.o2), .complex .f64 (FL.fB y.b1) (FL.fB y.b2), .complex .f64 (FL.fB y.l1) (FL.fB y.l2)]) V)) (by kernel_rfl) S0 (fun hHeld => ?_)
  refine rTk 0 ?_; try simp only [Act.put, rP1, rP2, rP3]
  refine rTk 1 ?_; try simp only [Act.put, rP1, rP2, rP3]
  refine rTk 2 ?_; try simp only [Act.put, rP1, rP2, rP3]
  refine rTk 3 ?_; try simp only [Act.put, rP1, rP2, rP3]
  refine rTk 4 ?_; try simp only [Act.put, rP1, rP2, rP3]
  refine rTk 5 ?_; try simp only [Act.put, rP1, rP2, rP3]
  refine rTk 6 ?_; try simp only [Act.put, rP1, rP2, rP3]
  refine rTk 7 ?_; try simp only [Act.put, rP1, rP2, rP3]
  refine rTk 8 ?_; try simp only [Act.put, rP1, rP2, rP3]
  refine rTk 9 ?_; try simp only [Act.put, rP1, rP2, rP3]
  refine wpAnyH_done (by kernel_rfl) ?_ _
  refine NoPanic.normal ?_
  go_wp2
  go_ret
  exact ⟨rfl, 1, rfl⟩
end Go.Proofs.YtkanjdijmdjbaaaGreatDoor

namespace Go.Proofs.YtkanjdijmdjbaaaGreatDoor
open Go Go.RowKit Go.Maps Go.Sort Go.Shelf

set_option maxHeartbeats 1000000 in
theorem idx_nil (fv : Value) (w : World) : Calls Tryz.prog 172 #[.slice none 0 0, fv] w fun e w' => e = .returned (.int .i64 (-1)) ∧ w = w' := by
  go_enter Tryz.func172, Tryz.ntmps172
  go_wp2
  go_loopw [8] (fun v V => v = .int .i64 0 ∧ w = V) (fun _ _ => 0)
  case atStart => exact ⟨rfl, rfl⟩
  case round =>
    obtain ⟨rfl, rfl⟩ := hrel
    go_wp2
    go_ret
    exact ⟨rfl, rfl⟩
set_option maxHeartbeats 1000000 in
theorem del_nil (fv : Value) (w : World) : Calls Tryz.prog 136 #[.slice none 0 0, fv] w fun e w' => e = .returned (.slice none 0 0) ∧ w = w' := by
  go_enter Tryz.func136, Tryz.ntmps136
  go_wp2_with fail
  refine (idx_nil fv w).mono ?_
  rintro e w1 ⟨rfl, rfl⟩
  go_wp2
  go_ret
  exact ⟨rfl, rfl⟩
theorem fr_putRow {α : Type} [Inhabited α] (enc : α → Value) (w : World) (blk off : Nat) (d : Array α) : Fr (fun j => j = blk) w (putRow enc w blk off d) :=
  ⟨rfl, rfl, rfl, Nat.le_of_eq (Sort.size_putRow enc w blk off d).symm, fun i _ hi => by
    unfold putRow mapBlock
    simp only [Array.getElem?_modify]
    rw [if_neg (fun e => hi e.symm)]⟩
theorem fr_ahead (w : World) (q : Nat) : Fr (fun _ => False) w (Sort.ahead w q) := ⟨rfl, rfl, rfl, Nat.le_refl _, fun _ _ _ => rfl⟩
theorem fr_sortWorld {α : Type} [Inhabited α] (enc : α → Value) (w : World) (blk off m : Nat) (d : Array α) (os : Array Obj) : Fr (fun j => j = blk) w (sortWorld enc w blk off m d os) := by
  have h1 := ((fr_ahead w m).mono (Y := fun j => j = blk) (fun _ _ x => x.elim)).trans (fr_putRow enc (Sort.ahead w m) blk off d)
  refine h1.trans ⟨rfl, rfl, rfl, ?_, fun i hi _ => heap_grow_old _ os hi⟩
  show _ ≤ (_ ++ os : Array Obj).size
  rw [Array.size_append]; omega
theorem zeroStr (w : World) : (zeroValue 9).run Tryz.prog w = .ok (encQ default) w := by
  rw [Tryz.zeroValue9]
  rfl
def toNameQ (s : QT.Str) : NameQ := if h : s.length ≤ 1099511627776 then ⟨s, h⟩ else default
theorem toNameQ_val {s : QT.Str} (h : s.length ≤ 1099511627776) : (toNameQ s).1 = s := by unfold toNameQ; rw [dif_pos h]
set_option maxHeartbeats 1000000 in
/-- slices.DeleteFunc of the names whose parent is another. -/
theorem del_any (T BT BN bn n : Nat) (N : List QT.Nd) (name : QT.Str) (L : List QT.Str) (base : Nat) (v : Value) (w : World) (hO : OwnS w base v L) (hL : ∀ s ∈ L, s.length ≤ 1099511627776) (h1 : w.cell? ⟨BT, 0, none⟩ = some (.pointer (some ⟨T, 0, none⟩))) (h2 : w.cell? ⟨BN, 0, none⟩ = some (.string (str name)))
    (h3 : w.cell? ⟨T, 0, none⟩ = some (.map (some bn))) (hM : MapD QT.Nd.nm vNd true w bn n N) (b1 : BT < base) (b2 : BN < base) (b3 : T < base) (b4 : bn < base) :
    Calls Tryz.prog 136 #[v, .func (.func 137) #[] #[.pointer (some ⟨BT, 0, none⟩), .pointer (some ⟨BN, 0, none⟩)]] w fun e w' => ∃ v', e = .returned v' ∧ OwnS w' base v' (L.filter fun s => (QT.at0 N s).pr == name) ∧ Below base w w' := by
  rcases hO with ⟨rfl, rfl⟩ | ⟨g, cap, rfl, hg, hcap, hmax, hc⟩
  · refine (del_nil _ w).mono ?_
    rintro e w' ⟨rfl, rfl⟩
    exact ⟨_, rfl, .inl ⟨rfl, rfl⟩, Below.refl _ _⟩
  · have eg : ∀ args w, (callFunc 137 args).run Tryz.prog w = .ok (.enter 137 args) w := enters_of Tryz.func137 (by kernel_rfl) rfl
    obtain ⟨p, hp⟩ : ∃ p : NameQ → Bool, p = fun x => !((QT.at0 N x.1).pr == name) := ⟨_, rfl⟩
    obtain ⟨d, hd⟩ : ∃ d : Array NameQ, d = (L.map toNameQ).toArray := ⟨_, rfl⟩
    have hds : d.size = L.length := by rw [hd]; simp
    have gives : ∀ (W : World) (x : NameQ), Fr (fun j => j = g) w W → FnGives Tryz.prog 137 #[.pointer (some ⟨BT, 0, none⟩), .pointer (some ⟨BN, 0, none⟩)] #[encQ x] (.bool (p x)) W := fun W x f => by
      rw [hp]
      exact kid_gives T BT BN bn n N name x.1 x.2 W (f.cell h1 (by show BT ≠ g; omega)) (f.cell h2 (by show BN ≠ g; omega)) (f.cell h3 (by show T ≠ g; omega)) (hM.kept f (by show bn ≠ g; omega))
    have hpa : PredAt Tryz.prog 137 #[.pointer (some ⟨BT, 0, none⟩), .pointer (some ⟨BN, 0, none⟩)] encQ p w := fun W x hb => gives W x (Fr.of_below hb)
    have hpo : PredOver Tryz.prog 137 #[.pointer (some ⟨BT, 0, none⟩), .pointer (some ⟨BN, 0, none⟩)] encQ p g 0 d.size w := fun n os dk x _ => gives _ x (fr_sortWorld encQ w g 0 n dk os)
    have hget : ∀ (M : List NameQ) (j : Nat), j < M.length → M.toArray[j]! = M[j]! := fun M j hj => by rw [getElem!_pos _ j (by simpa using hj), getElem!_pos _ j hj]; simp
    have hH : Holds encQ w g 0 d := fun j hj => by
      have hj' : j < L.length := by omega
      obtain ⟨a, b⟩ := hc j L[j] (List.getElem?_eq_getElem hj')
      rw [Nat.zero_add]
      refine ⟨?_, b⟩
      rw [a, hd, hget _ _ (by simpa using hj'), getElem!_pos _ j (by simpa using hj'), List.getElem_map, encQ, toNameQ_val (hL _ (List.getElem_mem hj'))]
    have hcon := AnyE.slices_DeleteFunc Tryz.layDe encQ (fun _ => rfl) p 137 #[.pointer (some ⟨BT, 0, none⟩), .pointer (some ⟨BN, 0, none⟩)] eg default zeroStr g 0 cap d w hpa hpo hH (by rw [hds]; simp only [maxLen] at hmax; omega) (by omega)
    change Calls Tryz.prog 136 _ _ _ at hcon
    rw [hds] at hcon
    refine hcon.mono ?_
    rintro e w' ⟨rfl, q, rfl⟩
    obtain ⟨K, hK⟩ : ∃ K : List NameQ, K = d.toList.filter fun x => !p x := ⟨_, rfl⟩
    have hKL : K.map (·.1) = L.filter fun s => (QT.at0 N s).pr == name := by
      rw [hK, hd, hp]
      simp only [List.filter_map, List.map_map, Bool.not_not]
      have e1 : L.filter ((fun x : NameQ => (QT.at0 N x.1).pr == name) ∘ toNameQ) = L.filter fun s => (QT.at0 N s).pr == name := List.filter_congr fun s hs => by
        simp only [Function.comp]
        rw [toNameQ_val (hL s hs)]
      rw [e1]
      conv => rhs; rw [← List.map_id (L.filter fun s => (QT.at0 N s).pr == name)]
      refine List.map_congr_left fun s hs => ?_
      exact toNameQ_val (hL s (List.mem_filter.1 hs).1)
    have hlen : K.length = (L.filter fun s => (QT.at0 N s).pr == name).length := by rw [← hKL, List.length_map]
    have hKd : K.length ≤ d.size := by rw [hK, ← Array.length_toList]; exact List.length_filter_le _ _
    rw [← hK]
    refine ⟨_, rfl, .inr ⟨g, cap, by rw [hlen], hg, by omega, hmax, fun j s hs => ?_⟩, ?_⟩
    · have hj : j < K.length := by rw [hlen]; exact (List.getElem?_eq_some_iff.1 hs).1
      have hh := holds_putRow encQ (Sort.ahead w q) g 0 d (K ++ List.replicate (d.size - K.length) default).toArray (holds_ahead encQ w q g 0 d hH) (by simp; omega) j (by simp; omega)
      rw [Nat.zero_add, hget _ _ (by simp; omega), getElem!_pos _ j (by simp; omega), List.getElem_append_left hj] at hh
      have hs2 : K[j].1 = s := by
        rw [← hKL, List.getElem?_map, List.getElem?_eq_getElem hj] at hs
        exact Option.some.inj hs
      rw [encQ, hs2] at hh
      rw [← hds]
      exact hh
    · have f := ((fr_ahead w q).mono (Y := fun j => j = g) (fun _ _ x => x.elim)).trans (fr_putRow encQ (Sort.ahead w q) g 0 (K ++ List.replicate (L.length - K.length) default).toArray)
      exact ⟨f.os, f.tape, f.output, f.size, fun k hk => by
        by_cases hkw : k < w.heap.size
        · exact f.block k hkw (by omega)
        · have e1 : w.heap[k]? = none := Array.getElem?_eq_none (by omega)
          have e2 : (putRow encQ (Sort.ahead w q) g 0 (K ++ List.replicate (L.length - K.length) default).toArray).heap[k]? = none := Array.getElem?_eq_none (by rw [Sort.size_putRow]; show w.heap.size ≤ k; omega)
          rw [e1, e2]⟩
end Go.Proofs.YtkanjdijmdjbaaaGreatDoor

namespace Go.Proofs.YtkanjdijmdjbaaaGreatDoor
open Go Go.RowKit Go.Maps Go.Sort Go.Shelf

/-- The children's names. -/
def QT.kids (N : List QT.Nd) (s : QT.Str) : List QT.Str := (N.filter fun c => c.pr == s).map QT.Nd.nm
theorem QT.kids_eq {N : List QT.Nd} {U : List QT.Us} (h : RiseQ N U) (s : QT.Str) : (N.map QT.Nd.nm).filter (fun x => (QT.at0 N x).pr == s) = QT.kids N s := by
  unfold QT.kids
  rw [List.filter_map]
  congr 1
  refine List.filter_congr fun x hx => ?_
  simp only [Function.comp]
  unfold QT.at0
  rw [h.good.fnd hx]
  rfl
set_option maxHeartbeats 1000000 in
/-- children. -/
theorem children_any (T bn bu n m : Nat) (N : List QT.Nd) (U : List QT.Us) (s : QT.Str) (w : World) (hT : TreeQ w T bn bu n m N U) (hR : RiseQ N U) :
    Calls Tryz.prog 95 #[.pointer (some ⟨T, 0, none⟩), .string (str s)] w fun e w' => ∃ v, e = .returned v ∧ OwnS w' w.heap.size v (QT.kids N s) ∧ Below w.heap.size w w' := by
  obtain ⟨W, hW⟩ : ∃ W, W = (w.alloc (.cells #[.pointer (some ⟨T, 0, none⟩)] 59)).alloc (.cells #[.string (str s)] 9) := ⟨_, rfl⟩
  have hb : Below w.heap.size w W := by rw [hW]; exact ((Below.refl _ _).alloc (Nat.le_refl _) _).alloc (by simp) _
  have c1 : W.cell? ⟨w.heap.size, 0, none⟩ = some (.pointer (some ⟨T, 0, none⟩)) := by
    rw [hW]
    have := heap_alloc_new w (.cells #[.pointer (some ⟨T, 0, none⟩)] 59)
    have h2 : ((w.alloc (.cells #[.pointer (some ⟨T, 0, none⟩)] 59)).alloc (.cells #[.string (str s)] 9)).heap[w.heap.size]? = _ := (Below.heap_alloc _ _ _ (by simp)).trans this
    exact (cells1 h2).1
  have c2 : W.cell? ⟨w.heap.size + 1, 0, none⟩ = some (.string (str s)) := by
    rw [hW]
    have := heap_alloc_new (w.alloc (.cells #[.pointer (some ⟨T, 0, none⟩)] 59)) (.cells #[.string (str s)] 9)
    simp only [World.size_alloc] at this
    exact (cells1 this).1
  have hsz : W.heap.size = w.heap.size + 2 := by rw [hW]; simp
  have hTlt := (Array.getElem?_eq_some_iff.1 hT.tb).1
  have hnlt := hT.mN.lt
  have hTW := hT.below hb
  have HN := Lib.hid (nodes_any T bn bu n m N U W hTW hR)
  have HD : Hid (∀ (V : World) (v : Value), OwnS V W.heap.size v (N.map QT.Nd.nm) → Below W.heap.size W V → Calls Tryz.prog 136 #[v, .func (.func 137) #[] #[.pointer (some ⟨w.heap.size, 0, none⟩), .pointer (some ⟨w.heap.size + 1, 0, none⟩)]] V fun e w' => ∃ v', e = .returned v' ∧ OwnS w' w.heap.size v' (QT.kids N s) ∧ Below w.heap.size w w') := Lib.hid (fun V v hO f => by
    obtain ⟨t0, _⟩ := cells2 hTW.tb
    have hd := del_any T w.heap.size (w.heap.size + 1) bn n N s (N.map QT.Nd.nm) W.heap.size v V hO (fun x hx => by
      obtain ⟨y, hy, rfl⟩ := List.mem_map.1 hx
      have := (hR.fN y hy).1.1
      omega) ((World.cell?_of_block (a := ⟨w.heap.size, 0, none⟩) (f.block w.heap.size (by omega))).trans c1) ((World.cell?_of_block (a := ⟨w.heap.size + 1, 0, none⟩) (f.block (w.heap.size + 1) (by omega))).trans c2)
      ((World.cell?_of_block (a := ⟨T, 0, none⟩) (f.block T (by omega))).trans t0) (hTW.mN.below f) (by omega) (by omega) (by omega) (by omega)
    rw [QT.kids_eq hR] at hd
    refine hd.mono ?_
    rintro e w' ⟨v', rfl, h1, h2⟩
    exact ⟨v', rfl, h1.base hb.size, hb.trans ((f.trans (h2.mono (Nat.le_refl _))).mono hb.size)⟩)
  clear hb hsz hTlt hnlt hTW hT hR
  go_enter Tryz.func95, Tryz.ntmps95
  go_wp2_with fail
  rw [← hW]
  refine HN.out.mono ?_
  rintro e w3 ⟨v, rfl, hO, b3⟩
  have HD3 := Lib.hid (HD.out w3 v hO b3)
  clear HN HD hO b3 hW c1 c2
  go_wp2_with fail
  refine HD3.out.mono ?_
  rintro e w4 ⟨v', rfl, hO, b4⟩
  have HO := Lib.hid hO
  have HB := Lib.hid b4
  clear HD3 hO b4
  go_wp2
  go_ret
  exact ⟨v', rfl, HO.out, HB.out⟩
end Go.Proofs.YtkanjdijmdjbaaaGreatDoor
