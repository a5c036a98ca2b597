/-
  The program's children, by a contract.
  Conditions: the tree's maps hold the lists' (TreeQ), which rise (RiseQ).
  The program's children, by a contract.
  Conditions: the tree's maps hold the lists' (TreeQ), which rise (RiseQ).
-/
import Derived.Test.YtflghelhdalhiaaGreatDoorG12
namespace Go.Proofs.YtflghelhdalhiaaGreatDoor
open Go Go.RowKit Go.Maps Go.Sort Go.Shelf

set_option maxHeartbeats 1000000 in
theorem idx_nil (fv : Value) (w : World) : Calls Tryz.prog 98 #[.slice none 0 0, fv] w fun e w' => e = .returned (.int .i64 (-1)) ∧ w = w' := by
  go_enter Tryz.func98, Tryz.ntmps98
  go_wp2
  go_loopw [8] (fun v V => v = .int .i64 0 ∧ w = V) (fun _ _ => 0)
  case atStart => exact ⟨rfl, rfl⟩
  case round =>
    obtain ⟨rfl, rfl⟩ := hrel
    go_wp2
    go_ret
    exact ⟨rfl, rfl⟩
set_option maxHeartbeats 1000000 in
theorem del_nil (fv : Value) (w : World) : Calls Tryz.prog 77 #[.slice none 0 0, fv] w fun e w' => e = .returned (.slice none 0 0) ∧ w = w' := by
  go_enter Tryz.func77, Tryz.ntmps77
  go_wp2_with fail
  refine (idx_nil fv w).mono ?_
  rintro e w1 ⟨rfl, rfl⟩
  go_wp2
  go_ret
  exact ⟨rfl, rfl⟩
theorem fr_putRow {α : Type} [Inhabited α] (enc : α → Value) (w : World) (blk off : Nat) (d : Array α) : Fr (fun j => j = blk) w (putRow enc w blk off d) :=
  ⟨rfl, rfl, rfl, Nat.le_of_eq (Sort.size_putRow enc w blk off d).symm, fun i _ hi => by
    unfold putRow mapBlock
    simp only [Array.getElem?_modify]
    rw [if_neg (fun e => hi e.symm)]⟩
theorem fr_ahead (w : World) (q : Nat) : Fr (fun _ => False) w (Sort.ahead w q) := ⟨rfl, rfl, rfl, Nat.le_refl _, fun _ _ _ => rfl⟩
theorem fr_sortWorld {α : Type} [Inhabited α] (enc : α → Value) (w : World) (blk off m : Nat) (d : Array α) (os : Array Obj) : Fr (fun j => j = blk) w (sortWorld enc w blk off m d os) := by
  have h1 := ((fr_ahead w m).mono (Y := fun j => j = blk) (fun _ _ x => x.elim)).trans (fr_putRow enc (Sort.ahead w m) blk off d)
  refine h1.trans ⟨rfl, rfl, rfl, ?_, fun i hi _ => heap_grow_old _ os hi⟩
  show _ ≤ (_ ++ os : Array Obj).size
  rw [Array.size_append]; omega
theorem zeroStr (w : World) : (zeroValue 9).run Tryz.prog w = .ok (encQ default) w := by
  rw [Tryz.zeroValue9]
  rfl
def toNameQ (s : QT.Str) : NameQ := if h : s.length ≤ 1099511627776 then ⟨s, h⟩ else default
theorem toNameQ_val {s : QT.Str} (h : s.length ≤ 1099511627776) : (toNameQ s).1 = s := by unfold toNameQ; rw [dif_pos h]
set_option maxHeartbeats 1000000 in
/-- slices.DeleteFunc of the names whose parent is another. -/
theorem del_any (T BT BN bn n : Nat) (N : List QT.Nd) (name : QT.Str) (L : List QT.Str) (base : Nat) (v : Value) (w : World) (hO : OwnS w base v L) (hL : ∀ s ∈ L, s.length ≤ 1099511627776) (h1 : w.cell? ⟨BT, 0, none⟩ = some (.pointer (some ⟨T, 0, none⟩))) (h2 : w.cell? ⟨BN, 0, none⟩ = some (.string (str name)))
    (h3 : w.cell? ⟨T, 0, none⟩ = some (.map (some bn))) (hM : MapD QT.Nd.nm vNd true w bn n N) (b1 : BT < base) (b2 : BN < base) (b3 : T < base) (b4 : bn < base) :
    Calls Tryz.prog 77 #[v, .func (.func 78) #[] #[.pointer (some ⟨BT, 0, none⟩), .pointer (some ⟨BN, 0, none⟩)]] w fun e w' => ∃ v', e = .returned v' ∧ OwnS w' base v' (L.filter fun s => (QT.at0 N s).pr == name) ∧ Below base w w' := by
  rcases hO with ⟨rfl, rfl⟩ | ⟨g, cap, rfl, hg, hcap, hmax, hc⟩
  · refine (del_nil _ w).mono ?_
    rintro e w' ⟨rfl, rfl⟩
    exact ⟨_, rfl, .inl ⟨rfl, rfl⟩, Below.refl _ _⟩
  · have eg : ∀ args w, (callFunc 78 args).run Tryz.prog w = .ok (.enter 78 args) w := enters_of Tryz.func78 (by kernel_rfl) rfl
    obtain ⟨p, hp⟩ : ∃ p : NameQ → Bool, p = fun x => !((QT.at0 N x.1).pr == name) := ⟨_, rfl⟩
    obtain ⟨d, hd⟩ : ∃ d : Array NameQ, d = (L.map toNameQ).toArray := ⟨_, rfl⟩
    have hds : d.size = L.length := by rw [hd]; simp
    have gives : ∀ (W : World) (x : NameQ), Fr (fun j => j = g) w W → FnGives Tryz.prog 78 #[.pointer (some ⟨BT, 0, none⟩), .pointer (some ⟨BN, 0, none⟩)] #[encQ x] (.bool (p x)) W := fun W x f => by
      rw [hp]
      exact kid_gives T BT BN bn n N name x.1 x.2 W (f.cell h1 (by show BT ≠ g; omega)) (f.cell h2 (by show BN ≠ g; omega)) (f.cell h3 (by show T ≠ g; omega)) (hM.kept f (by show bn ≠ g; omega))
    have hpa : PredAt Tryz.prog 78 #[.pointer (some ⟨BT, 0, none⟩), .pointer (some ⟨BN, 0, none⟩)] encQ p w := fun W x hb => gives W x (Fr.of_below hb)
    have hpo : PredOver Tryz.prog 78 #[.pointer (some ⟨BT, 0, none⟩), .pointer (some ⟨BN, 0, none⟩)] encQ p g 0 d.size w := fun n os dk x _ => gives _ x (fr_sortWorld encQ w g 0 n dk os)
    have hget : ∀ (M : List NameQ) (j : Nat), j < M.length → M.toArray[j]! = M[j]! := fun M j hj => by rw [getElem!_pos _ j (by simpa using hj), getElem!_pos _ j hj]; simp
    have hH : Holds encQ w g 0 d := fun j hj => by
      have hj' : j < L.length := by omega
      obtain ⟨a, b⟩ := hc j L[j] (List.getElem?_eq_getElem hj')
      rw [Nat.zero_add]
      refine ⟨?_, b⟩
      rw [a, hd, hget _ _ (by simpa using hj'), getElem!_pos _ j (by simpa using hj'), List.getElem_map, encQ, toNameQ_val (hL _ (List.getElem_mem hj'))]
    have hcon := AnyE.slices_DeleteFunc Tryz.del77 encQ (fun _ => rfl) p 78 #[.pointer (some ⟨BT, 0, none⟩), .pointer (some ⟨BN, 0, none⟩)] eg default zeroStr g 0 cap d w hpa hpo hH (by rw [hds]; simp only [maxLen] at hmax; omega) (by omega)
    change Calls Tryz.prog 77 _ _ _ at hcon
    rw [hds] at hcon
    refine hcon.mono ?_
    rintro e w' ⟨rfl, q, rfl⟩
    obtain ⟨K, hK⟩ : ∃ K : List NameQ, K = d.toList.filter fun x => !p x := ⟨_, rfl⟩
    have hKL : K.map (·.1) = L.filter fun s => (QT.at0 N s).pr == name := by
      rw [hK, hd, hp]
      simp only [List.filter_map, List.map_map, Bool.not_not]
      have e1 : L.filter ((fun x : NameQ => (QT.at0 N x.1).pr == name) ∘ toNameQ) = L.filter fun s => (QT.at0 N s).pr == name := List.filter_congr fun s hs => by
        simp only [Function.comp]
        rw [toNameQ_val (hL s hs)]
      rw [e1]
      conv => rhs; rw [← List.map_id (L.filter fun s => (QT.at0 N s).pr == name)]
      refine List.map_congr_left fun s hs => ?_
      exact toNameQ_val (hL s (List.mem_filter.1 hs).1)
    have hlen : K.length = (L.filter fun s => (QT.at0 N s).pr == name).length := by rw [← hKL, List.length_map]
    have hKd : K.length ≤ d.size := by rw [hK, ← Array.length_toList]; exact List.length_filter_le _ _
    rw [← hK]
    refine ⟨_, rfl, .inr ⟨g, cap, by rw [hlen], hg, by omega, hmax, fun j s hs => ?_⟩, ?_⟩
    · have hj : j < K.length := by rw [hlen]; exact (List.getElem?_eq_some_iff.1 hs).1
      have hh := holds_putRow encQ (Sort.ahead w q) g 0 d (K ++ List.replicate (d.size - K.length) default).toArray (holds_ahead encQ w q g 0 d hH) (by simp; omega) j (by simp; omega)
      rw [Nat.zero_add, hget _ _ (by simp; omega), getElem!_pos _ j (by simp; omega), List.getElem_append_left hj] at hh
      have hs2 : K[j].1 = s := by
        rw [← hKL, List.getElem?_map, List.getElem?_eq_getElem hj] at hs
        exact Option.some.inj hs
      rw [encQ, hs2] at hh
      rw [← hds]
      exact hh
    · have f := ((fr_ahead w q).mono (Y := fun j => j = g) (fun _ _ x => x.elim)).trans (fr_putRow encQ (Sort.ahead w q) g 0 (K ++ List.replicate (L.length - K.length) default).toArray)
      exact ⟨f.os, f.tape, f.output, f.size, fun k hk => by
        by_cases hkw : k < w.heap.size
        · exact f.block k hkw (by omega)
        · have e1 : w.heap[k]? = none := Array.getElem?_eq_none (by omega)
          have e2 : (putRow encQ (Sort.ahead w q) g 0 (K ++ List.replicate (L.length - K.length) default).toArray).heap[k]? = none := Array.getElem?_eq_none (by rw [Sort.size_putRow]; show w.heap.size ≤ k; omega)
          rw [e1, e2]⟩
end Go.Proofs.YtflghelhdalhiaaGreatDoor

namespace Go.Proofs.YtflghelhdalhiaaGreatDoor
open Go Go.RowKit Go.Maps Go.Sort Go.Shelf

/-- The children's names. -/
def QT.kids (N : List QT.Nd) (s : QT.Str) : List QT.Str := (N.filter fun c => c.pr == s).map QT.Nd.nm
theorem QT.kids_eq {N : List QT.Nd} {U : List QT.Us} (h : RiseQ N U) (s : QT.Str) : (N.map QT.Nd.nm).filter (fun x => (QT.at0 N x).pr == s) = QT.kids N s := by
  unfold QT.kids
  rw [List.filter_map]
  congr 1
  refine List.filter_congr fun x hx => ?_
  simp only [Function.comp]
  unfold QT.at0
  rw [h.good.fnd hx]
  rfl
set_option maxHeartbeats 1000000 in
/-- children. -/
theorem children_any (T bn bu n m : Nat) (N : List QT.Nd) (U : List QT.Us) (s : QT.Str) (w : World) (hT : TreeQ w T bn bu n m N U) (hR : RiseQ N U) :
    Calls Tryz.prog 47 #[.pointer (some ⟨T, 0, none⟩), .string (str s)] w fun e w' => ∃ v, e = .returned v ∧ OwnS w' w.heap.size v (QT.kids N s) ∧ Below w.heap.size w w' := by
  obtain ⟨W, hW⟩ : ∃ W, W = (w.alloc (.cells #[.pointer (some ⟨T, 0, none⟩)] 24)).alloc (.cells #[.string (str s)] 9) := ⟨_, rfl⟩
  have hb : Below w.heap.size w W := by rw [hW]; exact ((Below.refl _ _).alloc (Nat.le_refl _) _).alloc (by simp) _
  have c1 : W.cell? ⟨w.heap.size, 0, none⟩ = some (.pointer (some ⟨T, 0, none⟩)) := by
    rw [hW]
    have := heap_alloc_new w (.cells #[.pointer (some ⟨T, 0, none⟩)] 24)
    have h2 : ((w.alloc (.cells #[.pointer (some ⟨T, 0, none⟩)] 24)).alloc (.cells #[.string (str s)] 9)).heap[w.heap.size]? = _ := (Below.heap_alloc _ _ _ (by simp)).trans this
    exact (cells1 h2).1
  have c2 : W.cell? ⟨w.heap.size + 1, 0, none⟩ = some (.string (str s)) := by
    rw [hW]
    have := heap_alloc_new (w.alloc (.cells #[.pointer (some ⟨T, 0, none⟩)] 24)) (.cells #[.string (str s)] 9)
    simp only [World.size_alloc] at this
    exact (cells1 this).1
  have hsz : W.heap.size = w.heap.size + 2 := by rw [hW]; simp
  have hTlt := (Array.getElem?_eq_some_iff.1 hT.tb).1
  have hnlt := hT.mN.lt
  have hTW := hT.below hb
  have HN := Lib.hid (nodes_any T bn bu n m N U W hTW hR)
  have HD : Hid (∀ (V : World) (v : Value), OwnS V W.heap.size v (N.map QT.Nd.nm) → Below W.heap.size W V → Calls Tryz.prog 77 #[v, .func (.func 78) #[] #[.pointer (some ⟨w.heap.size, 0, none⟩), .pointer (some ⟨w.heap.size + 1, 0, none⟩)]] V fun e w' => ∃ v', e = .returned v' ∧ OwnS w' w.heap.size v' (QT.kids N s) ∧ Below w.heap.size w w') := Lib.hid (fun V v hO f => by
    obtain ⟨t0, _⟩ := cells2 hTW.tb
    have hd := del_any T w.heap.size (w.heap.size + 1) bn n N s (N.map QT.Nd.nm) W.heap.size v V hO (fun x hx => by
      obtain ⟨y, hy, rfl⟩ := List.mem_map.1 hx
      have := (hR.fN y hy).1.1
      omega) ((World.cell?_of_block (a := ⟨w.heap.size, 0, none⟩) (f.block w.heap.size (by omega))).trans c1) ((World.cell?_of_block (a := ⟨w.heap.size + 1, 0, none⟩) (f.block (w.heap.size + 1) (by omega))).trans c2)
      ((World.cell?_of_block (a := ⟨T, 0, none⟩) (f.block T (by omega))).trans t0) (hTW.mN.below f) (by omega) (by omega) (by omega) (by omega)
    rw [QT.kids_eq hR] at hd
    refine hd.mono ?_
    rintro e w' ⟨v', rfl, h1, h2⟩
    exact ⟨v', rfl, h1.base hb.size, hb.trans ((f.trans (h2.mono (Nat.le_refl _))).mono hb.size)⟩)
  clear hb hsz hTlt hnlt hTW hT hR
  go_enter Tryz.func47, Tryz.ntmps47
  go_wp2_with fail
  rw [← hW]
  refine HN.out.mono ?_
  rintro e w3 ⟨v, rfl, hO, b3⟩
  have HD3 := Lib.hid (HD.out w3 v hO b3)
  clear HN HD hO b3 hW c1 c2
  go_wp2_with fail
  refine HD3.out.mono ?_
  rintro e w4 ⟨v', rfl, hO, b4⟩
  have HO := Lib.hid hO
  have HB := Lib.hid b4
  clear HD3 hO b4
  go_wp2
  go_ret
  exact ⟨v', rfl, HO.out, HB.out⟩
end Go.Proofs.YtflghelhdalhiaaGreatDoor
