/-
  From the rows' list of variables ('laid') to the walks' facts ('Env'); a world that meets the list; from a parameter that came in to 'IsB'.
  No condition of its own: the list is the given rows' own.
-/
import Derived.Test.YtflghelhdalhiaaGreatDoorRows
import Derived.Test.YtflghelhdalhiaaGreatDoorG4
import Derived.LaidHandle
import Derived.LaidLaws
import Derived.Stop.LaidErr
import Derived.Lib.LaidTab
import Derived.KernelRfl
import Derived.OpenShut
namespace Go.Proofs.YtflghelhdalhiaaGreatDoor
open Go Go.RowKit

theorem own : ownKnob Tryz.prog.godebug = none := by kernel_rfl
theorem laidOut : laidOutB Tryz.prog = true := by kernel_rfl
theorem g_et : Tryz.prog.globalNamed "errors.errorType" = some 0 := by kernel_rfl
theorem g_es : Tryz.prog.globalNamed "strconv.ErrSyntax" = some 5 := by kernel_rfl
theorem g_er : Tryz.prog.globalNamed "strconv.ErrRange" = some 6 := by kernel_rfl
theorem g_pw : Tryz.prog.globalNamed "internal/strconv.uint64pow10" = some 2 := by kernel_rfl
theorem g_db : Tryz.prog.globalNamed "math/bits.deBruijn64tab" = some 4 := by kernel_rfl
theorem t_es : (Tryz.prog.globals[5]?).map (·.type) = some 26 := by kernel_rfl
theorem t_er : (Tryz.prog.globals[6]?).map (·.type) = some 26 := by kernel_rfl
theorem t_pw : (Tryz.prog.globals[2]?).map (·.type) = some 182 := by kernel_rfl
theorem t_db : (Tryz.prog.globals[4]?).map (·.type) = some 212 := by kernel_rfl
theorem c_str : Tryz.prog.cellsOf 9 = 1 := by kernel_rfl
theorem c_es : Tryz.prog.cellsOf 222 = 1 := by kernel_rfl
theorem c_u8 : Tryz.prog.cellsOf 5 = 1 := by kernel_rfl
theorem c_u64 : Tryz.prog.cellsOf 51 = 1 := by kernel_rfl
theorem c_pw : Tryz.prog.cellsOf 182 = 20 := by kernel_rfl
theorem c_db : Tryz.prog.cellsOf 212 = 64 := by kernel_rfl
theorem star : "*" ++ "errors.errorString" = "*errors.errorString" := by decide
theorem row_es (u : TypeId) (h : Tryz.prog.typeName? 3 u = some "*errors.errorString") : u = 220 :=
  typeName_ptr_named (nm := "errors.errorString") (by rw [star]; kernel_rfl) (by kernel_rfl) (by decide) u (by rw [star]; exact h)
theorem rt : (Tryz.prog.cutTypes.find? (·.1 == "internal/reflectlite.rtype")).map (·.2) = some 146 := by kernel_rfl
theorem oneRow : ((List.range Tryz.prog.types.size).filter fun t => Tryz.prog.rowNamed t [101, 114, 114, 111, 114]) = [26] := by kernel_rfl

/-- The numbers of a listed table. -/
def ints : DataW Unit → List Int
  | .agg l => l.filterMap fun | .lit (.int _ n) => some n | _ => none
  | _ => []
theorem e_db : (Rows.laid_math_bits_deBruijn64tab : DataW Unit) = Lib.tabData .u8 (ints Rows.laid_math_bits_deBruijn64tab) := rfl
theorem e_pw : (Rows.laid_internal_strconv_uint64pow10 : DataW Unit) = Lib.tabData .u64 Lib.pow10Tab := by rfl

theorem env_of_laid {W : World} (h : laidMetH Tryz.prog Rows.quotaBytesRow.laid W) : Env W := by
  have h' : laidMet Tryz.prog [("math/bits.deBruijn32tab", Rows.laid_math_bits_deBruijn32tab), ("math/bits.deBruijn64tab", Rows.laid_math_bits_deBruijn64tab), ("internal/strconv.uint64pow10", Rows.laid_internal_strconv_uint64pow10), ("strconv.ErrRange", Rows.laid_strconv_ErrRange), ("strconv.ErrSyntax", Rows.laid_strconv_ErrSyntax)] W ∧
      handlesMet Tryz.prog [("errors.errorType", Rows.laid_errors_errorType)] W := h
  obtain ⟨hd, hh⟩ := h'
  have h2 := hd.tail
  have h3 := h2.tail
  have h4 := h3.tail
  have h5 := h4.tail
  rw [e_db] at h2
  rw [e_pw] at h3
  have k2 := Lib.tabIs_of_head g_db t_db Tryz.underlying212 Tryz.underlying5 c_u8 c_db h2
  have k3 := Lib.tabIs_of_head g_pw t_pw Tryz.underlying182 Tryz.underlying51 c_u64 c_pw h3
  obtain ⟨a4, s4, hv4, _⟩ := laid_sentinel h4 g_er t_er Tryz.underlying26 row_es Tryz.underlying220 Tryz.underlying222 rfl rfl Tryz.underlying9 c_es c_str
  obtain ⟨a5, s5, hv5, _⟩ := laid_sentinel h5 g_es t_es Tryz.underlying26 row_es Tryz.underlying220 Tryz.underlying222 rfl rfl Tryz.underlying9 c_es c_str
  refine ⟨?_, ?_, ⟨_, _, by simpa using World.var?_cell g_es hv5 0⟩, ⟨_, _, by simpa using World.var?_cell g_er hv4 0⟩, k3⟩
  · have hc := World.var?_cell g_db k2 0
    have hs : (((ints Rows.laid_math_bits_deBruijn64tab).map fun z => Value.int .u8 z).toArray)[0]? = some (.int .u8 0) := rfl
    first
      | exact World.block_lt_of_cell? W _ (hc.trans hs)
      | exact World.block_lt_of_cell? W ⟨6, 0, none⟩ (by simpa using World.var?_cell g_er hv4 0)
  · obtain ⟨name, u, ty, e1, e2, e3, e4, e5⟩ := hh _ (List.mem_singleton.2 rfl)
    have en : name = [101, 114, 114, 111, 114] := (Option.some.inj e1).symm
    subst en
    obtain rfl := Option.some.inj (rt.symm.trans e2)
    have hm : ty ∈ (List.range Tryz.prog.types.size).filter fun t => Tryz.prog.rowNamed t [101, 114, 114, 111, 114] := List.mem_filter.2 ⟨List.mem_range.2 e3, e4⟩
    rw [oneRow] at hm
    obtain rfl := List.mem_singleton.1 hm
    have hh : typeHandle Tryz.prog 26 = .pointer (some ⟨7, 26, none⟩) := by kernel_rfl
    rw [hh] at e5
    simpa using World.var?_cell g_et e5 0

/-! ### A world that meets the list -/
def litCells : DataW Unit → Array Value
  | .agg l => (l.filterMap fun | .lit (.int k n) => some (Value.int k n) | _ => none).toArray
  | _ => #[]
def setObj (cs : Array Value) : Obj → Obj
  | .cells _ t z => .cells cs t z
  | o => o
noncomputable def low : Nat := (World.holding Tryz.prog default ⟨#[], #[], []⟩).heap.size
noncomputable def laidWorld (os : Os) : World :=
  let w0 := World.holding Tryz.prog os ⟨#[.cells #[.string ⟨#[118, 97, 108, 117, 101, 32, 111, 117, 116, 32, 111, 102, 32, 114, 97, 110, 103, 101]⟩] 222, .cells #[.string ⟨#[105, 110, 118, 97, 108, 105, 100, 32, 115, 121, 110, 116, 97, 120]⟩] 222], #[], []⟩
  { w0 with heap := (((((w0.heap.modify 3 (setObj (litCells Rows.laid_math_bits_deBruijn32tab))).modify 4 (setObj (litCells Rows.laid_math_bits_deBruijn64tab))).modify
      2 (setObj (litCells Rows.laid_internal_strconv_uint64pow10))).modify 0 (setObj #[.iface 146 (.agg #[.pointer (some ⟨7, 26, none⟩)])])).modify
      6 (setObj #[.iface 220 (.pointer (some ⟨low, 0, none⟩))])).modify 5 (setObj #[.iface 220 (.pointer (some ⟨low + 1, 0, none⟩))]) }
theorem laidWorld_met (os : Os) (args : Array Value) : laidMetH Tryz.prog Rows.quotaBytesRow.laid ((laidWorld os).forCall (fun _ _ => 0) ⟨#[], args, []⟩).memory :=
  laidMetH_of_parts (laidMet_of_run' 8 (by kernel_rfl) (by kernel_rfl)) (by kernel_rfl)

/-! ### A parameter that came in -/
/-- The bytes of a row of small integers. -/
def bytesFrom (zs : List Int) : List UInt8 := zs.map fun z => UInt8.ofNat z.toNat
theorem isB_open {W : World} {x : Addr} {n cap : Nat} {zs : List Int} (hl : n ≤ cap) (hm : cap ≤ maxLen) (hz : zs.length = cap) (hcell : ∀ i, i < zs.length → W.cell? (x.add i) = some (.int .u8 (zs.getD i 0)))
    (hw : ∀ z ∈ zs, (Lit.int .u8 z).wf = true) : ∃ l, l.length = n ∧ IsB W (.slice (some x) n cap) l := by
  have hlen : (bytesFrom (zs.take n)).length = n := by simp [bytesFrom]; omega
  refine ⟨bytesFrom (zs.take n), hlen, some x, cap, by rw [hlen], by omega, hm, (fun h => by cases h), ?_⟩
  by_cases h0 : n = 0
  · exact .inl (List.eq_nil_of_length_eq_zero (by omega))
  · have hc := hcell 0 (by omega)
    obtain ⟨b, off, spot⟩ := x
    have hspot : spot = none := by simpa [Addr.add] using World.cell?_spot hc
    subst hspot
    refine .inr ⟨b, off, rfl, fun i hi => ?_⟩
    have hi' : i < zs.length := by omega
    have := hcell i hi'
    have hadd : (⟨b, off, none⟩ : Addr).add i = ⟨b, off + i, none⟩ := by unfold Addr.add; split <;> simp_all
    rw [hadd] at this
    rw [this]
    have hmem : zs[i] ∈ zs := List.getElem_mem hi'
    have hwf := hw _ hmem
    obtain ⟨z0, z1⟩ := bounds_u8 hwf
    have hg : zs.getD i 0 = zs[i] := by simp [List.getD_eq_getElem?_getD, hi']
    rw [hg, at8_get _ _ hi]
    have hbt : ((bytesFrom (zs.take n))[i]'hi).toNat = zs[i].toNat := by
      have : zs[i].toNat < 256 := by omega
      simp [bytesFrom, UInt8.toNat_ofNat', Nat.mod_eq_of_lt this]
    rw [hbt, Int.toNat_of_nonneg z0]
end Go.Proofs.YtflghelhdalhiaaGreatDoor
