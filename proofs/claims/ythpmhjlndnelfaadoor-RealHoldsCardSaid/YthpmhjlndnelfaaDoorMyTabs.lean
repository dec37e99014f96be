/- From what the rows list to what the walks ask of the library's tables. No conditions. -/
import Derived.Test.YthpmhjlndnelfaaDoorRows
import Derived.Test.YthpmhjlndnelfaaDoorMyFtoa
import Derived.Stop.LaidErr
import Derived.Lib.LaidU8
namespace Go.Proofs.YthpmhjlndnelfaaDoor.Real
open Go.RowKit Go.Lib Go.ChangeShapes

theorem gT : Tryd.prog.globalNamed "internal/strconv.uint64pow10" = some 3 := by kernel_rfl
theorem gTType : (Tryd.prog.globals[3]?).map (·.type) = some 135 := by kernel_rfl
theorem gP : Tryd.prog.globalNamed "internal/strconv.pow10Tab" = some 4 := by kernel_rfl
theorem gPType : (Tryd.prog.globals[4]?).map (·.type) = some 145 := by kernel_rfl
theorem c144 : Tryd.prog.cellsOf 144 = 2 := by kernel_rfl
theorem c29 : Tryd.prog.cellsOf 29 = 1 := by kernel_rfl
theorem row365 : (Go.Pinned.pow10Rows.map fun x => (DataW.agg [.lit (.int .u64 x.1), .lit (.int .u64 x.2)] : DataW Unit))[365]? = some (.agg [.lit (.int .u64 12800000000000000000), .lit (.int .u64 0)]) := by kernel_rfl

theorem big_of {W : World} {cs : Array Value} (h : W.var? Tryd.prog "internal/strconv.pow10Tab" = some cs) : 4 < W.heap.size := by
  unfold World.var? at h
  rw [gP] at h
  rcases Nat.lt_or_ge 4 W.heap.size with h' | h'
  · exact h'
  · simp [Array.getElem?_eq_none h'] at h

set_option maxRecDepth 100000 in
theorem tabs_of {W : World} (hL : laidMet Tryd.prog Rows.realTurnedRow.laid W) : Tabs W := by
  have h2 : laidMet Tryd.prog [("internal/strconv.uint64pow10", Rows.laid_internal_strconv_uint64pow10), ("internal/strconv.leftcheats", Rows.laid_internal_strconv_leftcheats), ("internal/strconv.pow10Tab", Rows.laid_internal_strconv_pow10Tab)] W :=
    laidMet.tail (laidMet.tail (laidMet.tail hL))
  have h3 : laidMet Tryd.prog [("internal/strconv.pow10Tab", Rows.laid_internal_strconv_pow10Tab)] W := laidMet.tail (laidMet.tail h2)
  obtain ⟨g, t, cs, fuel, p, hg, hty, hvar, hd⟩ := laidMet.reads h3 (List.mem_cons_self ..)
  obtain rfl := Option.some.inj (gP.symm.trans hg)
  obtain rfl := Option.some.inj (gPType.symm.trans hty)
  obtain ⟨fuel', d, q, hdi, he⟩ := array_elem Tryd.underlying145 hd 365 (by omega)
  obtain rfl := Option.some.inj (row365.symm.trans hdi)
  rw [c144] at he
  have hcs := ints_of_struct (k := .u64) (zs := [12800000000000000000, 0]) Tryd.underlying144 (fun j f hj => by
      match j, hj with
      | 0, hj => simp at hj; subst hj; exact ⟨Tryd.underlying29, rfl, c29⟩
      | 1, hj => simp at hj; subst hj; exact ⟨Tryd.underlying29, rfl, c29⟩
      | j + 2, hj => simp at hj) (by rw [c144]; rfl) he
  have e0 := congrArg (·[0]?) hcs
  have e1 := congrArg (·[1]?) hcs
  simp only [List.getElem?_take, List.getElem?_drop] at e0 e1
  refine ⟨big_of hvar, ?_, ?_, tabIs_of_head gT gTType Tryd.underlying135 Tryd.underlying29 (by kernel_rfl) (by kernel_rfl) h2⟩
  · rw [World.var?_cell hg hvar 730, ← Array.getElem?_toList]
    simpa using e0
  · rw [World.var?_cell hg hvar 731, ← Array.getElem?_toList]
    simpa using e1

theorem wf_f {b : Nat} (h : (Lit.float .f64 b).wf = true) : b < 18446744073709551616 := by
  have : b < 2 ^ 64 := by simpa [Lit.wf] using h
  omega
theorem wf_u64 {a : Int} (h : (Lit.int .u64 a).wf = true) : 0 ≤ a ∧ a ≤ 18446744073709551615 := by
  simp [Lit.wf, IntKind.min, IntKind.max, IntKind.signed, IntKind.bits] at h
  omega
end Go.Proofs.YthpmhjlndnelfaaDoor.Real
