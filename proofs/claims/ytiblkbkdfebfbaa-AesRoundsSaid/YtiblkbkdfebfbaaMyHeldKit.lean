/- Steps through a region that draws its order. No conditions. -/
import Derived.Test.YtiblkbkdfebfbaaMyEq16
import Derived.OrdersHeld
import Derived.Deep.RegionHeld
import Derived.Laws.IdiomStrings
namespace Go.Proofs.Ytiblkbkdfebfbaa.Aes
open Go.RowKit Go.Proofs.Ytiblkbkdfebfbaa.Own

section
variable {P : Program} {ops : Array Oper} {Q : Exit → Act → World → Prop} {md : Region.Mode} {S S' : World → Prop}

theorem H_op {i : Nat} {o : Oper} {K : Act → World → Prop} {a : Act} {w : World} (ho : ops[i]? = some o) (hw : Region.wanted o (yielded ops a.tmps) = true)
    (h : ∀ K' : Act → World → Prop, (∀ a' w', K a' w' → K' a' w') → o.wp P a w K' Q) : wpOp P ops Q i K a w := by
  unfold wpOp
  rw [ho]
  show if Region.wanted o (yielded ops a.tmps) = true then _ else _
  rw [if_pos hw]
  exact .inl (h K fun _ _ h => h)
theorem H_only {i fuel : Nat} {o : Oper} {listed : Array Bool} {a : Act} {w : World} (hr : Region.ready md ops listed = [i]) (ho : ops[i]? = some o) (hw : Region.wanted o (yielded ops a.tmps) = true)
    (h : ∀ K : Act → World → Prop, (∀ a' w', S w' ∧ wpAnyH P md ops Q S fuel (listed.setIfInBounds i true) a' w' → K a' w') → o.wp P a w K Q) : wpAnyH P md ops Q S (fuel + 1) listed a w := by
  refine wpAnyH_all hr (by simp) (fun j hj => ?_)
  obtain rfl : j = i := by simpa using hj
  exact H_op ho hw h
theorem H_two {i k fuel : Nat} {o o' : Oper} {listed : Array Bool} {a : Act} {w : World} (hr : Region.ready md ops listed = [i, k]) (ho : ops[i]? = some o) (ho' : ops[k]? = some o') (hw : Region.wanted o (yielded ops a.tmps) = true) (hw' : Region.wanted o' (yielded ops a.tmps) = true)
    (h : ∀ K : Act → World → Prop, (∀ a' w', S w' ∧ wpAnyH P md ops Q S fuel (listed.setIfInBounds i true) a' w' → K a' w') → o.wp P a w K Q)
    (h' : ∀ K : Act → World → Prop, (∀ a' w', S w' ∧ wpAnyH P md ops Q S fuel (listed.setIfInBounds k true) a' w' → K a' w') → o'.wp P a w K Q) : wpAnyH P md ops Q S (fuel + 1) listed a w := by
  refine wpAnyH_all hr (by simp) (fun j hj => ?_)
  obtain rfl | rfl : j = i ∨ j = k := by simpa using hj
  · exact H_op ho hw h
  · exact H_op ho' hw' h'
theorem H_take {i fuel : Nat} {o : Oper} {v : Value} {listed : Array Bool} {a : Act} {w : World} (ho : ops[i]? = some o)
    (hs : Region.noSelect ops = true) (hf : Region.free md ops listed i = true) (hr : (Region.ready md ops listed).contains i = true)
    (hQ : ∀ c a w, Q (.panic c) (a.put o.dst v) w → Q (.panic c) a w) (hw : Region.wanted o (yielded ops a.tmps) = true) (hy : ∀ w', S w' → (execOp a.eval o).run P w' = .ok (.value v) w') (hS : S w)
    (h : wpAnyH P md ops Q S fuel (listed.setIfInBounds i true) (a.put o.dst v) w) : wpAnyH P md ops Q S (fuel + 1) listed a w :=
  wpAnyH_take ho hs hf hr hQ (.inl ⟨hw, hy⟩) hS h
theorem H_weak (hS : ∀ w, S' w → S w) : ∀ (fuel : Nat) (listed : Array Bool) (a : Act) (w : World), wpAnyH P md ops Q S' fuel listed a w → wpAnyH P md ops Q S fuel listed a w
  | 0, _, _, _, h => h
  | fuel + 1, _, _, _, h => ⟨h.1, fun i hi => wpOp_mono (fun a' w' h' => ⟨hS _ h'.1, H_weak hS fuel _ a' w' h'.2⟩) (h.2 i hi)⟩
theorem H_begin {id : Nat} {a : Act} {w : World} (S : World → Prop) (hm : P.follows .mixedOrders = true) (h : wpAnyH P .any ops Q S ops.size (Array.replicate ops.size false) a w.drew) : (Code.region id ops true).wp P Q a w :=
  wp_region_any hm (wpAny_of_held _ _ _ _ h)

theorem exec_load {ρ : Operand → Value} {o : Oper} {w : World} (ty : TypeId) (x : Operand) (ho : o.op = .load ty x) (b off : Nat) (hx : ρ x = .pointer (some ⟨b, off, none⟩)) (cs : Array Value) (d : TypeDesc) (hc : w.rangeAt b off cs.toList)
    (hu : P.underlying ty = some d) (hd : d.isRow = true) (hi : (P.info? ty).map (·.size) = some cs.size) : (execOp ρ o).run P w = .ok (.value (.agg cs)) w := by
  have hl := run_loadAt_mid w b off ty cs.toList d hc hu hd (by rw [hi, Array.length_toList])
  rw [Array.toArray_toList] at hl
  unfold execOp
  simp only [ho, hx, Sem.run_bind, hl, Result.andThen_ok]
  rfl
end

theorem exec_eq23 {ρ : Operand → Value} {o : Oper} (x y : Operand) (t : TypeId) (ho : o.op = .binOp .eql 23 x y t) (f h : Nat → B8) (hx : ρ x = .agg (ba 16 f)) (hy : ρ y = .agg (ba 16 h)) (w : World) :
    (execOp ρ o).run Try.prog w = .ok (.value (.bool (eq16 f h))) w := by
  have hl := run_eq23 x y f h w
  unfold execOp
  simp only [ho, hx, hy]
  rw [Sem.run_bind, hl, Result.andThen_ok]
  rfl
theorem exec_row0 {ρ : Operand → Value} {o : Oper} (x : Operand) (ho : o.op = .index 25 x (.const (.int .i64 0))) (wf : Nat → B8) (hx : ρ x = .agg (ba 176 wf)) (hc : ρ (.const (.int .i64 0)) = .int .i64 0) (w : World) :
    (execOp ρ o).run Try.prog w = .ok (.value (.agg (ba 16 wf))) w := by
  have hl := run_row0 wf w
  unfold execOp
  simp only [ho, hx, hc]
  rw [Sem.run_bind, hl, Result.andThen_ok]
  rfl
theorem exec_arr {ρ : Operand → Value} {o : Oper} (x : Operand) (ho : o.op = .sliceToArrayPointer 23 x) (a : Option Addr) (c : Nat) (hx : ρ x = .slice a 16 c) (w : World) :
    (execOp ρ o).run Try.prog w = .ok (.value (.pointer a)) w := by
  have hl := run_arr a c w
  unfold execOp
  simp only [ho, hx]
  rw [Sem.run_bind, hl, Result.andThen_ok]
  rfl

/-- The bytes of a string of sixteen, in memory of their own. -/
theorem bytes_run (d : ByteArray) (hd : d.size = 16) (w : World) : ∃ (c : Nat) (w' : World), (convert 9 34 (.string d)).run Try.prog w = .ok (.slice (some ⟨w.heap.size, 0, none⟩) 16 c) w' ∧ w'.rangeAt w.heap.size 0 (ba 16 (sb d)).toList ∧ Below w.heap.size w w' ∧ w.heap.size < w'.heap.size := by
  have h := run_bytes_of_string (P := Try.prog) w 9 34 5 d Try.underlying9 Try.underlying34 Try.underlying5
  rw [hd] at h
  refine ⟨_, _, h, ?_, ((Below.refl _ _).drew).alloc (Nat.le_refl _) _, by simp⟩
  intro j v hv
  have hj : j < 16 := by
    rcases Nat.lt_or_ge j 16 with h | h
    · exact h
    · rw [Array.getElem?_toList, Array.getElem?_eq_none (by rw [ba_size]; exact h)] at hv
      cases hv
  rw [Array.getElem?_toList, ba_get 16 _ j hj] at hv
  cases hv
  have hs : d.data.size = 16 := hd
  have hb := bytesRow_at d (grownCap w 16 0 5) j (by omega)
  have hn := heap_alloc_new w.drew (.cells (bytesRow d (grownCap w 16 0 5)) 5 ((bytesRow d (grownCap w 16 0 5)).size, (bytesRow d (grownCap w 16 0 5)).size + 1))
  have hc := cell_of_row _ w.heap.size (0 + j) _ 5 _ hn
  rw [Nat.zero_add] at hc ⊢
  rw [hc, hb]
  simp [sb, hs, hj]
end Go.Proofs.Ytiblkbkdfebfbaa.Aes
