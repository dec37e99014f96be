/- DrainTurns: a region whose last operations wait for all loads; both drains side by side; the walk of the law. The conditions: the numbers' widths; the tables are laid. -/
import Derived.OrdersHeld
import Derived.WalkKit
import Derived.Test.YthpmhjlndnelfaaDoorMyLeft
import Derived.Test.YthpmhjlndnelfaaDoorMyShares
namespace Go.Proofs.YthpmhjlndnelfaaDoor.Real
open Go

section
variable {P : Program} {ops : Array Oper} {Q : Exit → Go.Act → World → Prop} {md : Region.Mode} {S : Nat → World → World → Prop} {T : World → Prop} {n : Nat}

/-- Whatever order is picked: number i keeps what S i says. -/
def AnyUpTo (P : Program) (md : Region.Mode) (ops : Array Oper) (Q : Exit → Go.Act → World → Prop) (S : Nat → World → World → Prop) : Nat → Array Bool → Go.Act → World → Prop
  | 0, done, a, w => Region.ready md ops done = [] ∧ Q .normal a w
  | fuel + 1, done, a, w => (Region.ready md ops done = [] → Q .normal a w) ∧
      ∀ i, i ∈ Region.ready md ops done → wpOp P ops Q i (fun a' w' => S i w w' ∧ AnyUpTo P md ops Q S fuel (done.setIfInBounds i true) a' w') a w

theorem AnyUpTo.any : ∀ (fuel : Nat) (done : Array Bool) (a : Go.Act) (w : World), AnyUpTo P md ops Q S fuel done a w → wpAny P md ops Q fuel done a w := by
  intro fuel
  induction fuel with
  | zero => intro done a w h; exact h
  | succ fuel ih => intro done a w h; exact ⟨h.1, fun i hi => wpOp_mono (fun a' w' h' => ih _ a' w' h'.2) (h.2 i hi)⟩

/-- Each operation from n on waits for number i. -/
def TailWaits (md : Region.Mode) (ops : Array Oper) (n i : Nat) : Bool :=
  (List.range ops.size).all fun j => decide (j < n) || ((ops[j]?).map fun o => o.after.any fun e => Region.binds md e && e.on == i).getD false

theorem TailWaits.spec {i j : Nat} {o : Oper} (h : TailWaits md ops n i = true) (ho : ops[j]? = some o) (hn : n ≤ j) : ∃ e ∈ o.after, Region.binds md e = true ∧ e.on = i := by
  have hj : j < ops.size := (Array.getElem?_eq_some_iff.1 ho).1
  have := List.all_eq_true.1 h j (List.mem_range.2 hj)
  rw [Bool.or_eq_true] at this
  rcases this with h1 | h1
  · have := of_decide_eq_true h1
    omega
  · rw [ho, Option.map_some, Option.getD_some, Array.any_eq_true'] at h1
    obtain ⟨e, he, hb⟩ := h1
    rw [Bool.and_eq_true, beq_iff_eq] at hb
    exact ⟨e, he, hb.1, hb.2⟩

/-- A load that all the last operations wait for may be taken first. -/
theorem AnyUpTo.first {i : Nat} {o : Oper} {v : Value} (ho : ops[i]? = some o) (hs : Region.noSelect ops = true) (hQ : ∀ c a w, Q (.panic c) (a.put o.dst v) w → Q (.panic c) a w) (ht : TailWaits md ops n i = true) (hT : ∀ j, j < n → ∀ w w', S j w w' → T w → T w') (hSi : ∀ w, S i w w) :
    ∀ (fuel : Nat) (done : Array Bool) (a : Go.Act) (w : World),
      (∀ j oj, ops[j]? = some oj → j ≠ i → done.getD j true = false → (∀ e ∈ oj.after, Region.binds md e = true → e.on ≠ i) → o.apart ops oj = true) →
      i ∈ Region.ready md ops done → YieldsIf P ops T o v a → T w → AnyUpTo P md ops Q S fuel (done.setIfInBounds i true) (a.put o.dst v) w → AnyUpTo P md ops Q S (fuel + 1) done a w := by
  intro fuel
  induction fuel with
  | zero =>
    intro done a w _ hr hy hTw H
    refine ⟨fun h0 => (by rw [h0] at hr; cases hr), fun j hj => ?_⟩
    rcases Decidable.em (j = i) with e | e
    · subst e
      exact hy.wpOp ho hTw ⟨hSi _, H⟩
    · have h1 := ready_mono hj e
      rw [H.1] at h1
      cases h1
  | succ fuel ih =>
    intro done a w hf hr hy hTw H
    refine ⟨fun h0 => (by rw [h0] at hr; cases hr), fun j hj => ?_⟩
    rcases Decidable.em (j = i) with e | e
    · subst e
      exact hy.wpOp ho hTw ⟨hSi _, H⟩
    obtain ⟨hu, oj, hoj, hw⟩ := mem_ready.1 hj
    have hi0 : done.getD i true = false := (mem_ready.1 hr).1
    have hd : done.getD i false = false := by
      rcases Nat.lt_or_ge i done.size with l | l
      · simpa [l] using hi0
      · simp [Array.getElem?_eq_none l] at hi0
    have hno : ∀ e ∈ oj.after, Region.binds md e = true → e.on ≠ i := by
      intro e he hb heq
      have := hw e he hb
      rw [heq, hd] at this
      cases this
    have hjn : j < n := by
      rcases Nat.lt_or_ge j n with l | l
      · exact l
      · obtain ⟨e, he, hb, heq⟩ := TailWaits.spec ht hoj l
        exact absurd heq (hno e he hb)
    have h2 := wpOp_putIf hoj (hf j oj hoj e hu hno) (fun cs b => Region.noSelect_spec hs i o cs b ho) (fun cs b => Region.noSelect_spec hs j oj cs b hoj) hQ hy (H.2 j (ready_mono hj e))
    refine wpOp_mono (fun a' w' h3 => ⟨h3.2.1, ih (done.setIfInBounds j true) a' w' ?_ (ready_mono hr (Ne.symm e)) h3.1 (hT j hjn _ _ h3.2.1 hTw) ?_⟩) h2
    · intro k ok hk hki hun hno'
      refine hf k ok hk hki ?_ hno'
      rcases Decidable.em (j = k) with e2 | e2
      · subst e2; exact hu
      · rw [getD_set_ne true e2] at hun; exact hun
    · rw [Array.setIfInBounds_comm _ _ e]
      exact h3.2.2

theorem AnyUpTo.take {i : Nat} {o : Oper} {v : Value} {fuel : Nat} {done : Array Bool} {a : Go.Act} {w : World} (ho : ops[i]? = some o) (hs : Region.noSelect ops = true) (hf : Region.free md ops done i = true)
    (hr : (Region.ready md ops done).contains i = true) (ht : TailWaits md ops n i = true) (hT : ∀ j, j < n → ∀ w w', S j w w' → T w → T w') (hSi : ∀ w, S i w w) (hQ : ∀ c a w, Q (.panic c) (a.put o.dst v) w → Q (.panic c) a w) (hw : Region.wanted o (yielded ops a.tmps) = true)
    (hy : ∀ w, T w → (execOp a.eval o).run P w = .ok (.value v) w) (hS : T w) (h : AnyUpTo P md ops Q S fuel (done.setIfInBounds i true) (a.put o.dst v) w) : AnyUpTo P md ops Q S (fuel + 1) done a w :=
  AnyUpTo.first ho hs hQ ht hT hSi fuel done a w (Region.free_spec ho hf) (by simpa using hr) (.inl ⟨hw, hy⟩) hS h

/-- The one operation that may come up. -/
theorem AnyUpTo.only {i : Nat} {o : Oper} {fuel : Nat} {done : Array Bool} {a : Go.Act} {w : World} (hr : Region.ready md ops done = [i]) (ho : ops[i]? = some o) (hw : Region.wanted o (yielded ops a.tmps) = true)
    (h : ∀ K : Go.Act → World → Prop, (∀ a' w', S i w w' → AnyUpTo P md ops Q S fuel (done.setIfInBounds i true) a' w' → K a' w') → o.wp P a w K Q) : AnyUpTo P md ops Q S (fuel + 1) done a w := by
  refine ⟨fun h0 => (by rw [h0] at hr; cases hr), fun j hj => ?_⟩
  rw [hr, List.mem_singleton] at hj
  subst hj
  unfold wpOp
  rw [ho]
  simp only [hw, if_true]
  exact .inl (h _ fun a' w' h1 h2 => ⟨h1, h2⟩)

theorem AnyUpTo.done_ {done : Array Bool} {a : Go.Act} {w : World} (hr : Region.ready md ops done = []) (h : Q .normal a w) : AnyUpTo P md ops Q S 0 done a w := ⟨hr, h⟩

theorem AnyUpTo.begin {id : Nat} {a : Go.Act} {w : World} (S : Nat → World → World → Prop) (hm : P.follows .mixedOrders = true) (h : AnyUpTo P .any ops Q S ops.size (Array.replicate ops.size false) a w.drew) : (Code.region id ops true).wp P Q a w :=
  wp_region_any hm (AnyUpTo.any _ _ _ _ h)
end
end Go.Proofs.YthpmhjlndnelfaaDoor.Real

namespace Go.Proofs.YthpmhjlndnelfaaDoor.Real
open Go.RowKit Go.Lib Go.Proofs.YthpmhjlndnelfaaDoorW.PrintWords PDrainTurns

/-- The document's drain, as a value; the cells of it. -/
abbrev qv (s d c f : Int) : Value := .agg #[.int .i64 s, .int .u64 d, .int .u64 c, .int .u64 f]
abbrev qc (s d c f : Int) : Array Value := #[.int .i64 s, .int .u64 d, .int .u64 c, .int .u64 f]

/-- A number of 64 bits. -/
abbrev W64 (a : Int) : Prop := 0 ≤ a ∧ a < 18446744073709551616

/-- What a drain is: the program's fields, and the document's state. -/
inductive St : Bool → Bool → Int → Int → Int → Int → Prop
  | off : St false false 0 0 0 0
  | on (d c : Int) (hd : W64 d) (hc : W64 c) : St true false d c 0 1
  | over (d c f : Int) (hd : W64 d) (hc : W64 c) (hf : W64 f) : St true true d c f 2

theorem sat_w (a b : Int) (ha : W64 a) (hb : W64 b) : W64 (sat a b) := sat_bounds a b ha.1 hb.1
theorem add_w (a b : Int) (ha : W64 a) (hb : W64 b) : word_Add.f a b = some (sat a b) := add_sat a b ha.1 ha.2 hb.1 hb.2
theorem later_w (a b : Int) (ha : W64 a) (hb : W64 b) : vagabondref01_Later.f a b = some (sat a b) := later_sat a b ha.1 ha.2 hb.1 hb.2
theorem wrap_w (n : Int) : W64 (IntKind.u64.wrap n) := by rw [IntKind.wrap_u64]; constructor <;> omega
theorem zero_w : W64 0 := ⟨by omega, by omega⟩

set_option maxRecDepth 100000 in
theorem rclosed_off (s d c f n : Int) (h : s ≠ 1) (w : World) :
    Calls Tryd.prog 43 #[qv s d c f, .int .u64 n] w fun e w' => e = .returned (qv s d c f) ∧ Below w.heap.size w w' := by
  have hu63 := Tryd.underlying63
  have h1 : (s == 1) = false := beq_eq_false_iff_ne.2 h
  clear h
  go_enter Tryd.func43, Tryd.ntmps43
  go_wp2
  refine bodyPost_ret (v := qv s d c f) (by simp [results, Tryd.results43, go_sem]) rfl ⟨rfl, ?_⟩
  repeat (with_reducible first | exact Below.refl _ _ | apply below_alloc | apply pw_below_drewN | apply below_drew1 | refine below_set ?_ (Nat.le_refl _) | refine below_set ?_ (Nat.le_succ _))

set_option maxRecDepth 100000 in
theorem rclosed_on (d c f n s : Int) (hs : vagabondref01_Later.f c n = some s) (w : World) :
    Calls Tryd.prog 43 #[qv 1 d c f, .int .u64 n] w fun e w' => e = .returned (qv 1 d s f) ∧ Below w.heap.size w w' := by
  have hu63 := Tryd.underlying63
  have HA := Aside0.mk (fun W => vagabondref01_Later.calls c n s W hs)
  clear hs
  go_enter Tryd.func43, Tryd.ntmps43
  go_wp2_with (go_at_call 48; refine (HA.out _).mono ?_; rintro e w' ⟨rfl, ⟨n1, rfl⟩⟩)
  refine bodyPost_ret (v := qv 1 d s f) (by simp [results, Tryd.results43, go_sem]) rfl ⟨rfl, ?_⟩
  repeat (with_reducible first | exact Below.refl _ _ | apply below_alloc | apply pw_below_drewN | apply below_drew1 | refine below_set ?_ (Nat.le_refl _) | refine below_set ?_ (Nat.le_succ _))

theorem begin_both {b o : Bool} {d c f s : Int} (h : St b o d c f s) (now n : Int) (hn : W64 now) (hm : W64 n) :
    ∃ b' o' d' c' f' s' k, St b' o' d' c' f' s' ∧
      (∀ w, Calls Tryd.prog 29 #[dv b o d c f, .int .u64 now, .int .u64 n] w fun e w' => e = .returned (.tuple #[dv b' o' d' c' f', .int .i64 k]) ∧ Below w.heap.size w w') ∧
      (∀ w, Calls Tryd.prog 42 #[qv s d c f, .int .u64 now, .int .u64 n] w fun e w' => e = .returned (.tuple #[qv s' d' c' f', .int .i64 k]) ∧ Below w.heap.size w w') := by
  cases h with
  | off =>
    refine ⟨_, _, _, _, _, _, _, .on (sat now n) 0 (sat_w _ _ hn hm) zero_w, fun w => begin_off false 0 0 0 now n _ (add_w now n hn hm) w, fun w => vagabondref25_Begin.calls 0 0 0 0 now n 1 (sat now n) 0 0 0 w ?_⟩
    unfold vagabondref25_Begin.f
    rw [if_neg (by omega), later_w now n hn hm]
    rfl
  | on d c hd hc =>
    refine ⟨_, _, _, _, _, _, _, .on d c hd hc, fun w => begin_on false d c 0 now n w, fun w => vagabondref25_Begin.calls 1 d c 0 now n 1 d c 0 17 w ?_⟩
    unfold vagabondref25_Begin.f
    rw [if_pos (by omega)]
  | over d c f hd hc hf =>
    refine ⟨_, _, _, _, _, _, _, .over d c f hd hc hf, fun w => begin_on true d c f now n w, fun w => vagabondref25_Begin.calls 2 d c f now n 2 d c f 17 w ?_⟩
    unfold vagabondref25_Begin.f
    rw [if_pos (by omega)]

theorem closed_both {b o : Bool} {d c f s : Int} (h : St b o d c f s) (n : Int) (hm : W64 n) :
    ∃ b' o' d' c' f' s', St b' o' d' c' f' s' ∧
      (∀ w, Calls Tryd.prog 32 #[dv b o d c f, .int .u64 n] w fun e w' => e = .returned (dv b' o' d' c' f') ∧ Below w.heap.size w w') ∧
      (∀ w, Calls Tryd.prog 43 #[qv s d c f, .int .u64 n] w fun e w' => e = .returned (qv s' d' c' f') ∧ Below w.heap.size w w') := by
  cases h with
  | off => exact ⟨_, _, _, _, _, _, .off, fun w => closed_off false false 0 0 0 n rfl w, fun w => rclosed_off 0 0 0 0 n (by omega) w⟩
  | on d c hd hc => exact ⟨_, _, _, _, _, _, .on d (sat c n) hd (sat_w _ _ hc hm), fun w => closed_on d c 0 n _ (add_w c n hc hm) w, fun w => rclosed_on d c 0 n _ (later_w c n hc hm) w⟩
  | over d c f hd hc hf => exact ⟨_, _, _, _, _, _, .over d c f hd hc hf, fun w => closed_off true true d c f n rfl w, fun w => rclosed_off 2 d c f n (by omega) w⟩

theorem tick_both {b o : Bool} {d c f s : Int} (h : St b o d c f s) (now n : Int) :
    ∃ b' o' d' c' f' s' k, St b' o' d' c' f' s' ∧
      (∀ w, Calls Tryd.prog 30 #[dv b o d c f, .int .u64 now, .int .i64 n] w fun e w' => e = .returned (.tuple #[dv b' o' d' c' f', .bool k]) ∧ Below w.heap.size w w') ∧
      (∀ w, Calls Tryd.prog 44 #[qv s d c f, .int .u64 now, .int .i64 n] w fun e w' => e = .returned (.tuple #[qv s' d' c' f', .bool k]) ∧ Below w.heap.size w w') := by
  cases h with
  | off =>
    refine ⟨_, _, _, _, _, _, _, .off, fun w => tick_idle false false 0 0 0 now n rfl w, fun w => vagabondref25_Tick.calls 0 0 0 0 now n 0 0 0 0 false w ?_⟩
    unfold vagabondref25_Tick.f
    rw [if_neg (by omega)]
  | on d c hd hc =>
    by_cases h1 : n < 1
    · refine ⟨_, _, _, _, _, _, _, .over d c 0 hd hc zero_w, fun w => tick_none d c 0 now n h1 w, fun w => vagabondref25_Tick.calls 1 d c 0 now n 2 d c 0 false w ?_⟩
      unfold vagabondref25_Tick.f
      rw [if_pos rfl, if_pos h1]
    · by_cases h2 : now < d
      · refine ⟨_, _, _, _, _, _, _, .on d c hd hc, fun w => tick_wait d c 0 now n h1 h2 w, fun w => vagabondref25_Tick.calls 1 d c 0 now n 1 d c 0 false w ?_⟩
        unfold vagabondref25_Tick.f
        rw [if_pos rfl, if_neg h1, if_pos h2]
      · refine ⟨_, _, _, _, _, _, _, .over d c (sat 0 (IntKind.u64.wrap n)) hd hc (sat_w _ _ zero_w (wrap_w n)), fun w => tick_force d c 0 now n _ h1 h2 (add_w 0 _ zero_w (wrap_w n)) w, fun w => vagabondref25_Tick.calls 1 d c 0 now n 2 d c (sat 0 (IntKind.u64.wrap n)) true w ?_⟩
        unfold vagabondref25_Tick.f
        rw [if_pos rfl, if_neg h1, if_neg h2, later_w 0 _ zero_w (wrap_w n)]
        rfl
  | over d c f hd hc hf =>
    refine ⟨_, _, _, _, _, _, _, .over d c f hd hc hf, fun w => tick_idle true true d c f now n rfl w, fun w => vagabondref25_Tick.calls 2 d c f now n 2 d c f false w ?_⟩
    unfold vagabondref25_Tick.f
    rw [if_neg (by omega)]
end Go.Proofs.YthpmhjlndnelfaaDoor.Real

namespace Go.Proofs.YthpmhjlndnelfaaDoor.Real
open Go.RowKit Go.Lib Go.Proofs.YthpmhjlndnelfaaDoorW.PrintWords PDrainTurns

set_option linter.unusedSimpArgs false
/-- Both drains, in their boxes. -/
def Both (w0 : World) (g : Nat) (wr : World) : Prop :=
  ∃ (b o : Bool) (d c f s : Int), St b o d c f s ∧ Bx wr g (dc b o d c f) 41 ∧ Bx wr (g + 1) (qc s d c f) 63 ∧ Below w0.heap.size w0 wr
/-- Behind k turns. -/
def TurnsRel (w0 : World) (g n : Nat) (i : Value) (wr : World) : Prop := ∃ k : Nat, k ≤ n ∧ i = .int .i64 (k : Int) ∧ Both w0 g wr

theorem ac_two (a : Act) : (ac a)[2]? = some (.int .u64 a.n) := rfl
def InD (G gA : Nat) (b o : Bool) (d c f n : Int) (w : World) : Prop := w.cell? ⟨G, 0, none⟩ = some (.bool b) ∧ w.cell? ⟨G, 1, none⟩ = some (.bool o) ∧ w.cell? ⟨G, 2, none⟩ = some (.int .u64 d) ∧ w.cell? ⟨G, 3, none⟩ = some (.int .u64 c) ∧ w.cell? ⟨G, 4, none⟩ = some (.int .u64 f) ∧ w.cell? ⟨gA, 2, none⟩ = some (.int .u64 n)
def InQ (G gA : Nat) (s d c f n : Int) (w : World) : Prop := w.cell? ⟨G + 1, 0, none⟩ = some (.int .i64 s) ∧ w.cell? ⟨G + 1, 1, none⟩ = some (.int .u64 d) ∧ w.cell? ⟨G + 1, 2, none⟩ = some (.int .u64 c) ∧ w.cell? ⟨G + 1, 3, none⟩ = some (.int .u64 f) ∧ w.cell? ⟨gA, 2, none⟩ = some (.int .u64 n)
def Keeps (T1 T2 : World → Prop) (j : Nat) (w w' : World) : Prop := (j < 8 → T1 w → T1 w') ∧ (j < 9 → T2 w → T2 w')
theorem box_four {w : World} {g : Nat} {s d c f : Int} (h : Bx w g (qc s d c f) 63) (s' d' c' f' : Int) :
    Bx ((((w.setCell ⟨g, 0, none⟩ (.int .i64 s')).setCell ⟨g, 1, none⟩ (.int .u64 d')).setCell ⟨g, 2, none⟩ (.int .u64 c')).setCell ⟨g, 3, none⟩ (.int .u64 f')) g (qc s' d' c' f') 63 :=
  blk_put (blk_put (blk_put (blk_put h 0 _ rfl) 1 _ rfl) 2 _ rfl) 3 _ rfl
theorem far_four {w : World} {g g' : Nat} {cs : Array Value} {t : TypeId} (hne : g ≠ g') (h : w.heap[g]? = some (.cells cs t (0, 0))) (v0 v1 v2 v3 : Value) :
    Bx ((((w.setCell ⟨g', 0, none⟩ v0).setCell ⟨g', 1, none⟩ v1).setCell ⟨g', 2, none⟩ v2).setCell ⟨g', 3, none⟩ v3) g cs t :=
  blk_far (blk_far (blk_far (blk_far h hne _) hne _) hne _) hne _
theorem below_four {w W : World} {g : Nat} (h : Below w.heap.size w W) (hg : w.heap.size ≤ g) (v0 v1 v2 v3 : Value) :
    Below w.heap.size w ((((W.setCell ⟨g, 0, none⟩ v0).setCell ⟨g, 1, none⟩ v1).setCell ⟨g, 2, none⟩ v2).setCell ⟨g, 3, none⟩ v3) :=
  below_set (below_set (below_set (below_set h hg) hg) hg) hg

theorem St.split {b o : Bool} {d c f s : Int} (h : St b o d c f s) : (b = false ∧ o = false ∧ d = 0 ∧ c = 0 ∧ f = 0 ∧ s = 0) ∨ (b = true ∧ o = false ∧ f = 0 ∧ s = 1 ∧ W64 d ∧ W64 c) ∨ (b = true ∧ o = true ∧ s = 2 ∧ W64 d ∧ W64 c ∧ W64 f) := by
  cases h with
  | off => exact .inl ⟨rfl, rfl, rfl, rfl, rfl, rfl⟩
  | on _ _ hd hc => exact .inr (.inl ⟨rfl, rfl, rfl, rfl, hd, hc⟩)
  | over _ _ _ hd hc hf => exact .inr (.inr ⟨rfl, rfl, rfl, hd, hc, hf⟩)
theorem ord_nan : FloatKind.f64.format.order 9221120237041090561 9221120237041090561 = none := by decide +kernel
theorem conv_z (cc : Int) (h : 0 ≤ cc) (W : World) : (convert 29 22 (.int .u64 cc)).run Tryd.prog W = .ok (.float .f64 (nr cc.toNat 0)) W := by
  have := conv_at cc.toNat W
  rw [Int.toNat_of_nonneg h] at this
  exact this
theorem left_some' (b : Bool) (d cc a f : Int) (hs : word_Add.f cc f = some a) (hc : 0 ≤ cc) (h0 : a ≠ 0) (hca : cc ≤ a) (ha : a < 18446744073709551616) (w : World) :
    Calls Tryd.prog 49 #[dv b true d cc f] w fun e w' => e = .returned (.float .f64 (qt cc.toNat a.toNat)) ∧ Below w.heap.size w w' := by
  have := left_some b d cc.toNat a.toNat f (by rw [Int.toNat_of_nonneg hc, Int.toNat_of_nonneg (by omega)]; exact hs) (by omega) (by omega) (by omega) w
  rw [Int.toNat_of_nonneg hc] at this
  exact this
theorem sat_ge (a b : Int) (ha : W64 a) (hb : W64 b) : a ≤ sat a b := by
  have := ha.2
  have := hb.1
  unfold sat
  split <;> omega

set_option maxRecDepth 100000 in
set_option maxHeartbeats 8000000 in
theorem turns_short (A : Option Addr) (l : List Act) (c : Nat) (w : World) (ht : Tabs w) (hl : l.length ≤ 60) (ta : Acts w A l) :
    Calls Tryd.prog 11 #[.slice A l.length c] w fun e w' => e = .returned (.bool true) ∧ Below w.heap.size w w' := by
  have hu41 := Tryd.underlying41
  have hu63 := Tryd.underlying63
  have HT := Aside0.mk ht
  have TA := Aside0.mk ta
  have HL := Aside0.mk hl
  have hl' : (l.length : Int) ≤ 60 := by omega
  clear ht ta hl
  go_enter Tryd.func11, Tryd.ntmps11
  go_wp2_with (go_at_call 28; refine (awake25 _ HT.out).mono ?_; rintro e w1 ⟨rfl, hb1⟩; have HB1 := Aside0.mk hb1; clear hb1)
  have hG : w.heap.size ≤ w1.heap.size := HB1.out.size
  have HS : Aside0 (Both w w1.heap.size ((w1.alloc (.cells (dc false false 0 0 0) 41)).alloc (.cells (qc 0 0 0 0) 63))) := by
    refine ⟨_, _, _, _, _, _, .off, blk_alloc (blk_new _ _) _, ?_, below_alloc (below_alloc HB1.out _) _⟩
    have h := blk_new (w1.alloc (.cells (dc false false 0 0 0) 41)) (.cells (qc 0 0 0 0) 63)
    rwa [show (w1.alloc (.cells (dc false false 0 0 0) 41)).heap.size = w1.heap.size + 1 by simp] at h
  generalize w1.heap.size = G at *
  go_loopw [28] (fun i wr => TurnsRel w G l.length i wr) (fun i _ => l.length - (RowKit.intOf i).toNat)
  case atStart => exact ⟨0, Nat.zero_le _, rfl, HS.out⟩
  case round =>
    obtain ⟨k, hk, rfl, b, o, d, cc, f, s, hst, hbd, hbq, hbel⟩ := hrel
    have ST := Aside0.mk hst
    have BD := Aside0.mk hbd
    have BQ := Aside0.mk hbq
    have HW := Aside0.mk hbel
    have cBD := blk_cell hbd
    have fBD := blk_frozen hbd
    have zBD := blk_lt hbd
    have cBQ := blk_cell hbq
    have fBQ := blk_frozen hbq
    have zBQ := blk_lt hbq
    by_cases hlt : k < l.length
    · obtain ⟨a, ha⟩ : ∃ a, l[k]? = some a := ⟨_, List.getElem?_eq_getElem hlt⟩
      obtain ⟨ok, ad, rfl, x0, x1, x2, x3⟩ := TA.out.at hbel ha
      have OK := Aside0.mk ok
      have hg0 := ok.go0
      have hg1 := ok.go1
      clear ok hbel ha hbd hbq hst HS
      go_upto_block 2 with fail
      go_cut [28] (fun i wx => i = .int .i64 (k : Int) ∧ Both w G wx)
      case first =>
        have hgo : (a.go % 3 == 0) = true ∨ (a.go % 3 == 0) = false ∧ (a.go % 3 == 1) = true ∨ (a.go % 3 == 0) = false ∧ (a.go % 3 == 1) = false := by cases (a.go % 3 == 0) <;> cases (a.go % 3 == 1) <;> simp
        rcases hgo with h0 | ⟨h0, h1⟩ | ⟨h0, h1⟩
        · obtain ⟨b', o', d', c', f', s', kk, st', hB, hR⟩ := begin_both ST.out a.now a.n ⟨OK.out.now0, OK.out.now1⟩ ⟨OK.out.n0, OK.out.n1⟩
          have H1 := Aside0.mk hB
          have H2 := Aside0.mk hR
          have S2 := Aside0.mk st'
          clear hB hR st'
          go_wp2_with (first
            | ((go_at_call 29; with_reducible refine (H1.out _).mono ?_); rintro e w3 ⟨rfl, hb⟩; have nBD := Aside0.mk (blk_below (blk_alloc BD.out _) hb); have nBQ := Aside0.mk (blk_below (blk_alloc BQ.out _) hb); have nBA := Aside0.mk (blk_below (blk_new _ _) hb); have nW := Aside0.mk (bel_step (below_alloc HW.out _) hb); clear hb; (try clear cBD); (try clear fBD); (try clear zBD); (try clear BD); have BD := nBD; clear nBD; have cBD := blk_cell BD.out; have fBD := blk_frozen BD.out; have zBD := blk_lt BD.out; (try clear cBQ); (try clear fBQ); (try clear zBQ); (try clear BQ); have BQ := nBQ; clear nBQ; have cBQ := blk_cell BQ.out; have fBQ := blk_frozen BQ.out; have zBQ := blk_lt BQ.out; (try clear cBA); (try clear fBA); (try clear zBA); (try clear BA); have BA := nBA; clear nBA; have cBA := blk_cell BA.out; have fBA := blk_frozen BA.out; have zBA := blk_lt BA.out; (try clear HW); have HW := nW; clear nW)
            | ((go_at_call 42; with_reducible refine (H2.out _).mono ?_); rintro e w4 ⟨rfl, hb⟩; have nBD := Aside0.mk (blk_below (blk_alloc BD.out _) hb); have nBQ := Aside0.mk (blk_below (blk_alloc BQ.out _) hb); have nBA := Aside0.mk (blk_below (blk_alloc BA.out _) hb); have nBX := Aside0.mk (blk_below (blk_new _ _) hb); have nW := Aside0.mk (bel_step (below_alloc HW.out _) hb); clear hb; (try clear cBD); (try clear fBD); (try clear zBD); (try clear BD); have BD := nBD; clear nBD; have cBD := blk_cell BD.out; have fBD := blk_frozen BD.out; have zBD := blk_lt BD.out; (try clear cBQ); (try clear fBQ); (try clear zBQ); (try clear BQ); have BQ := nBQ; clear nBQ; have cBQ := blk_cell BQ.out; have fBQ := blk_frozen BQ.out; have zBQ := blk_lt BQ.out; (try clear cBA); (try clear fBA); (try clear zBA); (try clear BA); have BA := nBA; clear nBA; have cBA := blk_cell BA.out; have fBA := blk_frozen BA.out; have zBA := blk_lt BA.out; (try clear cBX); (try clear fBX); (try clear zBX); (try clear BX); have BX := nBX; clear nBX; have cBX := blk_cell BX.out; have fBX := blk_frozen BX.out; have zBX := blk_lt BX.out; (try clear HW); have HW := nW; clear nW))
          have BY0 : Bx (w4.alloc (.cells (qc s' d' c' f') 63)) w4.heap.size (qc s' d' c' f') 63 := blk_new _ _
          have BD0 : Bx (w4.alloc (.cells (qc s' d' c' f') 63)) G (dc b o d cc f) 41 := blk_alloc BD.out _
          have BQ0 : Bx (w4.alloc (.cells (qc s' d' c' f') 63)) (G + 1) (qc s d cc f) 63 := blk_alloc BQ.out _
          have BX0 : Bx (w4.alloc (.cells (qc s' d' c' f') 63)) w3.heap.size (dc b' o' d' c' f') 41 := blk_alloc BX.out _
          have HW0 := below_alloc HW.out (.cells (qc s' d' c' f') 63)
          generalize w4.alloc (.cells (qc s' d' c' f') 63) = W5 at *
          have cBD := blk_cell BD0
          have fBD := blk_frozen BD0
          have zBD := blk_lt BD0
          have cBQ := blk_cell BQ0
          have fBQ := blk_frozen BQ0
          have zBQ := blk_lt BQ0
          have cBX := blk_cell BX0
          have cBY := blk_cell BY0
          have ZD := Aside0.mk BD0
          have ZQ := Aside0.mk BQ0
          have ZW := Aside0.mk HW0
          clear BD0 BQ0 BX0 BY0 HW0
          go_region
          go_wp2
          go_meet
          case rel => exact ⟨rfl, b', o', d', c', f', s', S2.out, blk_drew (far_four (Nat.ne_of_lt (Nat.lt_succ_self _)) (box_five ZD.out _ _ _ _ _) _ _ _ _), blk_drew (box_four (far_five (Nat.ne_of_gt (Nat.lt_succ_self _)) ZQ.out _ _ _ _ _) _ _ _ _), below_drew1 (below_four (below_five ZW.out hG _ _ _ _ _) (Nat.le_succ_of_le hG) _ _ _ _)⟩
        · obtain ⟨b', o', d', c', f', s', st', hB, hR⟩ := closed_both ST.out a.n ⟨OK.out.n0, OK.out.n1⟩
          have H1 := Aside0.mk hB
          have H2 := Aside0.mk hR
          have S2 := Aside0.mk st'
          clear hB hR st'
          go_wp2
          have BA0 : Bx (wr.alloc (.cells (ac a) 46)) wr.heap.size (ac a) 46 := blk_new _ _
          have BD0 : Bx (wr.alloc (.cells (ac a) 46)) G (dc b o d cc f) 41 := blk_alloc BD.out _
          have BQ0 : Bx (wr.alloc (.cells (ac a) 46)) (G + 1) (qc s d cc f) 63 := blk_alloc BQ.out _
          have HW0 := below_alloc HW.out (.cells (ac a) 46)
          have ZG := Aside0.mk zBD
          have ZH := Aside0.mk zBQ
          clear BD BQ HW cBD fBD zBD cBQ fBQ zBQ x0 x1 x2 x3
          generalize wr.alloc (.cells (ac a) 46) = W5 at *
          have cBD := blk_cell BD0
          have fBD := blk_frozen BD0
          have zBD := blk_lt BD0
          have cBQ := blk_cell BQ0
          have fBQ := blk_frozen BQ0
          have zBQ := blk_lt BQ0
          have cBA := blk_cell BA0
          have fBA := blk_frozen BA0
          have zBA := blk_lt BA0
          have BD := Aside0.mk (blk_drew BD0)
          have BQ := Aside0.mk (blk_drew BQ0)
          have BA := Aside0.mk (blk_drew BA0)
          have HW := Aside0.mk (below_drew1 HW0)
          clear BD0 BQ0 BA0 HW0
          have HGA := Aside0.mk (Nat.ne_of_gt ZG.out)
          have HS : Aside0 (InD G wr.heap.size b o d cc f a.n W5.drew ∧ InQ G wr.heap.size s d cc f a.n W5.drew) := ⟨⟨(blk_cell BD.out 0).trans rfl, (blk_cell BD.out 1).trans rfl, (blk_cell BD.out 2).trans rfl, (blk_cell BD.out 3).trans rfl, (blk_cell BD.out 4).trans rfl, (blk_cell BA.out 2).trans rfl⟩, ⟨(blk_cell BQ.out 0).trans rfl, (blk_cell BQ.out 1).trans rfl, (blk_cell BQ.out 2).trans rfl, (blk_cell BQ.out 3).trans rfl, (blk_cell BA.out 2).trans rfl⟩⟩
          refine AnyUpTo.begin (Keeps (InD G wr.heap.size b o d cc f a.n) (InQ G wr.heap.size s d cc f a.n)) (by kernel_rfl) ?_
          refine AnyUpTo.take (i := 0) (v := dv b o d cc f) (T := InD G wr.heap.size b o d cc f a.n) (n := 8) rfl (by kernel_rfl) (by kernel_rfl) (by kernel_rfl) (by kernel_rfl) (fun j hj w1 w2 h hh => h.1 hj hh) (fun w1 => ⟨fun _ h => h, fun _ h => h⟩) (fun _ _ _ h => h) (by rfl) (fun w' hS' => ?_) HS.out.1 ?_
          · obtain ⟨s0, s1, s2, s3, s4, s5⟩ := hS'
            go_simp
          try simp only [Act.put, List.setIfInBounds_toArray, List.set_cons_zero, List.set_cons_succ]
          refine AnyUpTo.take (i := 1) (v := .pointer (some ⟨wr.heap.size, 2, none⟩)) (T := InD G wr.heap.size b o d cc f a.n) (n := 8) rfl (by kernel_rfl) (by kernel_rfl) (by kernel_rfl) (by kernel_rfl) (fun j hj w1 w2 h hh => h.1 hj hh) (fun w1 => ⟨fun _ h => h, fun _ h => h⟩) (fun _ _ _ h => h) (by rfl) (fun w' hS' => ?_) HS.out.1 ?_
          · obtain ⟨s0, s1, s2, s3, s4, s5⟩ := hS'
            go_simp
          try simp only [Act.put, List.setIfInBounds_toArray, List.set_cons_zero, List.set_cons_succ]
          refine AnyUpTo.take (i := 2) (v := .int .u64 a.n) (T := InD G wr.heap.size b o d cc f a.n) (n := 8) rfl (by kernel_rfl) (by kernel_rfl) (by kernel_rfl) (by kernel_rfl) (fun j hj w1 w2 h hh => h.1 hj hh) (fun w1 => ⟨fun _ h => h, fun _ h => h⟩) (fun _ _ _ h => h) (by rfl) (fun w' hS' => ?_) HS.out.1 ?_
          · obtain ⟨s0, s1, s2, s3, s4, s5⟩ := hS'
            go_simp
          try simp only [Act.put, List.setIfInBounds_toArray, List.set_cons_zero, List.set_cons_succ]
          refine AnyUpTo.take (i := 4) (v := qv s d cc f) (T := InQ G wr.heap.size s d cc f a.n) (n := 9) rfl (by kernel_rfl) (by kernel_rfl) (by kernel_rfl) (by kernel_rfl) (fun j hj w1 w2 h hh => h.2 hj hh) (fun w1 => ⟨fun _ h => h, fun _ h => h⟩) (fun _ _ _ h => h) (by rfl) (fun w' hS' => ?_) HS.out.2 ?_
          · obtain ⟨s0, s1, s2, s3, s4⟩ := hS'
            go_simp
          try simp only [Act.put, List.setIfInBounds_toArray, List.set_cons_zero, List.set_cons_succ]
          refine AnyUpTo.take (i := 5) (v := .pointer (some ⟨wr.heap.size, 2, none⟩)) (T := InQ G wr.heap.size s d cc f a.n) (n := 9) rfl (by kernel_rfl) (by kernel_rfl) (by kernel_rfl) (by kernel_rfl) (fun j hj w1 w2 h hh => h.2 hj hh) (fun w1 => ⟨fun _ h => h, fun _ h => h⟩) (fun _ _ _ h => h) (by rfl) (fun w' hS' => ?_) HS.out.2 ?_
          · obtain ⟨s0, s1, s2, s3, s4⟩ := hS'
            go_simp
          try simp only [Act.put, List.setIfInBounds_toArray, List.set_cons_zero, List.set_cons_succ]
          refine AnyUpTo.take (i := 6) (v := .int .u64 a.n) (T := InQ G wr.heap.size s d cc f a.n) (n := 9) rfl (by kernel_rfl) (by kernel_rfl) (by kernel_rfl) (by kernel_rfl) (fun j hj w1 w2 h hh => h.2 hj hh) (fun w1 => ⟨fun _ h => h, fun _ h => h⟩) (fun _ _ _ h => h) (by rfl) (fun w' hS' => ?_) HS.out.2 ?_
          · obtain ⟨s0, s1, s2, s3, s4⟩ := hS'
            go_simp
          try simp only [Act.put, List.setIfInBounds_toArray, List.set_cons_zero, List.set_cons_succ]
          refine AnyUpTo.only (i := 3) (by kernel_rfl) rfl (by rfl) (fun K hK => ?_)
          go_simp
          ((go_at_call 32; with_reducible refine (H1.out _).mono ?_); rintro e w3 ⟨rfl, hb⟩; have nBD := Aside0.mk (blk_below (BD.out) hb); have nBQ := Aside0.mk (blk_below (BQ.out) hb); have nBA := Aside0.mk (blk_below (BA.out) hb); have nW := Aside0.mk (bel_step HW.out hb); clear hb; (try clear cBD); (try clear fBD); (try clear zBD); (try clear BD); have BD := nBD; clear nBD; have cBD := blk_cell BD.out; have fBD := blk_frozen BD.out; have zBD := blk_lt BD.out; (try clear cBQ); (try clear fBQ); (try clear zBQ); (try clear BQ); have BQ := nBQ; clear nBQ; have cBQ := blk_cell BQ.out; have fBQ := blk_frozen BQ.out; have zBQ := blk_lt BQ.out; (try clear cBA); (try clear fBA); (try clear zBA); (try clear BA); have BA := nBA; clear nBA; have cBA := blk_cell BA.out; have fBA := blk_frozen BA.out; have zBA := blk_lt BA.out; (try clear HW); have HW := nW; clear nW)
          refine hK _ _ ⟨fun _ _ => ⟨(blk_cell BD.out 0).trans rfl, (blk_cell BD.out 1).trans rfl, (blk_cell BD.out 2).trans rfl, (blk_cell BD.out 3).trans rfl, (blk_cell BD.out 4).trans rfl, (blk_cell BA.out 2).trans rfl⟩, fun _ _ => ⟨(blk_cell BQ.out 0).trans rfl, (blk_cell BQ.out 1).trans rfl, (blk_cell BQ.out 2).trans rfl, (blk_cell BQ.out 3).trans rfl, (blk_cell BA.out 2).trans rfl⟩⟩ ?_
          clear hK K
          try simp only [Act.put, List.setIfInBounds_toArray, List.set_cons_zero, List.set_cons_succ]
          refine AnyUpTo.only (i := 7) (by kernel_rfl) rfl (by rfl) (fun K hK => ?_)
          go_simp
          ((go_at_call 43; with_reducible refine (H2.out _).mono ?_); rintro e w4 ⟨rfl, hb⟩; have nBD := Aside0.mk (blk_below (BD.out) hb); have nBQ := Aside0.mk (blk_below (BQ.out) hb); have nBA := Aside0.mk (blk_below (BA.out) hb); have nW := Aside0.mk (bel_step HW.out hb); clear hb; (try clear cBD); (try clear fBD); (try clear zBD); (try clear BD); have BD := nBD; clear nBD; have cBD := blk_cell BD.out; have fBD := blk_frozen BD.out; have zBD := blk_lt BD.out; (try clear cBQ); (try clear fBQ); (try clear zBQ); (try clear BQ); have BQ := nBQ; clear nBQ; have cBQ := blk_cell BQ.out; have fBQ := blk_frozen BQ.out; have zBQ := blk_lt BQ.out; (try clear cBA); (try clear fBA); (try clear zBA); (try clear BA); have BA := nBA; clear nBA; have cBA := blk_cell BA.out; have fBA := blk_frozen BA.out; have zBA := blk_lt BA.out; (try clear HW); have HW := nW; clear nW)
          refine hK _ _ ⟨fun _ _ => ⟨(blk_cell BD.out 0).trans rfl, (blk_cell BD.out 1).trans rfl, (blk_cell BD.out 2).trans rfl, (blk_cell BD.out 3).trans rfl, (blk_cell BD.out 4).trans rfl, (blk_cell BA.out 2).trans rfl⟩, fun _ _ => ⟨(blk_cell BQ.out 0).trans rfl, (blk_cell BQ.out 1).trans rfl, (blk_cell BQ.out 2).trans rfl, (blk_cell BQ.out 3).trans rfl, (blk_cell BA.out 2).trans rfl⟩⟩ ?_
          clear hK K
          try simp only [Act.put, List.setIfInBounds_toArray, List.set_cons_zero, List.set_cons_succ]
          have ZQ := Aside0.mk (far_five (Nat.ne_of_gt (Nat.lt_succ_self _)) BQ.out (.bool b') (.bool o') (.int .u64 d') (.int .u64 c') (.int .u64 f'))
          have ZA := Aside0.mk (far_five HGA.out BA.out (.bool b') (.bool o') (.int .u64 d') (.int .u64 c') (.int .u64 f'))
          refine AnyUpTo.only (i := 8) (by kernel_rfl) rfl (by rfl) (fun K hK => ?_)
          go_simp
          refine hK _ _ ⟨fun h => absurd h (by decide), fun _ _ => ⟨(blk_cell ZQ.out 0).trans rfl, (blk_cell ZQ.out 1).trans rfl, (blk_cell ZQ.out 2).trans rfl, (blk_cell ZQ.out 3).trans rfl, (blk_cell ZA.out 2).trans rfl⟩⟩ ?_
          clear hK K
          try simp only [Act.put, List.setIfInBounds_toArray, List.set_cons_zero, List.set_cons_succ]
          refine AnyUpTo.only (i := 9) (by kernel_rfl) rfl (by rfl) (fun K hK => ?_)
          go_simp
          refine hK _ _ ⟨fun h => absurd h (by decide), fun h => absurd h (by decide)⟩ ?_
          clear hK K
          try simp only [Act.put, List.setIfInBounds_toArray, List.set_cons_zero, List.set_cons_succ]
          refine AnyUpTo.done_ (by kernel_rfl) ?_
          go_wp2
          go_meet
          case rel => exact ⟨rfl, b', o', d', c', f', s', S2.out, far_four (Nat.ne_of_lt (Nat.lt_succ_self _)) (box_five BD.out _ _ _ _ _) _ _ _ _, box_four (far_five (Nat.ne_of_gt (Nat.lt_succ_self _)) BQ.out _ _ _ _ _) _ _ _ _, below_four (below_five HW.out hG _ _ _ _ _) (Nat.le_succ_of_le hG) _ _ _ _⟩
        · obtain ⟨b', o', d', c', f', s', kk, st', hB, hR⟩ := tick_both ST.out a.now a.live
          have H1 := Aside0.mk hB
          have H2 := Aside0.mk hR
          have S2 := Aside0.mk st'
          clear hB hR st'
          go_wp2_with (first
            | ((go_at_call 30; with_reducible refine (H1.out _).mono ?_); rintro e w3 ⟨rfl, hb⟩; have nBD := Aside0.mk (blk_below (blk_alloc BD.out _) hb); have nBQ := Aside0.mk (blk_below (blk_alloc BQ.out _) hb); have nBA := Aside0.mk (blk_below (blk_new _ _) hb); have nW := Aside0.mk (bel_step (below_alloc HW.out _) hb); clear hb; (try clear cBD); (try clear fBD); (try clear zBD); (try clear BD); have BD := nBD; clear nBD; have cBD := blk_cell BD.out; have fBD := blk_frozen BD.out; have zBD := blk_lt BD.out; (try clear cBQ); (try clear fBQ); (try clear zBQ); (try clear BQ); have BQ := nBQ; clear nBQ; have cBQ := blk_cell BQ.out; have fBQ := blk_frozen BQ.out; have zBQ := blk_lt BQ.out; (try clear cBA); (try clear fBA); (try clear zBA); (try clear BA); have BA := nBA; clear nBA; have cBA := blk_cell BA.out; have fBA := blk_frozen BA.out; have zBA := blk_lt BA.out; (try clear HW); have HW := nW; clear nW)
            | ((go_at_call 44; with_reducible refine (H2.out _).mono ?_); rintro e w4 ⟨rfl, hb⟩; have nBD := Aside0.mk (blk_below (blk_alloc BD.out _) hb); have nBQ := Aside0.mk (blk_below (blk_alloc BQ.out _) hb); have nBA := Aside0.mk (blk_below (blk_alloc BA.out _) hb); have nBX := Aside0.mk (blk_below (blk_new _ _) hb); have nW := Aside0.mk (bel_step (below_alloc HW.out _) hb); clear hb; (try clear cBD); (try clear fBD); (try clear zBD); (try clear BD); have BD := nBD; clear nBD; have cBD := blk_cell BD.out; have fBD := blk_frozen BD.out; have zBD := blk_lt BD.out; (try clear cBQ); (try clear fBQ); (try clear zBQ); (try clear BQ); have BQ := nBQ; clear nBQ; have cBQ := blk_cell BQ.out; have fBQ := blk_frozen BQ.out; have zBQ := blk_lt BQ.out; (try clear cBA); (try clear fBA); (try clear zBA); (try clear BA); have BA := nBA; clear nBA; have cBA := blk_cell BA.out; have fBA := blk_frozen BA.out; have zBA := blk_lt BA.out; (try clear cBX); (try clear fBX); (try clear zBX); (try clear BX); have BX := nBX; clear nBX; have cBX := blk_cell BX.out; have fBX := blk_frozen BX.out; have zBX := blk_lt BX.out; (try clear HW); have HW := nW; clear nW))
          have BY0 : Bx (w4.alloc (.cells (qc s' d' c' f') 63)) w4.heap.size (qc s' d' c' f') 63 := blk_new _ _
          have BD0 : Bx (w4.alloc (.cells (qc s' d' c' f') 63)) G (dc b o d cc f) 41 := blk_alloc BD.out _
          have BQ0 : Bx (w4.alloc (.cells (qc s' d' c' f') 63)) (G + 1) (qc s d cc f) 63 := blk_alloc BQ.out _
          have BX0 : Bx (w4.alloc (.cells (qc s' d' c' f') 63)) w3.heap.size (dc b' o' d' c' f') 41 := blk_alloc BX.out _
          have HW0 := below_alloc HW.out (.cells (qc s' d' c' f') 63)
          generalize w4.alloc (.cells (qc s' d' c' f') 63) = W5 at *
          have cBD := blk_cell BD0
          have fBD := blk_frozen BD0
          have zBD := blk_lt BD0
          have cBQ := blk_cell BQ0
          have fBQ := blk_frozen BQ0
          have zBQ := blk_lt BQ0
          have cBX := blk_cell BX0
          have cBY := blk_cell BY0
          have ZD := Aside0.mk BD0
          have ZQ := Aside0.mk BQ0
          have ZW := Aside0.mk HW0
          clear BD0 BQ0 BX0 BY0 HW0
          go_region
          go_wp2
          go_meet
          case rel => exact ⟨rfl, b', o', d', c', f', s', S2.out, blk_drew (far_four (Nat.ne_of_lt (Nat.lt_succ_self _)) (box_five ZD.out _ _ _ _ _) _ _ _ _), blk_drew (box_four (far_five (Nat.ne_of_gt (Nat.lt_succ_self _)) ZQ.out _ _ _ _ _) _ _ _ _), below_drew1 (below_four (below_five ZW.out hG _ _ _ _ _) (Nat.le_succ_of_le hG) _ _ _ _)⟩
      case rest =>
        obtain ⟨rfl, b, o, d, cc, f, s, hst0, hbd, hbq, hbel⟩ := hcut
        have BD := Aside0.mk hbd
        have BQ := Aside0.mk hbq
        have HW := Aside0.mk hbel
        have cBD := blk_cell hbd
        have fBD := blk_frozen hbd
        have zBD := blk_lt hbd
        have cBQ := blk_cell hbq
        have fBQ := blk_frozen hbq
        have zBQ := blk_lt hbq
        clear hbd hbq hbel
        rcases hst0.split with ⟨rfl, rfl, rfl, rfl, rfl, rfl⟩ | ⟨rfl, rfl, rfl, rfl, hd, hc⟩ | ⟨rfl, rfl, rfl, hd, hc, hf⟩
        · clear hst0
          have H49 := Aside0.mk (left_on false 0 0 0 0 rfl)
          have H48 := Aside0.mk (fun W => vagabondref01_Later.calls 0 0 0 W rfl)
          have hon := ord_nan
          have H45 := Aside0.mk (fun W => drain_Drain_Deadline.calls false false 0 0 0 0 false W rfl)
          have H46 := Aside0.mk (fun W => drain_Drain_Counts.calls false false 0 0 0 0 0 W rfl)
          have H47 := Aside0.mk (on_at false false 0 0 0 false rfl)
          have H31 := Aside0.mk (over_at false false 0 0 0)
          have ST := Aside0.mk (St.off)
          clear ST
          have hst := Aside0.mk (St.off)
          go_wp2_with (first
            | ((go_at_call 45; with_reducible refine (H45.out _).mono ?_); rintro e w3 ⟨rfl, hb⟩; have nBD := Aside0.mk (blk_below (by first | exact BD.out | exact blk_drewN BD.out _ | exact blk_drew BD.out) hb); have nBQ := Aside0.mk (blk_below (by first | exact BQ.out | exact blk_drewN BQ.out _ | exact blk_drew BQ.out) hb); have nW := Aside0.mk (bel_step (by first | exact HW.out | exact pw_below_drewN HW.out _ | exact below_drew1 HW.out) hb); clear hb; (try clear cBD); (try clear fBD); (try clear zBD); (try clear BD); have BD := nBD; clear nBD; have cBD := blk_cell BD.out; have fBD := blk_frozen BD.out; have zBD := blk_lt BD.out; (try clear cBQ); (try clear fBQ); (try clear zBQ); (try clear BQ); have BQ := nBQ; clear nBQ; have cBQ := blk_cell BQ.out; have fBQ := blk_frozen BQ.out; have zBQ := blk_lt BQ.out; (try clear HW); have HW := nW; clear nW)
            | ((go_at_call 46; with_reducible refine (H46.out _).mono ?_); rintro e w4 ⟨rfl, hb⟩; have nBD := Aside0.mk (blk_below (by first | exact BD.out | exact blk_drewN BD.out _ | exact blk_drew BD.out) hb); have nBQ := Aside0.mk (blk_below (by first | exact BQ.out | exact blk_drewN BQ.out _ | exact blk_drew BQ.out) hb); have nW := Aside0.mk (bel_step (by first | exact HW.out | exact pw_below_drewN HW.out _ | exact below_drew1 HW.out) hb); clear hb; (try clear cBD); (try clear fBD); (try clear zBD); (try clear BD); have BD := nBD; clear nBD; have cBD := blk_cell BD.out; have fBD := blk_frozen BD.out; have zBD := blk_lt BD.out; (try clear cBQ); (try clear fBQ); (try clear zBQ); (try clear BQ); have BQ := nBQ; clear nBQ; have cBQ := blk_cell BQ.out; have fBQ := blk_frozen BQ.out; have zBQ := blk_lt BQ.out; (try clear HW); have HW := nW; clear nW))
          replace BD := Aside0.mk (blk_drew BD.out)
          replace BQ := Aside0.mk (blk_drew BQ.out)
          replace HW := Aside0.mk (below_drew1 HW.out)
          go_region_held3 (fun w' => w'.cell? ⟨G, 0, none⟩ = some (.bool false) ∧ w'.cell? ⟨G, 1, none⟩ = some (.bool false) ∧ w'.cell? ⟨G, 2, none⟩ = some (.int .u64 0) ∧ w'.cell? ⟨G, 3, none⟩ = some (.int .u64 0) ∧ w'.cell? ⟨G, 4, none⟩ = some (.int .u64 0) ∧ w'.cell? ⟨G + 1, 0, none⟩ = some (.int .i64 0) ∧ w'.cell? ⟨G + 1, 1, none⟩ = some (.int .u64 0) ∧ w'.cell? ⟨G + 1, 2, none⟩ = some (.int .u64 0) ∧ w'.cell? ⟨G + 1, 3, none⟩ = some (.int .u64 0)) (exact ⟨(blk_cell BD.out 0).trans rfl, (blk_cell BD.out 1).trans rfl, (blk_cell BD.out 2).trans rfl, (blk_cell BD.out 3).trans rfl, (blk_cell BD.out 4).trans rfl, (blk_cell BQ.out 0).trans rfl, (blk_cell BQ.out 1).trans rfl, (blk_cell BQ.out 2).trans rfl, (blk_cell BQ.out 3).trans rfl⟩)
            (first
              | ((go_at_call 47; with_reducible refine (H47.out _).mono ?_); rintro e w5 ⟨rfl, hb⟩; have nBD := Aside0.mk (blk_below (by first | exact BD.out | exact blk_drewN BD.out _ | exact blk_drew BD.out) hb); have nBQ := Aside0.mk (blk_below (by first | exact BQ.out | exact blk_drewN BQ.out _ | exact blk_drew BQ.out) hb); have nW := Aside0.mk (bel_step (by first | exact HW.out | exact pw_below_drewN HW.out _ | exact below_drew1 HW.out) hb); clear hb; (try clear cBD); (try clear fBD); (try clear zBD); (try clear BD); have BD := nBD; clear nBD; have cBD := blk_cell BD.out; have fBD := blk_frozen BD.out; have zBD := blk_lt BD.out; (try clear cBQ); (try clear fBQ); (try clear zBQ); (try clear BQ); have BQ := nBQ; clear nBQ; have cBQ := blk_cell BQ.out; have fBQ := blk_frozen BQ.out; have zBQ := blk_lt BQ.out; (try clear HW); have HW := nW; clear nW)
              | ((go_at_call 31; with_reducible refine (H31.out _).mono ?_); rintro e w6 ⟨rfl, hb⟩; have nBD := Aside0.mk (blk_below (by first | exact BD.out | exact blk_drewN BD.out _ | exact blk_drew BD.out) hb); have nBQ := Aside0.mk (blk_below (by first | exact BQ.out | exact blk_drewN BQ.out _ | exact blk_drew BQ.out) hb); have nW := Aside0.mk (bel_step (by first | exact HW.out | exact pw_below_drewN HW.out _ | exact below_drew1 HW.out) hb); clear hb; (try clear cBD); (try clear fBD); (try clear zBD); (try clear BD); have BD := nBD; clear nBD; have cBD := blk_cell BD.out; have fBD := blk_frozen BD.out; have zBD := blk_lt BD.out; (try clear cBQ); (try clear fBQ); (try clear zBQ); (try clear BQ); have BQ := nBQ; clear nBQ; have cBQ := blk_cell BQ.out; have fBQ := blk_frozen BQ.out; have zBQ := blk_lt BQ.out; (try clear HW); have HW := nW; clear nW))
          all_goals
            go_wp2_with (first
              | ((go_at_call 48; with_reducible refine (H48.out _).mono ?_); rintro e w7 ⟨rfl, ⟨n7, rfl⟩⟩)
              | ((go_at_call 49; with_reducible refine (H49.out _).mono ?_); rintro e w8 ⟨rfl, hb⟩; have nBD := Aside0.mk (blk_below (by first | exact BD.out | exact blk_drewN BD.out _ | exact blk_drew BD.out) hb); have nBQ := Aside0.mk (blk_below (by first | exact BQ.out | exact blk_drewN BQ.out _ | exact blk_drew BQ.out) hb); have nW := Aside0.mk (bel_step (by first | exact HW.out | exact pw_below_drewN HW.out _ | exact below_drew1 HW.out) hb); clear hb; (try clear cBD); (try clear fBD); (try clear zBD); (try clear BD); have BD := nBD; clear nBD; have cBD := blk_cell BD.out; have fBD := blk_frozen BD.out; have zBD := blk_lt BD.out; (try clear cBQ); (try clear fBQ); (try clear zBQ); (try clear BQ); have BQ := nBQ; clear nBQ; have cBQ := blk_cell BQ.out; have fBQ := blk_frozen BQ.out; have zBQ := blk_lt BQ.out; (try clear HW); have HW := nW; clear nW))
            go_roundw
            case rel => exact ⟨k + 1, hlt, by go_num, false, false, 0, 0, 0, 0, hst.out, BD.out, BQ.out, HW.out⟩
            case measure => simp [RowKit.intOf]; omega
        · clear hst0
          have H49 := Aside0.mk (left_on true d cc 0 _ (add_w cc 0 hc zero_w))
          have H48 := Aside0.mk (fun W => vagabondref01_Later.calls cc 0 _ W (later_w cc 0 hc zero_w))
          have hon := ord_nan
          have H45 := Aside0.mk (fun W => drain_Drain_Deadline.calls true false d cc 0 d true W rfl)
          have H46 := Aside0.mk (fun W => drain_Drain_Counts.calls true false d cc 0 cc 0 W rfl)
          have H47 := Aside0.mk (on_at true false d cc 0 true rfl)
          have H31 := Aside0.mk (over_at true false d cc 0)
          have ST := Aside0.mk (St.on d cc hd hc)
          clear ST
          have hst := Aside0.mk (St.on d cc hd hc)
          clear hd hc
          generalize sat cc 0 = a at *
          go_wp2_with (first
            | ((go_at_call 45; with_reducible refine (H45.out _).mono ?_); rintro e w3 ⟨rfl, hb⟩; have nBD := Aside0.mk (blk_below (by first | exact BD.out | exact blk_drewN BD.out _ | exact blk_drew BD.out) hb); have nBQ := Aside0.mk (blk_below (by first | exact BQ.out | exact blk_drewN BQ.out _ | exact blk_drew BQ.out) hb); have nW := Aside0.mk (bel_step (by first | exact HW.out | exact pw_below_drewN HW.out _ | exact below_drew1 HW.out) hb); clear hb; (try clear cBD); (try clear fBD); (try clear zBD); (try clear BD); have BD := nBD; clear nBD; have cBD := blk_cell BD.out; have fBD := blk_frozen BD.out; have zBD := blk_lt BD.out; (try clear cBQ); (try clear fBQ); (try clear zBQ); (try clear BQ); have BQ := nBQ; clear nBQ; have cBQ := blk_cell BQ.out; have fBQ := blk_frozen BQ.out; have zBQ := blk_lt BQ.out; (try clear HW); have HW := nW; clear nW)
            | ((go_at_call 46; with_reducible refine (H46.out _).mono ?_); rintro e w4 ⟨rfl, hb⟩; have nBD := Aside0.mk (blk_below (by first | exact BD.out | exact blk_drewN BD.out _ | exact blk_drew BD.out) hb); have nBQ := Aside0.mk (blk_below (by first | exact BQ.out | exact blk_drewN BQ.out _ | exact blk_drew BQ.out) hb); have nW := Aside0.mk (bel_step (by first | exact HW.out | exact pw_below_drewN HW.out _ | exact below_drew1 HW.out) hb); clear hb; (try clear cBD); (try clear fBD); (try clear zBD); (try clear BD); have BD := nBD; clear nBD; have cBD := blk_cell BD.out; have fBD := blk_frozen BD.out; have zBD := blk_lt BD.out; (try clear cBQ); (try clear fBQ); (try clear zBQ); (try clear BQ); have BQ := nBQ; clear nBQ; have cBQ := blk_cell BQ.out; have fBQ := blk_frozen BQ.out; have zBQ := blk_lt BQ.out; (try clear HW); have HW := nW; clear nW))
          replace BD := Aside0.mk (blk_drew BD.out)
          replace BQ := Aside0.mk (blk_drew BQ.out)
          replace HW := Aside0.mk (below_drew1 HW.out)
          go_region_held3 (fun w' => w'.cell? ⟨G, 0, none⟩ = some (.bool true) ∧ w'.cell? ⟨G, 1, none⟩ = some (.bool false) ∧ w'.cell? ⟨G, 2, none⟩ = some (.int .u64 d) ∧ w'.cell? ⟨G, 3, none⟩ = some (.int .u64 cc) ∧ w'.cell? ⟨G, 4, none⟩ = some (.int .u64 0) ∧ w'.cell? ⟨G + 1, 0, none⟩ = some (.int .i64 1) ∧ w'.cell? ⟨G + 1, 1, none⟩ = some (.int .u64 d) ∧ w'.cell? ⟨G + 1, 2, none⟩ = some (.int .u64 cc) ∧ w'.cell? ⟨G + 1, 3, none⟩ = some (.int .u64 0)) (exact ⟨(blk_cell BD.out 0).trans rfl, (blk_cell BD.out 1).trans rfl, (blk_cell BD.out 2).trans rfl, (blk_cell BD.out 3).trans rfl, (blk_cell BD.out 4).trans rfl, (blk_cell BQ.out 0).trans rfl, (blk_cell BQ.out 1).trans rfl, (blk_cell BQ.out 2).trans rfl, (blk_cell BQ.out 3).trans rfl⟩)
            (first
              | ((go_at_call 47; with_reducible refine (H47.out _).mono ?_); rintro e w5 ⟨rfl, hb⟩; have nBD := Aside0.mk (blk_below (by first | exact BD.out | exact blk_drewN BD.out _ | exact blk_drew BD.out) hb); have nBQ := Aside0.mk (blk_below (by first | exact BQ.out | exact blk_drewN BQ.out _ | exact blk_drew BQ.out) hb); have nW := Aside0.mk (bel_step (by first | exact HW.out | exact pw_below_drewN HW.out _ | exact below_drew1 HW.out) hb); clear hb; (try clear cBD); (try clear fBD); (try clear zBD); (try clear BD); have BD := nBD; clear nBD; have cBD := blk_cell BD.out; have fBD := blk_frozen BD.out; have zBD := blk_lt BD.out; (try clear cBQ); (try clear fBQ); (try clear zBQ); (try clear BQ); have BQ := nBQ; clear nBQ; have cBQ := blk_cell BQ.out; have fBQ := blk_frozen BQ.out; have zBQ := blk_lt BQ.out; (try clear HW); have HW := nW; clear nW)
              | ((go_at_call 31; with_reducible refine (H31.out _).mono ?_); rintro e w6 ⟨rfl, hb⟩; have nBD := Aside0.mk (blk_below (by first | exact BD.out | exact blk_drewN BD.out _ | exact blk_drew BD.out) hb); have nBQ := Aside0.mk (blk_below (by first | exact BQ.out | exact blk_drewN BQ.out _ | exact blk_drew BQ.out) hb); have nW := Aside0.mk (bel_step (by first | exact HW.out | exact pw_below_drewN HW.out _ | exact below_drew1 HW.out) hb); clear hb; (try clear cBD); (try clear fBD); (try clear zBD); (try clear BD); have BD := nBD; clear nBD; have cBD := blk_cell BD.out; have fBD := blk_frozen BD.out; have zBD := blk_lt BD.out; (try clear cBQ); (try clear fBQ); (try clear zBQ); (try clear BQ); have BQ := nBQ; clear nBQ; have cBQ := blk_cell BQ.out; have fBQ := blk_frozen BQ.out; have zBQ := blk_lt BQ.out; (try clear HW); have HW := nW; clear nW))
          all_goals
            go_wp2_with (first
              | ((go_at_call 48; with_reducible refine (H48.out _).mono ?_); rintro e w7 ⟨rfl, ⟨n7, rfl⟩⟩)
              | ((go_at_call 49; with_reducible refine (H49.out _).mono ?_); rintro e w8 ⟨rfl, hb⟩; have nBD := Aside0.mk (blk_below (by first | exact BD.out | exact blk_drewN BD.out _ | exact blk_drew BD.out) hb); have nBQ := Aside0.mk (blk_below (by first | exact BQ.out | exact blk_drewN BQ.out _ | exact blk_drew BQ.out) hb); have nW := Aside0.mk (bel_step (by first | exact HW.out | exact pw_below_drewN HW.out _ | exact below_drew1 HW.out) hb); clear hb; (try clear cBD); (try clear fBD); (try clear zBD); (try clear BD); have BD := nBD; clear nBD; have cBD := blk_cell BD.out; have fBD := blk_frozen BD.out; have zBD := blk_lt BD.out; (try clear cBQ); (try clear fBQ); (try clear zBQ); (try clear BQ); have BQ := nBQ; clear nBQ; have cBQ := blk_cell BQ.out; have fBQ := blk_frozen BQ.out; have zBQ := blk_lt BQ.out; (try clear HW); have HW := nW; clear nW))
            go_roundw
            case rel => exact ⟨k + 1, hlt, by go_num, true, false, d, cc, 0, 1, hst.out, BD.out, BQ.out, HW.out⟩
            case measure => simp [RowKit.intOf]; omega
        · clear hst0
          obtain ⟨a, ha⟩ : ∃ a, sat cc f = a := ⟨_, rfl⟩
          have hge := sat_ge cc f hc hf
          have hw := sat_w cc f hc hf
          have hadd := add_w cc f hc hf
          have hlat := later_w cc f hc hf
          rw [ha] at hge hw hadd hlat
          by_cases h0 : a = 0
          · subst h0
            have H49 := Aside0.mk (left_none true d cc f hadd)
            have H48 := Aside0.mk (fun W => vagabondref01_Later.calls cc f 0 W hlat)
            have hon := ord_one
            have H45 := Aside0.mk (fun W => drain_Drain_Deadline.calls true true d cc f d true W rfl)
            have H46 := Aside0.mk (fun W => drain_Drain_Counts.calls true true d cc f cc f W rfl)
            have H47 := Aside0.mk (on_at true true d cc f false rfl)
            have H31 := Aside0.mk (over_at true true d cc f)
            have ST := Aside0.mk (St.over d cc f hd hc hf)
            clear ST
            have hst := Aside0.mk (St.over d cc f hd hc hf)
            clear hd hc hf hadd hlat hw hge ha
            go_wp2_with (first
              | ((go_at_call 45; with_reducible refine (H45.out _).mono ?_); rintro e w3 ⟨rfl, hb⟩; have nBD := Aside0.mk (blk_below (by first | exact BD.out | exact blk_drewN BD.out _ | exact blk_drew BD.out) hb); have nBQ := Aside0.mk (blk_below (by first | exact BQ.out | exact blk_drewN BQ.out _ | exact blk_drew BQ.out) hb); have nW := Aside0.mk (bel_step (by first | exact HW.out | exact pw_below_drewN HW.out _ | exact below_drew1 HW.out) hb); clear hb; (try clear cBD); (try clear fBD); (try clear zBD); (try clear BD); have BD := nBD; clear nBD; have cBD := blk_cell BD.out; have fBD := blk_frozen BD.out; have zBD := blk_lt BD.out; (try clear cBQ); (try clear fBQ); (try clear zBQ); (try clear BQ); have BQ := nBQ; clear nBQ; have cBQ := blk_cell BQ.out; have fBQ := blk_frozen BQ.out; have zBQ := blk_lt BQ.out; (try clear HW); have HW := nW; clear nW)
              | ((go_at_call 46; with_reducible refine (H46.out _).mono ?_); rintro e w4 ⟨rfl, hb⟩; have nBD := Aside0.mk (blk_below (by first | exact BD.out | exact blk_drewN BD.out _ | exact blk_drew BD.out) hb); have nBQ := Aside0.mk (blk_below (by first | exact BQ.out | exact blk_drewN BQ.out _ | exact blk_drew BQ.out) hb); have nW := Aside0.mk (bel_step (by first | exact HW.out | exact pw_below_drewN HW.out _ | exact below_drew1 HW.out) hb); clear hb; (try clear cBD); (try clear fBD); (try clear zBD); (try clear BD); have BD := nBD; clear nBD; have cBD := blk_cell BD.out; have fBD := blk_frozen BD.out; have zBD := blk_lt BD.out; (try clear cBQ); (try clear fBQ); (try clear zBQ); (try clear BQ); have BQ := nBQ; clear nBQ; have cBQ := blk_cell BQ.out; have fBQ := blk_frozen BQ.out; have zBQ := blk_lt BQ.out; (try clear HW); have HW := nW; clear nW))
            replace BD := Aside0.mk (blk_drew BD.out)
            replace BQ := Aside0.mk (blk_drew BQ.out)
            replace HW := Aside0.mk (below_drew1 HW.out)
            go_region_held3 (fun w' => w'.cell? ⟨G, 0, none⟩ = some (.bool true) ∧ w'.cell? ⟨G, 1, none⟩ = some (.bool true) ∧ w'.cell? ⟨G, 2, none⟩ = some (.int .u64 d) ∧ w'.cell? ⟨G, 3, none⟩ = some (.int .u64 cc) ∧ w'.cell? ⟨G, 4, none⟩ = some (.int .u64 f) ∧ w'.cell? ⟨G + 1, 0, none⟩ = some (.int .i64 2) ∧ w'.cell? ⟨G + 1, 1, none⟩ = some (.int .u64 d) ∧ w'.cell? ⟨G + 1, 2, none⟩ = some (.int .u64 cc) ∧ w'.cell? ⟨G + 1, 3, none⟩ = some (.int .u64 f)) (exact ⟨(blk_cell BD.out 0).trans rfl, (blk_cell BD.out 1).trans rfl, (blk_cell BD.out 2).trans rfl, (blk_cell BD.out 3).trans rfl, (blk_cell BD.out 4).trans rfl, (blk_cell BQ.out 0).trans rfl, (blk_cell BQ.out 1).trans rfl, (blk_cell BQ.out 2).trans rfl, (blk_cell BQ.out 3).trans rfl⟩)
              (first
                | ((go_at_call 47; with_reducible refine (H47.out _).mono ?_); rintro e w5 ⟨rfl, hb⟩; have nBD := Aside0.mk (blk_below (by first | exact BD.out | exact blk_drewN BD.out _ | exact blk_drew BD.out) hb); have nBQ := Aside0.mk (blk_below (by first | exact BQ.out | exact blk_drewN BQ.out _ | exact blk_drew BQ.out) hb); have nW := Aside0.mk (bel_step (by first | exact HW.out | exact pw_below_drewN HW.out _ | exact below_drew1 HW.out) hb); clear hb; (try clear cBD); (try clear fBD); (try clear zBD); (try clear BD); have BD := nBD; clear nBD; have cBD := blk_cell BD.out; have fBD := blk_frozen BD.out; have zBD := blk_lt BD.out; (try clear cBQ); (try clear fBQ); (try clear zBQ); (try clear BQ); have BQ := nBQ; clear nBQ; have cBQ := blk_cell BQ.out; have fBQ := blk_frozen BQ.out; have zBQ := blk_lt BQ.out; (try clear HW); have HW := nW; clear nW)
                | ((go_at_call 31; with_reducible refine (H31.out _).mono ?_); rintro e w6 ⟨rfl, hb⟩; have nBD := Aside0.mk (blk_below (by first | exact BD.out | exact blk_drewN BD.out _ | exact blk_drew BD.out) hb); have nBQ := Aside0.mk (blk_below (by first | exact BQ.out | exact blk_drewN BQ.out _ | exact blk_drew BQ.out) hb); have nW := Aside0.mk (bel_step (by first | exact HW.out | exact pw_below_drewN HW.out _ | exact below_drew1 HW.out) hb); clear hb; (try clear cBD); (try clear fBD); (try clear zBD); (try clear BD); have BD := nBD; clear nBD; have cBD := blk_cell BD.out; have fBD := blk_frozen BD.out; have zBD := blk_lt BD.out; (try clear cBQ); (try clear fBQ); (try clear zBQ); (try clear BQ); have BQ := nBQ; clear nBQ; have cBQ := blk_cell BQ.out; have fBQ := blk_frozen BQ.out; have zBQ := blk_lt BQ.out; (try clear HW); have HW := nW; clear nW))
            all_goals
              go_wp2_with (first
                | ((go_at_call 48; with_reducible refine (H48.out _).mono ?_); rintro e w7 ⟨rfl, ⟨n7, rfl⟩⟩)
                | ((go_at_call 49; with_reducible refine (H49.out _).mono ?_); rintro e w8 ⟨rfl, hb⟩; have nBD := Aside0.mk (blk_below (by first | exact BD.out | exact blk_drewN BD.out _ | exact blk_drew BD.out) hb); have nBQ := Aside0.mk (blk_below (by first | exact BQ.out | exact blk_drewN BQ.out _ | exact blk_drew BQ.out) hb); have nW := Aside0.mk (bel_step (by first | exact HW.out | exact pw_below_drewN HW.out _ | exact below_drew1 HW.out) hb); clear hb; (try clear cBD); (try clear fBD); (try clear zBD); (try clear BD); have BD := nBD; clear nBD; have cBD := blk_cell BD.out; have fBD := blk_frozen BD.out; have zBD := blk_lt BD.out; (try clear cBQ); (try clear fBQ); (try clear zBQ); (try clear BQ); have BQ := nBQ; clear nBQ; have cBQ := blk_cell BQ.out; have fBQ := blk_frozen BQ.out; have zBQ := blk_lt BQ.out; (try clear HW); have HW := nW; clear nW))
              go_roundw
              case rel => exact ⟨k + 1, hlt, by go_num, true, true, d, cc, f, 2, hst.out, BD.out, BQ.out, HW.out⟩
              case measure => simp [RowKit.intOf]; omega
          · have hq := qt_spec cc.toNat a.toNat (by have := hw.1; omega) (by have := hc.1; omega) (by have := hw.2; have := hw.1; omega)
            have H49 := Aside0.mk (left_some' true d cc a f hadd hc.1 h0 hge hw.2)
            have H48 := Aside0.mk (fun W => vagabondref01_Later.calls cc f a W hlat)
            have H19 := Aside0.mk (same_at (qt cc.toNat a.toNat) (qt cc.toNat a.toNat) 0 (by omega) (by omega) (cp_self _))
            have k1 := fun W => conv_z cc hc.1 W
            have k2 := fun W => conv_z a hw.1 W
            have k3 := fun W => run_div _ _ _ hq.1 W
            have hz : (a == 0) = false := beq_eq_false_iff_ne.2 h0
            have o1 : (FloatKind.f64.format.order (qt cc.toNat a.toNat) 0 == some Ordering.lt) = false := by rw [ord_small _ 0 hq.2 (by omega), if_neg (by omega)]; split <;> rfl
            have o2 : (FloatKind.f64.format.order (qt cc.toNat a.toNat) 4607182418800017408 == some Ordering.gt) = false := by rw [ord_small _ _ hq.2 (Nat.le_refl _)]; have := hq.2; split; rfl; (rw [if_pos (by omega)]; rfl)
            have H45 := Aside0.mk (fun W => drain_Drain_Deadline.calls true true d cc f d true W rfl)
            have H46 := Aside0.mk (fun W => drain_Drain_Counts.calls true true d cc f cc f W rfl)
            have H47 := Aside0.mk (on_at true true d cc f false rfl)
            have H31 := Aside0.mk (over_at true true d cc f)
            have ST := Aside0.mk (St.over d cc f hd hc hf)
            clear ST
            have hst := Aside0.mk (St.over d cc f hd hc hf)
            clear hd hc hf hadd hlat hw hge ha hq h0
            generalize qt cc.toNat a.toNat = q at *
            generalize nr cc.toNat 0 = nc at *
            generalize nr a.toNat 0 = na at *
            go_wp2_with (first
              | ((go_at_call 45; with_reducible refine (H45.out _).mono ?_); rintro e w3 ⟨rfl, hb⟩; have nBD := Aside0.mk (blk_below (by first | exact BD.out | exact blk_drewN BD.out _ | exact blk_drew BD.out) hb); have nBQ := Aside0.mk (blk_below (by first | exact BQ.out | exact blk_drewN BQ.out _ | exact blk_drew BQ.out) hb); have nW := Aside0.mk (bel_step (by first | exact HW.out | exact pw_below_drewN HW.out _ | exact below_drew1 HW.out) hb); clear hb; (try clear cBD); (try clear fBD); (try clear zBD); (try clear BD); have BD := nBD; clear nBD; have cBD := blk_cell BD.out; have fBD := blk_frozen BD.out; have zBD := blk_lt BD.out; (try clear cBQ); (try clear fBQ); (try clear zBQ); (try clear BQ); have BQ := nBQ; clear nBQ; have cBQ := blk_cell BQ.out; have fBQ := blk_frozen BQ.out; have zBQ := blk_lt BQ.out; (try clear HW); have HW := nW; clear nW)
              | ((go_at_call 46; with_reducible refine (H46.out _).mono ?_); rintro e w4 ⟨rfl, hb⟩; have nBD := Aside0.mk (blk_below (by first | exact BD.out | exact blk_drewN BD.out _ | exact blk_drew BD.out) hb); have nBQ := Aside0.mk (blk_below (by first | exact BQ.out | exact blk_drewN BQ.out _ | exact blk_drew BQ.out) hb); have nW := Aside0.mk (bel_step (by first | exact HW.out | exact pw_below_drewN HW.out _ | exact below_drew1 HW.out) hb); clear hb; (try clear cBD); (try clear fBD); (try clear zBD); (try clear BD); have BD := nBD; clear nBD; have cBD := blk_cell BD.out; have fBD := blk_frozen BD.out; have zBD := blk_lt BD.out; (try clear cBQ); (try clear fBQ); (try clear zBQ); (try clear BQ); have BQ := nBQ; clear nBQ; have cBQ := blk_cell BQ.out; have fBQ := blk_frozen BQ.out; have zBQ := blk_lt BQ.out; (try clear HW); have HW := nW; clear nW))
            replace BD := Aside0.mk (blk_drew BD.out)
            replace BQ := Aside0.mk (blk_drew BQ.out)
            replace HW := Aside0.mk (below_drew1 HW.out)
            go_region_held3 (fun w' => w'.cell? ⟨G, 0, none⟩ = some (.bool true) ∧ w'.cell? ⟨G, 1, none⟩ = some (.bool true) ∧ w'.cell? ⟨G, 2, none⟩ = some (.int .u64 d) ∧ w'.cell? ⟨G, 3, none⟩ = some (.int .u64 cc) ∧ w'.cell? ⟨G, 4, none⟩ = some (.int .u64 f) ∧ w'.cell? ⟨G + 1, 0, none⟩ = some (.int .i64 2) ∧ w'.cell? ⟨G + 1, 1, none⟩ = some (.int .u64 d) ∧ w'.cell? ⟨G + 1, 2, none⟩ = some (.int .u64 cc) ∧ w'.cell? ⟨G + 1, 3, none⟩ = some (.int .u64 f)) (exact ⟨(blk_cell BD.out 0).trans rfl, (blk_cell BD.out 1).trans rfl, (blk_cell BD.out 2).trans rfl, (blk_cell BD.out 3).trans rfl, (blk_cell BD.out 4).trans rfl, (blk_cell BQ.out 0).trans rfl, (blk_cell BQ.out 1).trans rfl, (blk_cell BQ.out 2).trans rfl, (blk_cell BQ.out 3).trans rfl⟩)
              (first
                | ((go_at_call 47; with_reducible refine (H47.out _).mono ?_); rintro e w5 ⟨rfl, hb⟩; have nBD := Aside0.mk (blk_below (by first | exact BD.out | exact blk_drewN BD.out _ | exact blk_drew BD.out) hb); have nBQ := Aside0.mk (blk_below (by first | exact BQ.out | exact blk_drewN BQ.out _ | exact blk_drew BQ.out) hb); have nW := Aside0.mk (bel_step (by first | exact HW.out | exact pw_below_drewN HW.out _ | exact below_drew1 HW.out) hb); clear hb; (try clear cBD); (try clear fBD); (try clear zBD); (try clear BD); have BD := nBD; clear nBD; have cBD := blk_cell BD.out; have fBD := blk_frozen BD.out; have zBD := blk_lt BD.out; (try clear cBQ); (try clear fBQ); (try clear zBQ); (try clear BQ); have BQ := nBQ; clear nBQ; have cBQ := blk_cell BQ.out; have fBQ := blk_frozen BQ.out; have zBQ := blk_lt BQ.out; (try clear HW); have HW := nW; clear nW)
                | ((go_at_call 31; with_reducible refine (H31.out _).mono ?_); rintro e w6 ⟨rfl, hb⟩; have nBD := Aside0.mk (blk_below (by first | exact BD.out | exact blk_drewN BD.out _ | exact blk_drew BD.out) hb); have nBQ := Aside0.mk (blk_below (by first | exact BQ.out | exact blk_drewN BQ.out _ | exact blk_drew BQ.out) hb); have nW := Aside0.mk (bel_step (by first | exact HW.out | exact pw_below_drewN HW.out _ | exact below_drew1 HW.out) hb); clear hb; (try clear cBD); (try clear fBD); (try clear zBD); (try clear BD); have BD := nBD; clear nBD; have cBD := blk_cell BD.out; have fBD := blk_frozen BD.out; have zBD := blk_lt BD.out; (try clear cBQ); (try clear fBQ); (try clear zBQ); (try clear BQ); have BQ := nBQ; clear nBQ; have cBQ := blk_cell BQ.out; have fBQ := blk_frozen BQ.out; have zBQ := blk_lt BQ.out; (try clear HW); have HW := nW; clear nW))
            all_goals
              go_wp2_with (first
                | ((go_at_call 48; with_reducible refine (H48.out _).mono ?_); rintro e w7 ⟨rfl, ⟨n7, rfl⟩⟩)
                | ((go_at_call 49; with_reducible refine (H49.out _).mono ?_); rintro e w8 ⟨rfl, hb⟩; have nBD := Aside0.mk (blk_below (by first | exact BD.out | exact blk_drewN BD.out _ | exact blk_drew BD.out) hb); have nBQ := Aside0.mk (blk_below (by first | exact BQ.out | exact blk_drewN BQ.out _ | exact blk_drew BQ.out) hb); have nW := Aside0.mk (bel_step (by first | exact HW.out | exact pw_below_drewN HW.out _ | exact below_drew1 HW.out) hb); clear hb; (try clear cBD); (try clear fBD); (try clear zBD); (try clear BD); have BD := nBD; clear nBD; have cBD := blk_cell BD.out; have fBD := blk_frozen BD.out; have zBD := blk_lt BD.out; (try clear cBQ); (try clear fBQ); (try clear zBQ); (try clear BQ); have BQ := nBQ; clear nBQ; have cBQ := blk_cell BQ.out; have fBQ := blk_frozen BQ.out; have zBQ := blk_lt BQ.out; (try clear HW); have HW := nW; clear nW)
                | ((go_at_call 19; with_reducible refine (H19.out _).mono ?_); rintro e w9 ⟨rfl, rfl⟩))
              go_roundw
              case rel => exact ⟨k + 1, hlt, by go_num, true, true, d, cc, f, 2, hst.out, BD.out, BQ.out, HW.out⟩
              case measure => simp [RowKit.intOf]; omega
    · obtain rfl : k = l.length := by omega
      go_wp2
      go_ret
      exact ⟨rfl, HW.out⟩

set_option maxRecDepth 30000 in
theorem turns_long (A : Option Addr) (L c : Nat) (w : World) (ht : Tabs w) (h : 60 < (L : Int)) :
    Calls Tryd.prog 11 #[.slice A L c] w fun e w' => e = .returned (.bool true) ∧ Below w.heap.size w w' := by
  have HT := Aside0.mk ht
  clear ht
  have g1 : decide ((L : Int) > 60) = true := decide_eq_true h
  go_enter Tryd.func11, Tryd.ntmps11
  go_wp2_with (go_at_call 28; refine (awake25 _ HT.out).mono ?_; rintro e w1 ⟨rfl, hb1⟩; have HB1 := Aside0.mk hb1; clear hb1)
  go_ret
  exact ⟨rfl, HB1.out⟩

theorem turns_row (w : World) (A : Option Addr) (l : List Act) (c : Nat) (ta : Acts w A l) (_ : l.length ≤ maxLen) (_ : l.length ≤ c) (ht : Tabs w) :
    Calls Tryd.prog 11 #[.slice A l.length c] w fun e w' => e = .returned (.bool true) ∧ Below w.heap.size w w' := by
  by_cases h : l.length ≤ 60
  · exact turns_short A l c w ht h ta
  · exact turns_long A l.length c w ht (by omega)
end Go.Proofs.YthpmhjlndnelfaaDoor.Real
