/- Two arrays of sixteen bytes, compared. No conditions. -/
import Derived.Test.YtiblkbkdfebfbaaMyRounds
import Derived.Laws.StructEq
namespace Go.Proofs.Ytiblkbkdfebfbaa.Aes
open Go.RowKit Go.Proofs.Ytiblkbkdfebfbaa.Own

def eq16 (f h : Nat → B8) : Bool := (List.range' 0 16).all fun i => f i == h i
theorem eq16_iff (f h : Nat → B8) : eq16 f h = true ↔ ∀ i, i < 16 → f i = h i := by
  unfold eq16
  rw [List.all_eq_true]
  constructor
  · intro hh i hi
    exact eq_of_beq (hh i (List.mem_range'_1.2 ⟨by omega, by omega⟩))
  · intro hh i hi
    have := List.mem_range'_1.1 hi
    rw [hh i (by omega)]
    exact beq_self_eq_true _

theorem part5 (n : Nat) (f : Nat → B8) (i : Nat) (hi : i < n) (w : World) : (part 5 (ba n f) i).run Try.prog w = .ok (.int .u8 ((f i).toNat : Int)) w := by
  have ha : (isAgg 5).run Try.prog w = .ok false w := by kernel_rfl
  unfold part
  simp [Sem.run_bind, ha, ba_get n f i hi]

theorem eq_loop (f h : Nat → B8) (w : World) : ∀ l : List Nat, (∀ i ∈ l, i < 16) →
    Sem.run Try.prog (forIn l ((none : Option Bool), ()) fun i _ => do
            let a ← part 5 (ba 16 f) (i * 1)
            let b ← part 5 (ba 16 h) (i * 1)
            let e ← Op.equalIn 9999 5 a b
            if (!e) = true then pure (ForInStep.done (some false, ())) else pure (ForInStep.yield (none, ()))) w =
      .ok (if (l.all fun i => f i == h i) = true then (none, ()) else (some false, ())) w := by
  intro l
  induction l with
  | nil => intro _; simp
  | cons i l ih =>
    intro hl
    have hi := hl i (by simp)
    rw [List.forIn_cons]
    simp only [Sem.run_bind, Nat.mul_one, part5 16 f i hi, part5 16 h i hi, Result.andThen_ok, run_equalIn_int w 9998 5 .u8 .u8 _ _ Try.underlying5]
    have e : (((f i).toNat : Int) == ((h i).toNat : Int)) = (f i == h i) := by
      by_cases q : f i = h i
      · rw [q, beq_self_eq_true, beq_self_eq_true]
      · rw [beq_eq_false_iff_ne.2 q]
        exact beq_eq_false_iff_ne.2 (fun e => q (BitVec.eq_of_toNat_eq (by omega)))
    rw [e]
    by_cases q : (f i == h i) = true
    · rw [q]
      simp only [Bool.not_true, Bool.false_eq_true, if_false, Sem.run_pure, Result.andThen_ok, List.all_cons, q, Bool.true_and]
      have := ih (fun j hj => hl j (by simp [hj]))
      simp only [Nat.mul_one] at this ⊢
      exact this
    · have q' : (f i == h i) = false := by simpa using q
      rw [q']
      simp [q']

theorem eq23 (f h : Nat → B8) (w : World) : (Op.equalIn 10000 23 (.agg (ba 16 f)) (.agg (ba 16 h))).run Try.prog w = .ok (eq16 f h) w := by
  have hs5 : (sizeOf 5).run Try.prog w = .ok 1 w := by kernel_rfl
  unfold Op.equalIn
  rw [Sem.run_bind, run_underlying Try.underlying23]
  simp only [Result.andThen_ok, Sem.run_bind, hs5]
  rw [Std.Legacy.Range.forIn_eq_forIn_range']
  have hl := eq_loop f h w (List.range' 0 16) (fun i hi => by have := List.mem_range'_1.1 hi; omega)
  have e : List.range' [:16].start [:16].size [:16].step = List.range' 0 16 := rfl
  rw [e]
  rw [hl]
  unfold eq16
  cases (List.range' 0 16).all fun i => f i == h i <;> rfl

theorem run_eq23 (x y : Operand) (f h : Nat → B8) (w : World) : ((do eqGuard .eql 23 x y (.agg (ba 16 f)) (.agg (ba 16 h)); binOp .eql 23 (.agg (ba 16 f)) (.agg (ba 16 h))) : Sem Value).run Try.prog w = .ok (.bool (eq16 f h)) w := by
  rw [Sem.run_bind, run_eqGuard_agg w .eql 23 x y _ _ (by kernel_rfl), Result.andThen_ok, run_eql_struct w 23, eq23, Result.andThen_ok]

/-- The first row of the words. -/
theorem run_row0 (wf : Nat → B8) (w : World) : (Instr.index 25 (.agg (ba 176 wf)) (.int .i64 0)).run Try.prog w = .ok (.agg (ba 16 wf)) w := by
  have hs : (sizeOf 23).run Try.prog w = .ok 16 w := by kernel_rfl
  have ha : (isAgg 23).run Try.prog w = .ok true w := by kernel_rfl
  have hx : (ba 176 wf).extract 0 16 = ba 16 wf := by
    apply Array.ext_getElem?
    intro j
    by_cases h : j < 16
    · have hz := ba_size 176 wf
      rw [Array.getElem?_extract, if_pos (by omega), Nat.zero_add, ba_get 176 _ j (by omega), ba_get 16 _ j h]
    · rw [Array.getElem?_eq_none (by simp [ba_size]; omega), Array.getElem?_eq_none (by rw [ba_size]; omega)]
  unfold Instr.index
  simp [Sem.run_bind, asIntOf, run_underlying Try.underlying25, part, *]
theorem run_arr (a : Option Addr) (c : Nat) (w : World) : (Instr.arrayAt 23 (.slice a 16 c)).run Try.prog w = .ok (.pointer a) w := by
  unfold Instr.arrayAt
  simp [Sem.run_bind, run_underlying Try.underlying23]
end Go.Proofs.Ytiblkbkdfebfbaa.Aes
