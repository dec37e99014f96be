/- Plain laws on products in the field of 256: in any order, of any grouping, of sums. No conditions. -/
import Derived.WalkKit
namespace Go.Proofs.Ytiblkbkdfebfbaa.Own

abbrev B8 := BitVec 8
def xt (a : B8) : B8 := (a <<< 1) ^^^ (if a.msb then 27#8 else 0#8)
def gs : Nat → B8 → B8 → B8
  | 0, _, _ => 0#8
  | k + 1, a, b => (if b.getLsbD 0 then a else 0#8) ^^^ gs k (xt a) (b >>> 1)
def tm (a b : B8) : B8 := gs 8 a b

theorem x4 (a b c d : B8) : (a ^^^ b) ^^^ (c ^^^ d) = (a ^^^ c) ^^^ (b ^^^ d) := by
  rw [BitVec.xor_assoc, BitVec.xor_assoc, ← BitVec.xor_assoc b c d, BitVec.xor_comm b c, BitVec.xor_assoc c b d]

theorem xt_xor (a b : B8) : xt (a ^^^ b) = xt a ^^^ xt b := by
  unfold xt
  rw [BitVec.shiftLeft_xor_distrib, BitVec.msb_xor, x4]
  congr 1
  cases a.msb <;> cases b.msb <;> decide

theorem gs_a (k : Nat) : ∀ a c b : B8, gs k (a ^^^ c) b = gs k a b ^^^ gs k c b := by
  induction k with
  | zero => intro a c b; simp [gs]
  | succ k ih =>
    intro a c b
    simp only [gs]
    rw [xt_xor, ih, x4]
    congr 1
    cases b.getLsbD 0 <;> simp

theorem gs_b (k : Nat) : ∀ a b c : B8, gs k a (b ^^^ c) = gs k a b ^^^ gs k a c := by
  induction k with
  | zero => intro a b c; simp [gs]
  | succ k ih =>
    intro a b c
    simp only [gs]
    rw [BitVec.ushiftRight_xor_distrib, ih, x4, BitVec.getLsbD_xor]
    congr 1
    cases b.getLsbD 0 <;> cases c.getLsbD 0 <;> simp

theorem gs_zero (k : Nat) (a : B8) : gs k a 0#8 = 0#8 := by
  have h := gs_b k a 0#8 0#8
  rw [BitVec.xor_zero] at h
  have : gs k a 0#8 ^^^ gs k a 0#8 = 0#8 := BitVec.xor_self
  rw [← h] at this
  exact this

theorem bits8 : ∀ x : B8, x = (x &&& 1#8) ^^^ ((x &&& 2#8) ^^^ ((x &&& 4#8) ^^^ ((x &&& 8#8) ^^^ ((x &&& 16#8) ^^^ ((x &&& 32#8) ^^^ ((x &&& 64#8) ^^^ (x &&& 128#8))))))) := by decide +kernel

theorem bit_or : ∀ x : B8, ∀ i : Fin 8, (x &&& (1#8 <<< i.1)) = 0#8 ∨ (x &&& (1#8 <<< i.1)) = 1#8 <<< i.1 := by decide +kernel

/-- Two sums of bits are one, where they are one at each bit. -/
theorem lin_ext (f g : B8 → B8) (hf : ∀ x y, f (x ^^^ y) = f x ^^^ f y) (hg : ∀ x y, g (x ^^^ y) = g x ^^^ g y) (h : ∀ i : Fin 8, f (1#8 <<< i.1) = g (1#8 <<< i.1)) (x : B8) : f x = g x := by
  have z : ∀ k : B8 → B8, (∀ x y, k (x ^^^ y) = k x ^^^ k y) → k 0#8 = 0#8 := by
    intro k hk
    have h1 := hk 0#8 0#8
    rw [BitVec.xor_zero] at h1
    have h2 : k 0#8 ^^^ k 0#8 = 0#8 := BitVec.xor_self
    rw [← h1] at h2
    exact h2
  have at1 : ∀ i : Fin 8, f (x &&& (1#8 <<< i.1)) = g (x &&& (1#8 <<< i.1)) := by
    intro i
    rcases bit_or x i with e | e
    · rw [e, z f hf, z g hg]
    · rw [e, h i]
  have e := bits8 x
  rw [e]
  simp only [hf, hg]
  rw [show f (x &&& 1#8) = g (x &&& 1#8) from at1 0, show f (x &&& 2#8) = g (x &&& 2#8) from at1 1, show f (x &&& 4#8) = g (x &&& 4#8) from at1 2, show f (x &&& 8#8) = g (x &&& 8#8) from at1 3,
    show f (x &&& 16#8) = g (x &&& 16#8) from at1 4, show f (x &&& 32#8) = g (x &&& 32#8) from at1 5, show f (x &&& 64#8) = g (x &&& 64#8) from at1 6, show f (x &&& 128#8) = g (x &&& 128#8) from at1 7]

theorem tm_a (a c b : B8) : tm (a ^^^ c) b = tm a b ^^^ tm c b := gs_a 8 a c b
theorem tm_b (a b c : B8) : tm a (b ^^^ c) = tm a b ^^^ tm a c := gs_b 8 a b c

theorem tm_comm (a b : B8) : tm a b = tm b a := by
  refine lin_ext (fun a => tm a b) (fun a => tm b a) (fun x y => tm_a x y b) (fun x y => tm_b b x y) (fun i => ?_) a
  refine lin_ext (fun b => tm (1#8 <<< i.1) b) (fun b => tm b (1#8 <<< i.1)) (fun x y => tm_b _ x y) (fun x y => tm_a x y _) (fun j => ?_) b
  have : ∀ i j : Fin 8, tm (1#8 <<< i.1) (1#8 <<< j.1) = tm (1#8 <<< j.1) (1#8 <<< i.1) := by decide +kernel
  exact this i j

theorem tm_assoc (a b c : B8) : tm (tm a b) c = tm a (tm b c) := by
  refine lin_ext (fun a => tm (tm a b) c) (fun a => tm a (tm b c)) (fun x y => by simp only [tm_a]) (fun x y => tm_a x y _) (fun i => ?_) a
  refine lin_ext (fun b => tm (tm (1#8 <<< i.1) b) c) (fun b => tm (1#8 <<< i.1) (tm b c)) (fun x y => by simp only [tm_a, tm_b]) (fun x y => by simp only [tm_a, tm_b]) (fun j => ?_) b
  refine lin_ext (fun c => tm (tm (1#8 <<< i.1) (1#8 <<< j.1)) c) (fun c => tm (1#8 <<< i.1) (tm (1#8 <<< j.1) c)) (fun x y => by simp only [tm_b]) (fun x y => by simp only [tm_b]) (fun k => ?_) c
  have : ∀ i j k : Fin 8, tm (tm (1#8 <<< i.1) (1#8 <<< j.1)) (1#8 <<< k.1) = tm (1#8 <<< i.1) (tm (1#8 <<< j.1) (1#8 <<< k.1)) := by decide +kernel
  exact this i j k
end Go.Proofs.Ytiblkbkdfebfbaa.Own
