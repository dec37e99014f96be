/- Plain laws on bytes: how texts of one length stand as the numbers that they are. No conditions. -/
import Derived.Laws.Strings
import Derived.Laws.BytesArg
import Derived.RowKit
import Derived.Laws.Bits64
namespace Go.Proofs.YthpmhjlndnelfaaDoor.Own
open Go.RowKit

def val (l : List UInt8) : Nat := l.foldl (fun n b => n * 256 + b.toNat) 0

theorem foldl_val (l : List UInt8) (n : Nat) : l.foldl (fun n b => n * 256 + b.toNat) n = n * 256 ^ l.length + val l := by
  induction l generalizing n with
  | nil => simp [val]
  | cons b l ih =>
    unfold val
    simp only [List.foldl_cons, List.length_cons]
    rw [ih, ih (0 * 256 + b.toNat), Nat.pow_succ, Nat.zero_mul, Nat.zero_add, Nat.add_mul, Nat.mul_assoc n, Nat.mul_comm 256]; omega

theorem val_cons (b : UInt8) (l : List UInt8) : val (b :: l) = b.toNat * 256 ^ l.length + val l := by
  have := foldl_val l b.toNat
  unfold val at *
  simp only [List.foldl_cons, Nat.zero_mul, Nat.zero_add]; exact this

theorem val_lt (l : List UInt8) : val l < 256 ^ l.length := by
  induction l with
  | nil => simp [val]
  | cons b l ih =>
    rw [val_cons, List.length_cons, Nat.pow_succ]
    have h1 : b.toNat ≤ 255 := by have := b.toNat_lt; omega
    have h2 : b.toNat * 256 ^ l.length ≤ 255 * 256 ^ l.length := Nat.mul_le_mul_right _ h1
    omega

theorem less_val (x y : List UInt8) (h : x.length = y.length) : Op.bytesLess x y = decide (val x < val y) := by
  induction x generalizing y with
  | nil =>
    cases y with
    | nil => simp [Op.bytesLess, val]
    | cons b y => simp at h
  | cons a x ih =>
    cases y with
    | nil => simp at h
    | cons b y =>
      simp only [List.length_cons, Nat.add_right_cancel_iff] at h
      rw [Op.bytesLess, ih y h, val_cons, val_cons, h]
      have hx := val_lt x
      have hy := val_lt y
      rw [h] at hx
      rw [Bool.eq_iff_iff]
      simp only [Bool.or_eq_true, Bool.and_eq_true, decide_eq_true_eq, beq_iff_eq]
      rw [UInt8.lt_iff_toNat_lt]
      constructor
      · rintro (h1 | ⟨rfl, h2⟩)
        · have := Nat.mul_le_mul_right (256 ^ y.length) (show a.toNat + 1 ≤ b.toNat by omega)
          rw [Nat.add_mul] at this
          omega
        · omega
      · intro h1
        by_cases h2 : a.toNat < b.toNat
        · exact .inl h2
        · right
          by_cases h3 : a.toNat = b.toNat
          · exact ⟨UInt8.toNat_inj.1 h3, by rw [h3] at h1; omega⟩
          · exfalso
            have := Nat.mul_le_mul_right (256 ^ y.length) (show b.toNat + 1 ≤ a.toNat by omega)
            rw [Nat.add_mul] at this
            omega

theorem toList_str (xs : List Int) : (strOfNums xs).toList = xs.map fun n => UInt8.ofNat n.toNat := by
  unfold strOfNums
  rw [ByteArray.toList_mk]

theorem ofNat_toNat (n : Nat) (h : n < 256) : (UInt8.ofNat n).toNat = n := by
  simp; omega

theorem val_inj (x y : List UInt8) (h : x.length = y.length) (hv : val x = val y) : x = y := by
  induction x generalizing y with
  | nil =>
    cases y with
    | nil => rfl
    | cons b y => simp at h
  | cons a x ih =>
    cases y with
    | nil => simp at h
    | cons b y =>
      simp only [List.length_cons, Nat.add_right_cancel_iff] at h
      rw [val_cons, val_cons, h] at hv
      have hx := val_lt x
      have hy := val_lt y
      rw [h] at hx
      have h3 : a.toNat = b.toNat := by
        rcases Nat.lt_trichotomy a.toNat b.toNat with h2 | h2 | h2
        · have := Nat.mul_le_mul_right (256 ^ y.length) (show a.toNat + 1 ≤ b.toNat by omega)
          rw [Nat.add_mul] at this
          omega
        · exact h2
        · have := Nat.mul_le_mul_right (256 ^ y.length) (show b.toNat + 1 ≤ a.toNat by omega)
          rw [Nat.add_mul] at this
          omega
      rw [UInt8.toNat_inj.1 h3, ih y h (by rw [h3] at hv; omega)]

theorem val_snoc (l : List UInt8) (b : UInt8) : val (l ++ [b]) = val l * 256 + b.toNat := by simp [val]

/-- The n lowest bytes of a number, the highest first. -/
def be : Nat → Int → List Int
  | 0, _ => []
  | n + 1, a => be n (a / 256) ++ [a % 256]

theorem be_length (n : Nat) (a : Int) : (be n a).length = n := by
  induction n generalizing a with
  | zero => rfl
  | succ n ih => simp [be, ih]

def u8s (l : List Int) : List UInt8 := l.map fun n => UInt8.ofNat n.toNat

theorem u8s_length (l : List Int) : (u8s l).length = l.length := by simp [u8s]

theorem emod_split (a M : Int) : a % (256 * M) = a / 256 % M * 256 + a % 256 := by
  have h1 := Int.emod_def a (256 * M)
  have h2 := Int.emod_def (a / 256) M
  have h3 : a / (256 * M) = a / 256 / M := by rw [Int.ediv_ediv_of_nonneg (by omega)]
  rw [h3, Int.mul_assoc] at h1
  omega

theorem val_be (n : Nat) (a : Int) : (val (u8s (be n a)) : Int) = a % (256 ^ n : Nat) := by
  induction n generalizing a with
  | zero => simp [be, val, u8s, Int.emod_one]
  | succ n ih =>
    have h : u8s (be (n + 1) a) = u8s (be n (a / 256)) ++ [UInt8.ofNat (a % 256).toNat] := by simp [u8s, be]
    rw [h, val_snoc, ofNat_toNat _ (by omega), Int.natCast_add, Int.natCast_mul, ih]
    rw [Nat.pow_succ, Nat.mul_comm (256 ^ n) 256, Int.natCast_mul, show ((256 : Nat) : Int) = 256 from rfl, emod_split]
    omega

theorem wf64 {a : Int} (h : (Lit.int .u64 a).wf = true) : 0 ≤ a ∧ a < 18446744073709551616 := by
  simp [Lit.wf, IntKind.min, IntKind.max, IntKind.signed, IntKind.bits] at h
  omega

theorem wfi64 {a : Int} (h : (Lit.int .i64 a).wf = true) : -9223372036854775808 ≤ a ∧ a ≤ 9223372036854775807 := by
  simp [Lit.wf, IntKind.min, IntKind.max, IntKind.signed, IntKind.bits] at h
  omega

theorem wfu8 {a : Int} (h : (Lit.int .u8 a).wf = true) : 0 ≤ a ∧ a < 256 := by
  simp [Lit.wf, IntKind.min, IntKind.max, IntKind.signed, IntKind.bits] at h
  omega

theorem wrap64_in {a : Int} (h : -9223372036854775808 ≤ a ∧ a ≤ 9223372036854775807) : wrap64 a = a := by
  unfold wrap64; omega

end Go.Proofs.YthpmhjlndnelfaaDoor.Own
