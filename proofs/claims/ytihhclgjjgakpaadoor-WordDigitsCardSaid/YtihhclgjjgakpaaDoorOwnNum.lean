/- Plain laws: decimal digits and the numbers that they are, both ways; base 16, both ways. No conditions. -/
import Derived.Test.YtihhclgjjgakpaaDoorMyNum
namespace Go.Proofs.YtihhclgjjgakpaaDoor.Fmt
open Go.RowKit Go.Lib Go.Proofs.YtihhclgjjgakpaaDoorW.PrintWords Go.Proofs.YtihhclgjjgakpaaDoorW.PrintLast Go.Proofs.YtihhclgjjgakpaaDoorW.PrintMore
open Go.Proofs.YtihhclgjjgakpaaDoor.Own

theorem numT_val (l : List UInt8) : ∀ acc, Dec l → numT acc l = if acc * 10 ^ l.length + dv l < 18446744073709551616 then (((acc * 10 ^ l.length + dv l : Nat) : Int), 0) else (0, 7) := by
  induction l with
  | nil => intro acc _; simp [numT, dv]
  | cons b l ih =>
    intro acc hd
    have hb := hd b (List.mem_cons_self ..)
    have e : acc * 10 ^ (b :: l).length + dv (b :: l) = (acc * 10 + (b.toNat - 48)) * 10 ^ l.length + dv l := by
      rw [dv_cons, List.length_cons, Nat.pow_succ, Nat.add_mul, Nat.mul_assoc acc 10, Nat.mul_comm 10, Nat.add_assoc]
    rw [numT, if_pos hb, ih _ (fun c hc => hd c (List.mem_cons_of_mem _ hc)), e]

theorem dv_snoc (l : List UInt8) (b : UInt8) : dv (l ++ [b]) = dv l * 10 + (b.toNat - 48) := by simp [dv]

theorem dv_pos (l : List UInt8) (hd : Dec l) (hne : l ≠ []) (hz : l.head? ≠ some 48) : 1 ≤ dv l := by
  cases l with
  | nil => exact absurd rfl hne
  | cons b l =>
    have hb := hd b (List.mem_cons_self ..)
    have : b.toNat ≠ 48 := fun h => hz (by rw [List.head?_cons, show b = 48 from UInt8.toNat_inj.1 h])
    rw [dv_cons]
    have h1 : 1 * 1 ≤ (b.toNat - 48) * 10 ^ l.length := Nat.mul_le_mul (by omega) (Nat.one_le_pow _ _ (by omega))
    omega

theorem digits_dv (n : Nat) : ∀ l : List UInt8, l.length = n → l ≠ [] → Dec l → ¬ (1 < l.length ∧ l.head? = some 48) → decDigits (dv l) = l := by
  induction n with
  | zero => intro l h hne; exact absurd (List.eq_nil_of_length_eq_zero h) hne
  | succ n ih =>
    intro l hl hne hd hz
    obtain ⟨m, b, rfl⟩ : ∃ m b, l = m ++ [b] := ⟨l.dropLast, l.getLast hne, (List.dropLast_concat_getLast hne).symm⟩
    have hb := hd b (by simp)
    rw [dv_snoc]
    have hbb : UInt8.ofNat (48 + (b.toNat - 48)) = b := by
      rw [show 48 + (b.toNat - 48) = b.toNat by omega]; simp
    by_cases hm : m = []
    · subst hm
      rw [decDigits, dif_pos (by simp [dv]; omega)]
      simp only [dv, List.foldl_nil, Nat.zero_mul, Nat.zero_add, List.nil_append]
      rw [hbb]
    · have hmd : Dec m := fun c hc => hd c (by simp [hc])
      have hlm : m.length = n := by simpa using hl
      have hpos : 0 < m.length := List.length_pos_iff.2 hm
      have hhead : (m ++ [b]).head? = m.head? := by
        cases m with
        | nil => exact absurd rfl hm
        | cons c m => rfl
      have hnz : m.head? ≠ some 48 := fun h => hz ⟨by rw [List.length_append]; simp; omega, by rw [hhead, h]⟩
      have h1 := dv_pos m hmd hm hnz
      rw [decDigits, dif_neg (by omega), show (dv m * 10 + (b.toNat - 48)) / 10 = dv m by omega, show (dv m * 10 + (b.toNat - 48)) % 10 = b.toNat - 48 by omega, hbb,
        ih m hlm hm hmd (fun h => hnz h.2)]

theorem numS_cases (l : List UInt8) : (∃ u : Nat, u < 18446744073709551616 ∧ numS l = ((u : Int), 0) ∧ decDigits u = l) ∨ numS l = (0, 4) ∨ numS l = (0, 7) := by
  unfold numS
  by_cases h0 : l = []
  · rw [if_pos h0]; exact .inr (.inl rfl)
  · rw [if_neg h0]
    by_cases h1 : 1 < l.length ∧ l.head? = some 48
    · rw [if_pos h1]; exact .inr (.inl rfl)
    · rw [if_neg h1]
      by_cases hd : Dec l
      · rw [numT_val l 0 hd]
        rw [Nat.zero_mul, Nat.zero_add]
        split
        · next h => exact .inl ⟨dv l, h, rfl, digits_dv _ l rfl h0 hd h1⟩
        · exact .inr (.inr rfl)
      · right; left
        refine numT_bad l 0 ?_
        unfold Dec at hd
        simp only [Classical.not_forall] at hd
        obtain ⟨b, hb, hn⟩ := hd
        exact ⟨b, hb, hn⟩

theorem numS_digits (u : Nat) (h : u < 18446744073709551616) : numS (decDigits u) = ((u : Int), 0) := by
  have hd := dec_digits u
  have hp : 1 ≤ nDigits u := by rw [nDigits]; split <;> omega
  have hlen := decDigits_length u
  have hne : decDigits u ≠ [] := by intro e; rw [e] at hlen; simp at hlen; omega
  unfold numS
  rw [if_neg hne, if_neg, numT_val _ 0 hd.1, Nat.zero_mul, Nat.zero_add, hd.2, if_pos h]
  rintro ⟨h1, h2⟩
  have hlow := nDigits_low u
  have hdd := hd.1
  have hdv := hd.2
  revert hlen h1 h2 hdd hdv
  generalize decDigits u = l
  intro hlen h1 h2 hdd hdv
  cases l with
  | nil => simp at h2
  | cons b l =>
    obtain rfl : b = 48 := by simpa using h2
    have hlt := dv_lt l (fun c hc => hdd c (List.mem_cons_of_mem _ hc))
    rw [dv_cons] at hdv
    have e48 : (48 : UInt8).toNat - 48 = 0 := rfl
    rw [e48, Nat.zero_mul, Nat.zero_add] at hdv
    simp only [List.length_cons] at hlen h1
    by_cases hu : 1 ≤ u
    · have := hlow hu
      rw [← hlen, Nat.add_sub_cancel] at this
      omega
    · obtain rfl : u = 0 := by omega
      rw [show nDigits 0 = 1 by rw [nDigits]; simp] at hlen
      omega

/-! ### base 16 -/
def hexV (c : Nat) : Nat := if 48 ≤ c ∧ c ≤ 57 then c - 48 else if 97 ≤ c ∧ c ≤ 102 then c - 87 else 16

def unh : List UInt8 → Option (List Int)
  | [] => some []
  | [_] => none
  | a :: b :: r => if hexV a.toNat < 16 ∧ hexV b.toNat < 16 then (unh r).map fun l => ((hexV a.toNat * 16 + hexV b.toNat : Nat) : Int) :: l else none

theorem hexV_le (c : Nat) : hexV c ≤ 16 := by unfold hexV; split <;> (try split) <;> omega

theorem hexV_hexD : ∀ n : Fin 16, hexV (hexD n.1).toNat = n.1 := by decide

theorem unh_hexL (l : List UInt8) : unh (hexL l) = some (l.map fun b => (b.toNat : Int)) := by
  induction l with
  | nil => rfl
  | cons b l ih =>
    have e : hexL (b :: l) = hexD (b.toNat / 16) :: hexD (b.toNat % 16) :: hexL l := rfl
    have h := b.toNat_lt
    have h1 := hexV_hexD ⟨b.toNat / 16, by omega⟩
    have h2 := hexV_hexD ⟨b.toNat % 16, by omega⟩
    simp only at h1 h2
    rw [e, unh, h1, h2, if_pos (by omega), ih]
    simp only [Option.map_some, List.map_cons]
    congr 2
    omega

theorem unh_fail (l : List UInt8) : ∀ j, 2 * j < l.length → (2 * j + 1 = l.length ∨ (∃ b, l[2 * j]? = some b ∧ hexV b.toNat = 16) ∨ (∃ b, l[2 * j + 1]? = some b ∧ hexV b.toNat = 16)) → unh l = none := by
  induction l using unh.induct with
  | case1 => intro j h; simp at h
  | case2 => intro j _ _; rfl
  | case3 a b r h ih =>
    intro j hj hc
    rw [unh, if_pos h]
    cases j with
    | zero =>
      rcases hc with h1 | ⟨c, h1, h2⟩ | ⟨c, h1, h2⟩
      · simp at h1
      · obtain rfl : a = c := by simpa using h1
        omega
      · obtain rfl : b = c := by simpa using h1
        omega
    | succ j =>
      rw [ih j (by simp at hj; omega) ?_]
      · rfl
      · rcases hc with h1 | ⟨c, h1, h2⟩ | ⟨c, h1, h2⟩
        · left; simp at h1; omega
        · right; left
          exact ⟨c, by rw [show 2 * (j + 1) = 2 * j + 1 + 1 by omega] at h1; simpa using h1, h2⟩
        · right; right
          exact ⟨c, by rw [show 2 * (j + 1) + 1 = 2 * j + 1 + 1 + 1 by omega] at h1; simpa using h1, h2⟩
  | case4 a b r h =>
    intro j _ _
    rw [unh, if_neg h]

/-- What is read behind j pairs. -/
def UnAt (l : List UInt8) (j : Nat) (xs : List Int) : Prop := xs.length = j ∧ 2 * j ≤ l.length ∧ unh l = (unh (l.drop (2 * j))).map (xs ++ ·)

theorem unAt_zero (l : List UInt8) : UnAt l 0 [] := ⟨rfl, by omega, by simp⟩

theorem unAt_succ (l : List UInt8) (j : Nat) (xs : List Int) (a b : UInt8) (h : UnAt l j xs) (ha : l[2 * j]? = some a) (hb : l[2 * j + 1]? = some b) (h1 : hexV a.toNat < 16) (h2 : hexV b.toNat < 16) :
    UnAt l (j + 1) (xs ++ [((hexV a.toNat * 16 + hexV b.toNat : Nat) : Int)]) := by
  obtain ⟨e1, e2, e3⟩ := h
  have la := (List.getElem?_eq_some_iff.1 ha).1
  have lb := (List.getElem?_eq_some_iff.1 hb).1
  refine ⟨by simp [e1], by omega, ?_⟩
  rw [e3]
  have d1 : l.drop (2 * j) = a :: b :: l.drop (2 * (j + 1)) := by
    rw [List.drop_eq_getElem_cons la, List.drop_eq_getElem_cons lb]
    rw [List.getElem?_eq_getElem la] at ha
    rw [List.getElem?_eq_getElem lb] at hb
    rw [Option.some.inj ha, Option.some.inj hb]
    rfl
  rw [d1, unh, if_pos ⟨h1, h2⟩, Option.map_map]
  congr 1
  funext m
  simp

theorem unAt_end (l : List UInt8) (j : Nat) (xs : List Int) (h : UnAt l j xs) (he : l.length ≤ 2 * j) : unh l = some xs := by
  rw [h.2.2, List.drop_eq_nil_of_le he]
  simp [unh]
end Go.Proofs.YtihhclgjjgakpaaDoor.Fmt
