/- What was written of digits is read back: the digits' number and the exponent; in plain Lean. No conditions. The digits that are read stand for what was written; how large their exponent is. No conditions. A finite number's text is read back: digits in its interval. No conditions but 64 bits. What is rounded from the digits that are read is the number itself. No conditions but 64 bits. Digits lie in the interval of one number alone. No conditions but 64 bits. Same: its contract: two numbers are the same just if they stand at one place. The condition: 64 bits. How a number's text begins; texts and numbers one to one. No conditions but 64 bits. Texts as rows of bytes. No conditions but 64 bits. commonPrefixLenIgnoreCase, special: their contracts. The condition: the text is of at most 60 bytes. -/
import Derived.Test.YtjniglmijikojaaGreatDoorGMyRead
import Derived.Test.YtjniglmijikojaaGreatDoorGOwnDig
import Derived.Test.YtjniglmijikojaaGreatDoorGOwnPw
import Derived.Test.YtjniglmijikojaaGreatDoorGOwnQuo
import Derived.Test.YtjniglmijikojaaGreatDoorGOwnFloat
import Derived.Test.YtjniglmijikojaaGreatDoorGMyW0
namespace Go.Proofs.YtjniglmijikojaaGreatDoor.Text
set_option linter.unusedSimpArgs false
set_option linter.unusedVariables false
open Go.Lib Go.Proofs.YtjniglmijikojaaGreatDoor.Own

/-- The number of a row of digits behind a. -/
def valL (a : Nat) (l : List Int) : Nat := l.foldl (fun a c => a * 10 + (c - 48).toNat) a
theorem valL_app (a : Nat) (l r : List Int) : valL a (l ++ r) = valL (valL a l) r := List.foldl_append
theorem valL_one (a : Nat) (c : Int) : valL a [c] = a * 10 + (c - 48).toNat := rfl
theorem dls_succ (d n : Nat) : dls d (n + 1) = dls (d / 10) n ++ [((d % 10 : Nat) : Int) + 48] := by
  unfold dls
  rw [List.range_succ, List.map_append]
  congr 1
  · apply List.map_congr_left
    intro j hj
    have hj' : j < n := List.mem_range.1 hj
    rw [Nat.div_div_eq_div_mul, Nat.mul_comm, ← Nat.pow_succ, show n + 1 - 1 - j = n - 1 - j + 1 by omega]
  · simp
theorem valL_dls (a : Nat) : ∀ (n d : Nat), valL a (dls d n) = a * 10 ^ n + d % 10 ^ n
  | 0, d => by simp [dls, valL, Nat.mod_one]
  | n + 1, d => by
    rw [dls_succ, valL_app, valL_one, valL_dls a n (d / 10), Nat.pow_succ]
    have e := Nat.mod_mul (x := d) (a := 10) (b := 10 ^ n)
    rw [Nat.mul_comm (10 ^ n) 10, e]
    have : ((d % 10 : Nat) : Int) + 48 - 48 = ((d % 10 : Nat) : Int) := by omega
    rw [this, Int.toNat_natCast, Nat.add_mul, Nat.mul_assoc, Nat.mul_comm (10 ^ n) 10, Nat.mul_comm (d / 10 % 10 ^ n) 10]
    omega
theorem valL_zeros (a : Nat) : ∀ k, valL a (zeros k) = a * 10 ^ k
  | 0 => by simp [zeros, valL]
  | k + 1 => by
    have e : zeros (k + 1) = zeros k ++ [48] := by unfold zeros; rw [List.replicate_succ']
    rw [e, valL_app, valL_zeros a k, valL_one, Nat.pow_succ, ← Nat.mul_assoc]
    simp
/-- All are digits. -/
def AllD (l : List Int) : Prop := ∀ c, c ∈ l → 48 ≤ c ∧ c ≤ 57
theorem allD_dls (d n : Nat) : AllD (dls d n) := by
  intro c hc
  unfold dls at hc
  obtain ⟨j, _, rfl⟩ := List.mem_map.1 hc
  have : d / 10 ^ (n - 1 - j) % 10 < 10 := Nat.mod_lt _ (by omega)
  omega
theorem allD_zeros (k : Nat) : AllD (zeros k) := by
  intro c hc
  have := List.eq_of_mem_replicate hc
  omega
theorem scan_digs : ∀ (l : List Int) (r : List Int) (x : RS), AllD l → (x.nd ≠ 0 ∨ ∀ c t, l = c :: t → c ≠ 48) → x.nm + l.length ≤ 19 →
    scan false (l ++ r) x = scan false r ⟨valL x.m l, x.nd + l.length, x.nm + l.length, x.dp, x.us, x.dot, x.dig || !l.isEmpty, x.tr⟩
  | [], r, x, _, _, _ => by
    obtain ⟨a, b, c, d, e, f, g, h⟩ := x
    simp [valL]
  | c :: t, r, x, hl, h0, hn => by
    have hc := hl c (List.mem_cons_self)
    obtain ⟨d, rfl⟩ : ∃ d : Nat, c = (d : Int) + 48 := ⟨(c - 48).toNat, by omega⟩
    have hz : x.nd ≠ 0 ∨ d ≠ 0 := by
      rcases h0 with h | h
      · exact .inl h
      · have := h _ _ rfl
        exact .inr (by omega)
    simp only [List.length_cons] at hn
    have hs := st_d false x d (by omega) hz (show x.nm < 19 by omega)
    rw [List.cons_append, scan_on hs]
    have ih := scan_digs t r { x with dig := true, nd := x.nd + 1, m := x.m * base false + d, nm := x.nm + 1 } (fun c hc => hl c (List.mem_cons_of_mem _ hc)) (.inl (by simp)) (by simp; omega)
    rw [ih]
    have e1 : valL x.m (((d : Int) + 48) :: t) = valL (x.m * base false + d) t := by
      show valL (x.m * 10 + ((d : Int) + 48 - 48).toNat) t = _
      have : ((d : Int) + 48 - 48).toNat = d := by omega
      rw [this]
      rfl
    rw [e1]
    simp only [List.length_cons, List.isEmpty_cons, Bool.not_false, Bool.or_true, Bool.true_or]
    congr 2 <;> omega
theorem scan_zeros : ∀ (k : Nat) (r : List Int) (x : RS), x.nd = 0 → scan false (zeros k ++ r) x = scan false r { x with dig := x.dig || decide (0 < k), dp := x.dp - k }
  | 0, r, x, _ => by
    obtain ⟨a, b, c, d, e, f, g, h⟩ := x
    simp [zeros]
  | k + 1, r, x, h => by
    have e : zeros (k + 1) ++ r = 48 :: (zeros k ++ r) := rfl
    rw [e, scan_on (st_z false x h), scan_zeros k r { x with dig := true, dp := x.dp - 1 } h]
    simp only [Bool.true_or, decide_true, Bool.or_true, Nat.zero_lt_succ]
    congr 2
    omega

theorem signed_sgl (neg : Bool) (c : Int) (t : List Int) (h1 : c ≠ 43) (h2 : c ≠ 45) : signed (sgl neg ++ c :: t) = (neg, c :: t) := by
  cases neg
  · exact sg_o (l := c :: t) rfl h1 h2
  · rfl
theorem lw_small : ∀ n : Fin 64, lw ((n.val : Nat) : Int) ≠ 120 ∧ lw ((n.val : Nat) : Int) ≠ 101 := by decide +kernel
theorem lw_no (c : Int) (h1 : 0 ≤ c) (h2 : c < 64) : lw c ≠ 120 ∧ lw c ≠ 101 := by
  have h := lw_small ⟨c.toNat, by omega⟩
  simp only [Int.toNat_of_nonneg h1] at h
  exact h
theorem hex_no (a b : Int) (t : List Int) (h1 : 0 ≤ b) (h2 : b < 64 ∨ b = 101) : isHex (a :: b :: t) = false := by
  cases t with
  | nil => rfl
  | cons c t =>
    show (a == 48 && lw b == 120) = false
    have : (lw b == 120) = false := by
      rcases h2 with h | h
      · exact beq_eq_false_iff_ne.2 (lw_no b h1 h).1
      · subst h; decide +kernel
    rw [this, Bool.and_false]

/-- What reads of a row without a sign. -/
theorem reads_of {l r : List Int} {neg : Bool} (hs : signed l = (neg, r)) (hh : isHex r = false) : reads l = behind false (scan false r rs0) := by
  unfold reads unhex
  rw [hs]
  simp only [hh]
  rfl
/-- The end behind digits, where nothing follows. -/
theorem behind_end (x : RS) (h : x.dig = true) (hu : x.us = false) : behind false (x, []) = some (x.m, if x.m = 0 then 0 else dpx false x - x.nm, x.tr, false, []) := by
  rw [behind_ex h, hu]
  rfl
theorem scanE_one (c : Int) (t : List Int) (e : Int) (u : Bool) (hc : 48 ≤ c ∧ c ≤ 57) (he : e < 10000) : scanE (c :: t) e u = scanE t (e * 10 + c - 48) u := by
  rw [scanE, if_neg (by omega), if_pos hc, if_pos he]
/-- The exponent's digits are read. -/
theorem scanE_exps (X : Int) (h0 : 0 ≤ X) (h1 : X ≤ 999) : scanE (exps X) 0 false = (X, false, []) := by
  unfold exps
  split
  · rw [scanE_one _ _ _ _ (by omega) (by omega), scanE_one _ _ _ _ (by omega) (by omega)]
    show ((0 * 10 + 48 - 48) * 10 + (X + 48) - 48, false, []) = _
    congr 1
    omega
  · split
    · rw [scanE_one _ _ _ _ (by omega) (by omega), scanE_one _ _ _ _ (by omega) (by omega)]
      show ((0 * 10 + (X / 10 + 48) - 48) * 10 + (X % 10 + 48) - 48, false, []) = _
      congr 1
      omega
    · rw [scanE_one _ _ _ _ (by omega) (by omega), scanE_one _ _ _ _ (by omega) (by omega), scanE_one _ _ _ _ (by omega) (by omega)]
      show (((0 * 10 + (X / 100 + 48) - 48) * 10 + (X / 10 % 10 + 48) - 48) * 10 + (X % 10 + 48) - 48, false, []) = _
      congr 1
      omega
theorem exps_cons (X : Int) (h0 : 0 ≤ X) (h1 : X ≤ 999) : ∃ c t, exps X = c :: t ∧ 48 ≤ c ∧ c ≤ 57 := by
  unfold exps
  split
  · exact ⟨48, _, rfl, by omega, by omega⟩
  · split
    · exact ⟨_, _, rfl, by omega, by omega⟩
    · exact ⟨_, _, rfl, by omega, by omega⟩
/-- The exponent behind digits. -/
theorem expo_txE (D : Int) (dp : Int) (h1 : -400 ≤ dp) (h2 : dp ≤ 400) : expo false D false ([101] ++ (if dp - 1 < 0 then 45 :: exps (-(dp - 1)) else 43 :: exps (dp - 1))) = some (D + (dp - 1), false, []) := by
  have hlw : lw 101 = xch false := by decide +kernel
  show expo false D false (101 :: (if dp - 1 < 0 then 45 :: exps (-(dp - 1)) else 43 :: exps (dp - 1))) = _
  rw [expo_e hlw]
  by_cases h : dp - 1 < 0
  · rw [if_pos h]
    obtain ⟨c, t, e, c1, c2⟩ := exps_cons (-(dp - 1)) (by omega) (by omega)
    have hs : esign (45 :: exps (-(dp - 1))) = (-1, exps (-(dp - 1))) := rfl
    rw [hs]
    unfold edig
    have hx := scanE_exps (-(dp - 1)) (by omega) (by omega)
    rw [e] at hx
    simp only [e, hx]
    rw [if_pos ⟨c1, c2⟩]
    congr 2
    omega
  · rw [if_neg h]
    obtain ⟨c, t, e, c1, c2⟩ := exps_cons (dp - 1) (by omega) (by omega)
    have hs : esign (43 :: exps (dp - 1)) = (1, exps (dp - 1)) := rfl
    rw [hs]
    unfold edig
    have hx := scanE_exps (dp - 1) (by omega) (by omega)
    rw [e] at hx
    simp only [e, hx]
    rw [if_pos ⟨c1, c2⟩]
    congr 2
    omega

theorem st_e (x : RS) : step false 101 x = none := st_no false x 101 (by decide) (by decide) (by decide) (by simp)
/-- What is read of a number written with an exponent. -/
theorem back_e (neg : Bool) (c : Int) (r : List Int) (dp : Int) (m : Nat) (hc : 49 ≤ c ∧ c ≤ 57) (hr : AllD r) (hl : r.length ≤ 16) (h1 : -400 ≤ dp) (h2 : dp ≤ 400) (hm : valL 0 (c :: r) = m) (hm0 : 0 < m) :
    reads (txE neg c r dp) = some (m, dp - ((r.length + 1 : Nat) : Int), false, false, []) ∧ signed (txE neg c r dp) = (neg, (txE false c r dp)) ∧ isHex (txE false c r dp) = false := by
  obtain ⟨X, hX⟩ : ∃ X, [101] ++ (if dp - 1 < 0 then 45 :: exps (-(dp - 1)) else 43 :: exps (dp - 1)) = X := ⟨_, rfl⟩
  have hX0 : ∃ t, X = 101 :: t := ⟨_, hX.symm⟩
  have ex := expo_txE 1 dp h1 h2
  rw [hX] at ex
  have eF : txE false c r dp = c :: ((if r = [] then [] else 46 :: r) ++ X) := by
    unfold txE
    rw [← hX]
    show [] ++ [c] ++ _ ++ [101] ++ _ = _
    simp
  have eN : txE neg c r dp = sgl neg ++ c :: ((if r = [] then [] else 46 :: r) ++ X) := by
    unfold txE
    rw [← hX]
    simp
  have hs : signed (txE neg c r dp) = (neg, txE false c r dp) := by
    rw [eN, eF]
    exact signed_sgl neg c _ (by omega) (by omega)
  obtain ⟨tX, htX⟩ := hX0
  have hh : isHex (txE false c r dp) = false := by
    rw [eF]
    by_cases e : r = []
    · rw [if_pos e, htX]
      exact hex_no c 101 _ (by omega) (.inr rfl)
    · rw [if_neg e]
      exact hex_no c 46 _ (by omega) (.inl (by omega))
  refine ⟨?_, hs, hh⟩
  rw [reads_of hs hh, eF]
  have hd1 : AllD [c] := fun z hz => by rw [List.mem_singleton.1 hz]; omega
  have s1 := scan_digs [c] ((if r = [] then [] else 46 :: r) ++ X) rs0 hd1 (.inr (fun z t e => by injection e with e1 _; rw [← e1]; omega)) (by simp [rs0])
  rw [List.singleton_append] at s1
  rw [s1]
  by_cases e : r = []
  · subst e
    rw [if_pos rfl, List.nil_append, htX, scan_off (st_e _), behind_ex rfl]
    rw [htX] at ex
    have hm' : valL rs0.m [c] = m := hm
    simp only [hm']
    have hdx : dpx false ⟨m, rs0.nd + [c].length, rs0.nm + [c].length, rs0.dp, rs0.us, rs0.dot, rs0.dig || ![c].isEmpty, rs0.tr⟩ = 1 := rfl
    have hnx : nmx false ⟨m, rs0.nd + [c].length, rs0.nm + [c].length, rs0.dp, rs0.us, rs0.dot, rs0.dig || ![c].isEmpty, rs0.tr⟩ = 1 := rfl
    rw [hdx, hnx]
    show (expo false 1 false (101 :: tX)).map _ = _
    rw [ex]
    show some (m, if m = 0 then 0 else 1 + (dp - 1) - 1, false, false, []) = _
    rw [if_neg (by omega)]
    congr 3
    simp only [List.length_nil]
    omega
  · rw [if_neg e]
    have hst := st_46f false ⟨valL rs0.m [c], rs0.nd + [c].length, rs0.nm + [c].length, rs0.dp, rs0.us, rs0.dot, rs0.dig || ![c].isEmpty, rs0.tr⟩ rfl
    rw [List.cons_append, scan_on hst, scan_digs r X _ hr (.inl (by simp [rs0])) (by simp [rs0]; omega), htX, scan_off (st_e _)]
    have hm' : valL (valL rs0.m [c]) r = m := by rw [← hm]; rfl
    simp only [hm']
    rw [behind_ex (by simp [rs0])]
    rw [htX] at ex
    have ed : ∀ x : RS, x.dot = true → x.dp = 1 → dpx false x = 1 := fun x a b => by unfold dpx; simp [a, b]
    rw [ed _ rfl (by simp [rs0])]
    show (expo false 1 false (101 :: tX)).map _ = _
    rw [ex]
    have en : ∀ x : RS, nmx false x = (x.nm : Int) := fun x => rfl
    simp only [Option.map_some, en]
    rw [if_neg (by omega)]
    simp [rs0]
    omega

theorem behind_fin (x : RS) (m : Nat) (D : Int) (hm : x.m = m) (hm0 : 0 < m) (hd : x.dig = true) (hu : x.us = false) (ht : x.tr = false) (hD : dpx false x - x.nm = D) : behind false (x, []) = some (m, D, false, false, []) := by
  rw [behind_end x hd hu, hm, if_neg (by omega), hD, ht]
theorem hex_F (a b : Int) (t : List Int) (h1 : 0 ≤ b) (h2 : b < 64) : isHex (a :: b :: t) = false := hex_no a b t h1 (.inl h2)
/-- What is read of a number written without an exponent: whole numbers. -/
theorem back_f1 (neg : Bool) (c : Int) (r : List Int) (dp : Int) (m : Nat) (hd : AllD (c :: r)) (hc : c ≠ 48) (hl : r.length ≤ 16) (h1 : ((c :: r).length : Int) ≤ dp) (h2 : dp ≤ 6) (hm : valL 0 (c :: r) = m) (hm0 : 0 < m) :
    ∃ j : Nat, (j : Int) = dp - ((c :: r).length : Int) ∧ reads (txF neg (c :: r) dp) = some (m * 10 ^ j, 0, false, false, []) ∧ signed (txF neg (c :: r) dp) = (neg, txF false (c :: r) dp) ∧ isHex (txF false (c :: r) dp) = false := by
  obtain ⟨j, hj⟩ : ∃ j : Nat, (j : Int) = dp - ((c :: r).length : Int) := ⟨(dp - ((c :: r).length : Int)).toNat, by omega⟩
  have hlen : ((c :: r).length : Int) = (r.length : Int) + 1 := by simp
  have eF : ∀ ng, txF ng (c :: r) dp = sgl ng ++ c :: (r ++ zeros j) := fun ng => by
    unfold txF
    rw [if_pos (by omega), if_neg (by omega), List.take_of_length_le (by simp; omega), show (dp - ((c :: r).length : Int)).toNat = j by omega]
    simp
  have e0 : txF false (c :: r) dp = c :: (r ++ zeros j) := eF false
  have hcd := hd c List.mem_cons_self
  have hall : AllD (c :: (r ++ zeros j)) := fun z hz => by
    rw [← List.cons_append] at hz
    rcases List.mem_append.1 hz with h | h
    · exact hd z h
    · exact allD_zeros j z h
  have hs : signed (txF neg (c :: r) dp) = (neg, txF false (c :: r) dp) := by
    rw [eF neg, e0]
    exact signed_sgl neg c _ (by omega) (by omega)
  have hh : isHex (txF false (c :: r) dp) = false := by
    rw [e0]
    match hq : r ++ zeros j with
    | [] => rfl
    | b :: t =>
      have hb := hall b (by rw [hq]; simp)
      exact hex_F c b t (by omega) (by omega)
  refine ⟨j, hj, ?_, hs, hh⟩
  rw [reads_of hs hh, e0]
  have s1 := scan_digs (c :: (r ++ zeros j)) [] rs0 hall (.inr (fun z t e => by injection e with e1 _; rw [← e1]; exact hc)) (by simp [rs0, zeros]; omega)
  rw [List.append_nil] at s1
  rw [s1]
  show behind false (_, []) = _
  have hv : valL 0 (c :: (r ++ zeros j)) = m * 10 ^ j := by rw [← List.cons_append, valL_app, hm, valL_zeros]
  refine behind_fin _ _ _ hv (Nat.mul_pos hm0 (Nat.pow_pos (by omega))) rfl rfl rfl ?_
  unfold dpx
  simp [rs0]

/-- A point among the digits. -/
theorem back_f2 (neg : Bool) (c : Int) (r : List Int) (dp : Int) (m : Nat) (hd : AllD (c :: r)) (hc : c ≠ 48) (hl : r.length ≤ 16) (h0 : 0 < dp) (h1 : dp < ((c :: r).length : Int)) (hm : valL 0 (c :: r) = m) (hm0 : 0 < m) :
    reads (txF neg (c :: r) dp) = some (m, dp - ((c :: r).length : Int), false, false, []) ∧ signed (txF neg (c :: r) dp) = (neg, txF false (c :: r) dp) ∧ isHex (txF false (c :: r) dp) = false := by
  obtain ⟨D, rfl⟩ : ∃ D : Nat, dp = ((D + 1 : Nat) : Int) := ⟨(dp - 1).toNat, by omega⟩
  have hlen : ((c :: r).length : Int) = (r.length : Int) + 1 := by simp
  have eF : ∀ ng, txF ng (c :: r) ((D + 1 : Nat) : Int) = sgl ng ++ c :: (r.take D ++ 46 :: r.drop D) := fun ng => by
    unfold txF
    rw [if_pos h0, if_pos h1, Int.toNat_natCast, show (((D + 1 : Nat) : Int) - ((c :: r).length : Int)).toNat = 0 by omega, show (-((D + 1 : Nat) : Int)).toNat = 0 by omega]
    simp [zeros]
  have e0 : txF false (c :: r) ((D + 1 : Nat) : Int) = c :: (r.take D ++ 46 :: r.drop D) := eF false
  have hcd := hd c List.mem_cons_self
  have hs : signed (txF neg (c :: r) ((D + 1 : Nat) : Int)) = (neg, txF false (c :: r) ((D + 1 : Nat) : Int)) := by
    rw [eF neg, e0]
    exact signed_sgl neg c _ (by omega) (by omega)
  have hh : isHex (txF false (c :: r) ((D + 1 : Nat) : Int)) = false := by
    rw [e0]
    match hq : r.take D with
    | [] => exact hex_F c 46 _ (by omega) (by omega)
    | b :: t =>
      have hb := hd b (List.mem_cons_of_mem _ (List.mem_of_mem_take (by rw [hq]; simp)))
      exact hex_F c b _ (by omega) (by omega)
  refine ⟨?_, hs, hh⟩
  rw [reads_of hs hh, e0]
  have ha : AllD (c :: r.take D) := fun z hz => by
    rcases List.mem_cons.1 hz with h | h
    · rw [h]; exact hcd
    · exact hd z (List.mem_cons_of_mem _ (List.mem_of_mem_take h))
  have hb : AllD (r.drop D) := fun z hz => hd z (List.mem_cons_of_mem _ (List.mem_of_mem_drop hz))
  have tl : (r.take D).length = D := by rw [List.length_take]; omega
  have dl : (r.drop D).length = r.length - D := List.length_drop
  have s1 := scan_digs (c :: r.take D) (46 :: r.drop D) rs0 ha (.inr (fun z t e => by injection e with e1 _; rw [← e1]; exact hc)) (by simp [rs0]; omega)
  rw [List.cons_append] at s1
  rw [s1]
  have hst := st_46f false ⟨valL rs0.m (c :: r.take D), rs0.nd + (c :: r.take D).length, rs0.nm + (c :: r.take D).length, rs0.dp, rs0.us, rs0.dot, rs0.dig || !(c :: r.take D).isEmpty, rs0.tr⟩ rfl
  rw [scan_on hst]
  have s2 := scan_digs (r.drop D) [] { (⟨valL rs0.m (c :: r.take D), rs0.nd + (c :: r.take D).length, rs0.nm + (c :: r.take D).length, rs0.dp, rs0.us, rs0.dot, rs0.dig || !(c :: r.take D).isEmpty, rs0.tr⟩ : RS) with dot := true, dp := ((rs0.nd + (c :: r.take D).length : Nat) : Int) } hb (.inl (by simp [rs0])) (by simp [rs0]; omega)
  rw [List.append_nil] at s2
  rw [s2]
  show behind false (_, []) = _
  have hv : valL (valL rs0.m (c :: r.take D)) (r.drop D) = m := by
    rw [← valL_app, List.cons_append, List.take_append_drop]
    exact hm
  refine behind_fin _ _ _ hv hm0 rfl rfl rfl ?_
  unfold dpx
  simp [rs0]
  omega
/-- Noughts ahead of the digits. -/
theorem back_f3 (neg : Bool) (c : Int) (r : List Int) (dp : Int) (m : Nat) (hd : AllD (c :: r)) (hc : c ≠ 48) (hl : r.length ≤ 16) (h0 : dp ≤ 0) (hm : valL 0 (c :: r) = m) (hm0 : 0 < m) :
    reads (txF neg (c :: r) dp) = some (m, dp - ((c :: r).length : Int), false, false, []) ∧ signed (txF neg (c :: r) dp) = (neg, txF false (c :: r) dp) ∧ isHex (txF false (c :: r) dp) = false := by
  obtain ⟨K, rfl⟩ : ∃ K : Nat, dp = -(K : Int) := ⟨(-dp).toNat, by omega⟩
  have hlen : ((c :: r).length : Int) = (r.length : Int) + 1 := by simp
  have eF : ∀ ng, txF ng (c :: r) (-(K : Int)) = sgl ng ++ 48 :: 46 :: (zeros K ++ (c :: r)) := fun ng => by
    unfold txF
    rw [if_neg (by omega), if_pos (by omega), show (-(-(K : Int))).toNat = K by omega, show (-(K : Int)).toNat = 0 by omega]
    simp
  have e0 : txF false (c :: r) (-(K : Int)) = 48 :: 46 :: (zeros K ++ (c :: r)) := eF false
  have hs : signed (txF neg (c :: r) (-(K : Int))) = (neg, txF false (c :: r) (-(K : Int))) := by
    rw [eF neg, e0]
    exact signed_sgl neg 48 _ (by omega) (by omega)
  have hh : isHex (txF false (c :: r) (-(K : Int))) = false := by
    rw [e0]
    exact hex_F 48 46 _ (by omega) (by omega)
  refine ⟨?_, hs, hh⟩
  rw [reads_of hs hh, e0, scan_on (st_z false rs0 rfl), scan_on (st_46f false _ rfl), scan_zeros K (c :: r) _ rfl]
  have s2 := scan_digs (c :: r) [] ⟨0, 0, 0, (0 : Int) - (K : Int), false, true, true || decide (0 < K), false⟩ hd (.inr (fun z t e => by injection e with e1 _; rw [← e1]; exact hc)) (by simp; omega)
  rw [List.append_nil] at s2
  refine Eq.trans (congrArg (behind false) s2) ?_
  show behind false (_, []) = _
  refine behind_fin _ _ _ hm hm0 (by simp) rfl rfl ?_
  unfold dpx
  simp

/-- What is read of what was written of d * 10^P. -/
theorem back_any (neg : Bool) (d : Nat) (P : Int) (hd : 0 < d) (hd17 : d < 10 ^ 17) (hP1 : -324 ≤ P) (hP2 : P ≤ 308) :
    ∃ (m : Nat) (E : Int) (l' : List Int) (d0 k j : Nat), reads (tx neg (dsOf d) ((nDigits d : Int) + P)) = some (m, E, false, false, []) ∧ signed (tx neg (dsOf d) ((nDigits d : Int) + P)) = (neg, l') ∧ isHex l' = false ∧ 0 < m ∧ m < 10 ^ 17 ∧
      d = d0 * 10 ^ k ∧ m = d0 * 10 ^ j ∧ E = P + (k : Int) - (j : Int) ∧ k ≤ 16 ∧ j ≤ 6 := by
  obtain ⟨k, hk, hs10⟩ := strip_spec d hd
  have h0 : 0 < strip d := by
    rcases Nat.eq_zero_or_pos (strip d) with g | g
    · rw [g, Nat.zero_mul] at hk; omega
    · exact g
  have hN := nd_mul (strip d) k h0
  rw [← hk] at hN
  have hn17 := nd_le (by omega) hd17
  have hn1 := nDigits_pos (strip d)
  have hlt := lt_pow_nDigits (strip d)
  have hlo := nd_low (strip d) h0
  obtain ⟨d0, hd0⟩ : ∃ d0, strip d = d0 := ⟨_, rfl⟩
  have hds : dsOf d = dls d0 (nDigits d0) := by unfold dsOf; rw [hd0]
  rw [hd0] at hk h0 hN hn1 hlt hlo
  rw [hds, hN]
  obtain ⟨n, hn⟩ : ∃ n, nDigits d0 = n + 1 := ⟨nDigits d0 - 1, by omega⟩
  rw [hn] at hlt hlo hN
  rw [hn]
  have hval := valL_dls 0 (n + 1) d0
  rw [Nat.zero_mul, Nat.zero_add, Nat.mod_eq_of_lt hlt] at hval
  have hall := allD_dls d0 (n + 1)
  have hlen := dls_len d0 (n + 1)
  have htop : ∀ c t, dls d0 (n + 1) = c :: t → 49 ≤ c := fun c t e => by
    have h1 := dls_at d0 (n + 1) 0 (by rw [hlen]; omega)
    simp only [e, List.getElem_cons_zero] at h1
    rw [Nat.add_sub_cancel] at hlo h1
    rw [Nat.sub_zero] at h1
    have hp : 0 < 10 ^ n := Nat.pow_pos (by omega)
    have h2 : 1 ≤ d0 / 10 ^ n := (Nat.le_div_iff_mul_le hp).2 (by omega)
    have h3 : d0 / 10 ^ n < 10 := (Nat.div_lt_iff_lt_mul hp).2 (by rw [Nat.pow_succ] at hlt; omega)
    omega
  generalize dls d0 (n + 1) = ds at *
  match ds, hlen with
  | c :: r, hlen =>
    have hc := htop c r rfl
    have hcd := hall c List.mem_cons_self
    have hr : AllD r := fun z hz => hall z (List.mem_cons_of_mem _ hz)
    have hrl : r.length = n := by simpa using hlen
    have hd0m : d0 < 10 ^ 17 := Nat.lt_of_lt_of_le hlt (Nat.pow_le_pow_right (by omega) (by omega))
    have e1 : ((c :: r).length : Int) = (n : Int) + 1 := by simp [hrl]
    obtain ⟨dp, hdp⟩ : ∃ dp : Int, ((n + 1 + k : Nat) : Int) + P = dp := ⟨_, rfl⟩
    rw [hdp]
    by_cases hE : dp - 1 < -4 ∨ 6 ≤ dp - 1
    · have e : ∀ ng, tx ng (c :: r) dp = txE ng c r dp := fun ng => if_pos hE
      rw [e]
      obtain ⟨b1, b2, b3⟩ := back_e neg c r dp d0 ⟨hc, hcd.2⟩ hr (by omega) (by omega) (by omega) hval h0
      exact ⟨d0, _, _, d0, k, 0, b1, b2, b3, h0, hd0m, hk, by simp, by rw [hrl]; omega, by omega, by omega⟩
    · have e : ∀ ng, tx ng (c :: r) dp = txF ng (c :: r) dp := fun ng => if_neg hE
      rw [e]
      rcases (show dp ≤ 0 ∨ (0 < dp ∧ dp < ((c :: r).length : Int)) ∨ ((c :: r).length : Int) ≤ dp by omega) with g | g | g
      · obtain ⟨b1, b2, b3⟩ := back_f3 neg c r dp d0 hall (by omega) (by omega) g hval h0
        exact ⟨d0, _, _, d0, k, 0, b1, b2, b3, h0, hd0m, hk, by simp, by rw [e1]; omega, by omega, by omega⟩
      · obtain ⟨b1, b2, b3⟩ := back_f2 neg c r dp d0 hall (by omega) (by omega) g.1 g.2 hval h0
        exact ⟨d0, _, _, d0, k, 0, b1, b2, b3, h0, hd0m, hk, by simp, by rw [e1]; omega, by omega, by omega⟩
      · obtain ⟨j, hj, b1, b2, b3⟩ := back_f1 neg c r dp d0 hall (by omega) (by omega) g (by omega) hval h0
        have hmb : d0 * 10 ^ j < 10 ^ 17 := by
          have h1 : d0 * 10 ^ j < 10 ^ (n + 1) * 10 ^ j := Nat.mul_lt_mul_of_pos_right hlt (Nat.pow_pos (by omega))
          rw [← Nat.pow_add] at h1
          exact Nat.lt_of_lt_of_le h1 (Nat.pow_le_pow_right (by omega) (by omega))
        exact ⟨d0 * 10 ^ j, 0, _, d0, k, j, b1, b2, b3, Nat.mul_pos h0 (Nat.pow_pos (by omega)), hmb, hk, rfl, by rw [e1] at hj; omega, by omega, by omega⟩
end Go.Proofs.YtjniglmijikojaaGreatDoor.Text
namespace Go.Proofs.YtjniglmijikojaaGreatDoor.Own

theorem inx_eq {M : Nat} {q : Int} {d m : Nat} {P E : Int} (h : InX M q d P) (e : d * pw 2 P = m * pw 2 E) : InX M q m E := by
  unfold InX at *
  rw [e] at h
  exact h
theorem inx_move {M : Nat} {q : Int} {d m d0 k j : Nat} {P E : Int} (h : InX M q d P) (hd : d = d0 * 10 ^ k) (hm : m = d0 * 10 ^ j) (hE : E = P + (k : Int) - (j : Int)) (hP : -1000 ≤ P ∧ P ≤ 1000) (hk : k ≤ 100) (hj : j ≤ 100) : InX M q m E := by
  refine inx_eq h ?_
  have i2 : inr 2 := by unfold inr; omega
  have h1 := pw_ten (a := 2) (P := P) k i2 (by unfold inr; omega)
  have h2 := pw_ten (a := 2) (P := E) j i2 (by unfold inr; omega)
  rw [show E + (j : Int) = P + (k : Int) by omega, h1] at h2
  rw [hd, hm, Nat.mul_assoc, Nat.mul_assoc, h2]
theorem five311 : 2 ^ 713 < 5 ^ 311 := by decide +kernel
theorem pwS (a P : Int) (x y z : Nat) (h1 : (a + P + 8000).toNat = x) (h2 : (P + 8000).toNat = y + z) : pw a P = 2 ^ x * (5 ^ y * 5 ^ z) := by
  unfold pw
  rw [h1, h2, Nat.pow_add]
theorem pwQ (a P : Int) (c x z u v : Nat) (h1 : (a + P + 8000).toNat = x) (h2 : (P + 8000).toNat = z) (h3 : c + x = u + v) : 2 ^ c * pw a P = 2 ^ u * (2 ^ v * 5 ^ z) := by
  unfold pw
  rw [h1, h2, ← Nat.mul_assoc, ← Nat.pow_add, h3, Nat.pow_add, Nat.mul_assoc]
theorem pwC (u v y z : Nat) (h : 2 ^ u * (5 ^ y * 5 ^ z) ≤ 2 ^ u * (2 ^ v * 5 ^ z)) : 5 ^ y ≤ 2 ^ v :=
  Nat.le_of_mul_le_mul_right (Nat.le_of_mul_le_mul_left h (Nat.pow_pos (by omega))) (Nat.pow_pos (by omega))
theorem inx_top {M : Nat} {q : Int} {m : Nat} {E : Int} (h : InX M q m E) (hM : M < 9007199254740992) (hq1 : -1074 ≤ q) (hq : q ≤ 971) (hm : 0 < m) (hE : E ≤ 1000) : E ≤ 310 := by
  rcases Int.lt_or_le 310 E with g | g
  · exfalso
    obtain ⟨_, h2, _⟩ := h
    have i2 : inr 2 := by unfold inr; omega
    have i0 : inr 0 := by unfold inr; omega
    obtain ⟨t, ht⟩ : ∃ t : Nat, E = 311 + (t : Int) := ⟨(E - 311).toNat, by omega⟩
    have h3 := pw_ten (a := 2) (P := 311) t i2 (by unfold inr; omega)
    rw [← ht] at h3
    obtain ⟨s, hs⟩ : ∃ s : Nat, (971 : Int) = q + (s : Int) := ⟨(971 - q).toNat, by omega⟩
    have h4 := pw_two (a := q) (P := 0) s (by unfold inr; omega) i0
    rw [← hs] at h4
    have h5 : pw q 0 ≤ pw 971 0 := by
      rw [h4]
      exact Nat.le_mul_of_pos_left _ (Nat.pow_pos (by omega))
    have h6 : pw 2 311 ≤ m * pw 2 E := by
      rw [h3]
      calc pw 2 311 = 1 * (1 * pw 2 311) := by rw [Nat.one_mul, Nat.one_mul]
        _ ≤ m * (10 ^ t * pw 2 311) := Nat.mul_le_mul hm (Nat.mul_le_mul_right _ (Nat.pow_pos (by omega)))
    have h7 : pw 2 311 ≤ 2 ^ 55 * pw 971 0 := by
      refine Nat.le_trans h6 (Nat.le_trans h2 (Nat.mul_le_mul ?_ h5))
      omega
    have e1 : pw 2 311 = 2 ^ 8313 * (5 ^ 311 * 5 ^ 8000) := pwS 2 311 8313 311 8000 rfl rfl
    have e2 : 2 ^ 55 * pw 971 0 = 2 ^ 8313 * (2 ^ 713 * 5 ^ 8000) := pwQ 971 0 55 8971 8000 8313 713 rfl rfl rfl
    rw [e1, e2] at h7
    exact absurd five311 (Nat.not_lt.2 (pwC 8313 713 311 8000 h7))
  · exact g
end Go.Proofs.YtjniglmijikojaaGreatDoor.Own
namespace Go.Proofs.YtjniglmijikojaaGreatDoor.Text
open Go.Lib Go.Proofs.YtjniglmijikojaaGreatDoor.Own Go.Proofs.YtjniglmijikojaaGreatDoor.Real

/-- A finite number is mOf * 2^qOf. -/
def mOf (x : Nat) : Nat := if eOf x = 0 then fOf x else fOf x + 4503599627370496
def qOf (x : Nat) : Int := if eOf x = 0 then -1074 else (eOf x : Int) - 1075
def sOf (x : Nat) : Nat := if sg x then 1 else 0

structure FinX (x : Nat) : Prop where
  pos : 0 < mOf x
  top : mOf x < 9007199254740992
  lo : -1074 ≤ qOf x
  hi : qOf x ≤ 971
  nrm : 4503599627370496 ≤ mOf x ∨ qOf x = -1074
  bits : fbits (sOf x) (mOf x) (qOf x) = x
  z1 : 9223372036854775808 ≤ mOf x * 2 ^ (64 - Lib.bitLen (mOf x))
  z2 : mOf x * 2 ^ (64 - Lib.bitLen (mOf x)) < 18446744073709551616
  txt : numL x = numTx (sg x) (mOf x) (qOf x) (64 - Lib.bitLen (mOf x))

theorem fin_of (x : Nat) (hx : x < 18446744073709551616) (hf : eOf x ≤ 2046) (h0 : rg x ≠ 0) : FinX x := by
  have hF : fOf x < 4503599627370496 := Nat.mod_lt _ (by decide)
  have hE : eOf x = x / 4503599627370496 % 2048 := rfl
  have hFe : fOf x = x % 4503599627370496 := rfl
  have hr : rg x = x % 9223372036854775808 := rfl
  have hs : sOf x = x / 9223372036854775808 := by
    unfold sOf sg
    by_cases h : 9223372036854775808 ≤ x
    · rw [decide_eq_true h, if_pos rfl]; omega
    · rw [decide_eq_false h, if_neg (by simp)]; omega
  by_cases hE0 : eOf x = 0
  · have hm : mOf x = fOf x := if_pos hE0
    have hq : qOf x = -1074 := if_pos hE0
    have hp : 0 < fOf x := by omega
    obtain ⟨b1, b2, b3, b4⟩ := bitLen_spec (x := fOf x) (by omega) hp
    obtain ⟨k1, k2, _⟩ := x_shift b3 b4 b1 b2
    refine ⟨by rw [hm]; exact hp, by rw [hm]; omega, by rw [hq]; decide, by rw [hq]; decide, .inr hq, ?_, by rw [hm]; exact k2, by rw [hm]; exact k1, ?_⟩
    · rw [hm]
      unfold fbits
      rw [if_pos hF, hs]
      omega
    · unfold numL
      rw [if_pos hE0, if_neg (by omega), hm, hq]
  · have hm : mOf x = fOf x + 4503599627370496 := if_neg hE0
    have hq : qOf x = (eOf x : Int) - 1075 := if_neg hE0
    have hbl : Lib.bitLen (fOf x + 4503599627370496) = 53 := bitLen_eq' (by decide) (by omega) (by omega) (by omega)
    refine ⟨by rw [hm]; omega, by rw [hm]; omega, by rw [hq]; omega, by rw [hq]; omega, .inl (by rw [hm]; omega), ?_, by rw [hm, hbl]; omega, by rw [hm, hbl]; omega, ?_⟩
    · rw [hm, hq]
      unfold fbits
      rw [if_neg (by omega), hs, show ((eOf x : Int) - 1075 + 1075).toNat = eOf x by omega]
      omega
    · unfold numL
      rw [if_neg hE0, hm, hq, hbl]

/-- What is read of a finite number's text. -/
theorem read_text (x : Nat) (hx : x < 18446744073709551616) (hf : eOf x ≤ 2046) (h0 : rg x ≠ 0) :
    ∃ (m : Nat) (E : Int) (l' : List Int), reads (numL x) = some (m, E, false, false, []) ∧ signed (numL x) = (sg x, l') ∧ isHex l' = false ∧ 0 < m ∧ m < 10 ^ 17 ∧ InX (mOf x) (qOf x) m E ∧ -345 ≤ E ∧ E ≤ 310 := by
  have h := fin_of x hx hf h0
  have hi := short_in (mOf x) (qOf x) h.pos h.top h.lo h.hi h.nrm _ h.z1 h.z2
  have hi' : InX (mOf x) (qOf x) (srt (mOf x) (qOf x) (64 - Lib.bitLen (mOf x))).1 (srt (mOf x) (qOf x) (64 - Lib.bitLen (mOf x))).2 ∧ 0 < (srt (mOf x) (qOf x) (64 - Lib.bitLen (mOf x))).1 ∧ (srt (mOf x) (qOf x) (64 - Lib.bitLen (mOf x))).1 < 100000000000000000 ∧ -324 ≤ (srt (mOf x) (qOf x) (64 - Lib.bitLen (mOf x))).2 ∧ (srt (mOf x) (qOf x) (64 - Lib.bitLen (mOf x))).2 ≤ 308 := hi
  have ht := h.txt
  unfold numTx at ht
  generalize (srt (mOf x) (qOf x) (64 - Lib.bitLen (mOf x))).1 = d at *
  generalize (srt (mOf x) (qOf x) (64 - Lib.bitLen (mOf x))).2 = P at *
  obtain ⟨i1, i2, i3, i4, i5⟩ := hi'
  obtain ⟨m, E, l', d0, k, j, b1, b2, b3, b4, b5, b6, b7, b8, b9, b10⟩ := back_any (sg x) d P i2 (by omega) i4 i5
  rw [← ht] at b1 b2
  have hin := inx_move i1 b6 b7 b8 (by omega) (by omega) (by omega)
  exact ⟨m, E, l', b1, b2, b3, b4, b5, hin, by omega, inx_top hin h.top h.lo h.hi b4 (by omega)⟩
end Go.Proofs.YtjniglmijikojaaGreatDoor.Text
namespace Go.Proofs.YtjniglmijikojaaGreatDoor.Text
open Go.Lib Go.Proofs.YtjniglmijikojaaGreatDoor.Own Go.Proofs.YtjniglmijikojaaGreatDoor.Real Ieee

theorem fit_of (x : Nat) (hx : x < 18446744073709551616) (hf : eOf x ≤ 2046) (h0 : rg x ≠ 0) : Fit (mOf x) (qOf x) ∧ rk (mOf x) (qOf x) = rg x := by
  have h := fin_of x hx hf h0
  have hF : fOf x < 4503599627370496 := Nat.mod_lt _ (by decide)
  have hE : eOf x = x / 4503599627370496 % 2048 := rfl
  have hFe : fOf x = x % 4503599627370496 := rfl
  have hr : rg x = x % 9223372036854775808 := rfl
  refine ⟨⟨h.pos, by rw [BB_v]; exact h.top, h.lo, h.hi, by rw [BB_v]; exact h.nrm⟩, ?_⟩
  unfold rk
  rw [BB_v]
  by_cases hE0 : eOf x = 0
  · have hm : mOf x = fOf x := if_pos hE0
    rw [hm, if_pos hF]
    omega
  · have hm : mOf x = fOf x + 4503599627370496 := if_neg hE0
    have hq : qOf x = (eOf x : Int) - 1075 := if_neg hE0
    rw [hm, hq, if_neg (by omega), show ((eOf x : Int) - 1075 + 1074).toNat = eOf x - 1 by omega]
    omega
theorem ex_back (x : Nat) (hx : x < 18446744073709551616) (hf : eOf x ≤ 2046) (h0 : rg x ≠ 0) {m : Nat} {E : Int} {r : Nat} (hE : -345 ≤ E ∧ E ≤ 310) (hin : InX (mOf x) (qOf x) m E) (h : Ex m E r) : double.word (sg x) r = x := by
  obtain ⟨f1, f2⟩ := fit_of x hx hf h0
  have e := ex_in f1 (by unfold inr; omega) hin h
  rw [e, f2, word_of]
  unfold sg rg
  by_cases hs : 9223372036854775808 ≤ x
  · rw [decide_eq_true hs, if_pos rfl]
    omega
  · rw [decide_eq_false hs, if_neg (by simp)]
    omega

theorem exps_len (X : Int) : (exps X).length ≤ 3 := by
  unfold exps
  split
  · simp
  · split <;> simp
theorem tx_len (neg : Bool) (ds : List Int) (dp : Int) (h : ds.length ≤ 17) : (tx neg ds dp).length ≤ 24 := by
  have hs := sgl_len neg
  match ds, h with
  | [], _ =>
    show (sgl neg ++ [48]).length ≤ 24
    simp only [List.length_append, List.length_cons, List.length_nil]
    omega
  | c :: r, h =>
    simp only [List.length_cons] at h
    by_cases hE : dp - 1 < -4 ∨ 6 ≤ dp - 1
    · have e : tx neg (c :: r) dp = txE neg c r dp := if_pos hE
      rw [e]
      unfold txE
      have h1 := exps_len (-(dp - 1))
      have h2 := exps_len (dp - 1)
      split <;> split <;> simp only [List.length_append, List.length_cons, List.length_nil] <;> omega
    · have e : tx neg (c :: r) dp = txF neg (c :: r) dp := if_neg hE
      rw [e]
      unfold txF
      by_cases h1 : 0 < dp
      · rw [if_pos h1]
        by_cases h2 : dp < ((c :: r).length : Int)
        · rw [if_pos h2]
          simp only [List.length_append, List.length_cons, List.length_take, List.length_drop, zeros, List.length_replicate] at h2 ⊢
          omega
        · rw [if_neg h2]
          simp only [List.length_append, List.length_cons, List.length_take, List.length_nil, zeros, List.length_replicate] at h2 ⊢
          omega
      · rw [if_neg h1, if_pos (by simp only [List.length_cons]; omega)]
        simp only [List.length_append, List.length_cons, List.length_nil, List.length_drop, zeros, List.length_replicate]
        omega
/-- Any number's text is of at most 24 bytes. -/
theorem text_len (x : Nat) (hx : x < 18446744073709551616) : (textL x).length ≤ 24 := by
  unfold textL
  split
  · decide
  · rename_i hn
    split
    · decide
    · rename_i hi
      split
      · decide
      · rename_i hp
        by_cases h0 : rg x = 0
        · have h1 : eOf x = 0 := by have hr : rg x = x % 9223372036854775808 := rfl; have hE : eOf x = x / 4503599627370496 % 2048 := rfl; omega
          have h2 : fOf x = 0 := by have hr : rg x = x % 9223372036854775808 := rfl; have hE : fOf x = x % 4503599627370496 := rfl; omega
          unfold numL
          rw [if_pos h1, if_pos h2]
          exact tx_len _ _ _ (by simp)
        · have hf : eOf x ≤ 2046 := by
            have hr : rg x = x % 9223372036854775808 := rfl
            have hE : eOf x = x / 4503599627370496 % 2048 := rfl
            have h1 : ¬ 9218868437227405312 < rg x := by
              unfold nan at hn
              simpa using hn
            have h2 : rg x ≠ 9218868437227405312 := fun h => by
              unfold ninf at hi
              unfold pinf at hp
              rw [decide_eq_true h] at hi hp
              cases hs : sg x <;> rw [hs] at hi hp <;> simp at hi hp
            omega
          have h := fin_of x hx hf h0
          have hi' := short_in (mOf x) (qOf x) h.pos h.top h.lo h.hi h.nrm _ h.z1 h.z2
          have h3 : 0 < (srt (mOf x) (qOf x) (64 - Lib.bitLen (mOf x))).1 ∧ (srt (mOf x) (qOf x) (64 - Lib.bitLen (mOf x))).1 < 100000000000000000 := ⟨hi'.2.1, hi'.2.2.1⟩
          rw [h.txt]
          unfold numTx
          generalize (srt (mOf x) (qOf x) (64 - Lib.bitLen (mOf x))).1 = d at *
          refine tx_len _ _ _ ?_
          unfold dsOf
          rw [dls_len]
          obtain ⟨k, e, _⟩ := strip_spec d h3.1
          have hle : strip d ≤ d := by
            have hp : 1 ≤ 10 ^ k := Nat.pow_pos (by omega)
            calc strip d = strip d * 1 := (Nat.mul_one _).symm
              _ ≤ strip d * 10 ^ k := Nat.mul_le_mul_left _ hp
              _ = d := e.symm
          exact nd_le (by omega) (by omega)
end Go.Proofs.YtjniglmijikojaaGreatDoor.Text
namespace Go.Proofs.YtjniglmijikojaaGreatDoor.Real
open Ieee Go.Proofs.YtjniglmijikojaaGreatDoor.Own Go.Proofs.YtjniglmijikojaaGreatDoor.Text

/-- Between which middles the digits lie. -/
theorem rk_between {M : Nat} {q : Int} {d : Nat} {p : Int} {X Y : Nat} (hf : Fit M q) (hp : inr p) (hY : 0 < Y) (hx : InX M q d p) (hXY : X * pw (-1074) 0 = Y * (d * pw 0 p)) :
    md (rk M q - 1) * Y ≤ 2 * X ∧ 2 * X ≤ md (rk M q) * Y ∧ (rk M q % 2 = 1 → md (rk M q - 1) * Y < 2 * X ∧ 2 * X < md (rk M q) * Y) ∧ 0 < rk M q := by
  obtain ⟨_, v1, v2, v3, v4⟩ := vl_rk hf
  obtain ⟨v0, _⟩ := vl_rk hf
  have hlo := hf.low
  have hhi := hf.hi
  obtain ⟨e, he⟩ : ∃ e, (q + 1074).toNat = e := ⟨_, rfl⟩
  rw [he] at v0 v1 v2
  have hP := pw_pos (-1074) 0
  have i0 : inr 0 := by unfold inr; omega
  have iq : inr (-1074) := by unfold inr; omega
  have eq : pw q 0 = 2 ^ e * pw (-1074) 0 := by
    have := pw_two (a := -1074) (P := 0) e iq i0
    rw [show (-1074 : Int) + (e : Int) = q by omega] at this
    exact this
  have ed : d * pw 2 p = 4 * (d * pw 0 p) := by rw [← four_eq d p hp, Nat.mul_assoc]
  obtain ⟨x1, x2, x3⟩ := hx
  generalize pw (-1074) 0 = P at *
  generalize pw q 0 = G at *
  generalize pw 0 p = T at *
  generalize pw 2 p = T2 at *
  have k0 : ∀ K, K * G * Y = K * 2 ^ e * Y * P := fun K => by rw [eq]; ac_rfl
  have k0' : d * T2 * Y = 4 * X * P := by rw [ed, Nat.mul_assoc 4 X, hXY]; ac_rfl
  have k1 : ∀ K, K * G ≤ d * T2 ↔ K * 2 ^ e * Y ≤ 4 * X := fun K => by
    rw [← Nat.mul_le_mul_right_iff hY, k0, k0', Nat.mul_le_mul_right_iff hP]
  have k2 : ∀ K, d * T2 ≤ K * G ↔ 4 * X ≤ K * 2 ^ e * Y := fun K => by
    rw [← Nat.mul_le_mul_right_iff hY, k0, k0', Nat.mul_le_mul_right_iff hP]
  have m1 : 2 * md (rk M q) = (4 * M + 2) * 2 ^ e := by
    unfold md
    rw [v0, v1, ← Nat.add_mul, ← Nat.mul_assoc]
    congr 1
    omega
  have x1 := (k1 _).1 x1
  have x2 := (k2 _).1 x2
  have x3 : M % 2 = 1 → (4 * M - 2) * 2 ^ e * Y < 4 * X ∧ 4 * X < (4 * M + 2) * 2 ^ e * Y := fun g => by
    obtain ⟨a, b⟩ := x3 g
    exact ⟨Nat.lt_of_not_le fun h => by have := (k2 _).2 h; omega, Nat.lt_of_not_le fun h => by have := (k1 _).2 h; omega⟩
  have u1 : 2 * X ≤ md (rk M q) * Y := by
    rw [← m1, Nat.mul_assoc] at x2
    omega
  have hodd : M % 2 = 1 → ¬ (M = 4503599627370496 ∧ -1074 < q) := fun g h => by omega
  have l1 : md (rk M q - 1) * Y ≤ 2 * X := by
    rw [BB_v] at v2
    rw [← v2, Nat.mul_assoc] at x1
    omega
  refine ⟨l1, u1, fun g2 => ?_, v4⟩
  rw [v3] at g2
  obtain ⟨h3, h4⟩ := x3 g2
  rw [← m1, Nat.mul_assoc] at h4
  rw [BB_v, if_neg (hodd g2)] at v2
  rw [← v2, Nat.mul_assoc] at h3
  omega
theorem md_lt {r s : Nat} (h : r < s) : md r < md s := by
  have h1 := vl_lt' h
  have h2 := vl_lt' (show r + 1 < s + 1 by omega)
  unfold md
  omega
theorem rk_le {M M' : Nat} {q q' : Int} {d : Nat} {p : Int} (hf : Fit M q) (hf' : Fit M' q') (hp : inr p) (hx : InX M q d p) (hx' : InX M' q' d p) : rk M' q' ≤ rk M q := by
  have hY := pw_pos (-1074) 0
  obtain ⟨a1, a2, a3, a4⟩ := rk_between (X := d * pw 0 p) (Y := pw (-1074) 0) hf hp hY hx (by rw [Nat.mul_comm])
  obtain ⟨b1, b2, b3, b4⟩ := rk_between (X := d * pw 0 p) (Y := pw (-1074) 0) hf' hp hY hx' (by rw [Nat.mul_comm])
  generalize pw (-1074) 0 = Y at *
  generalize d * pw 0 p = X at *
  generalize rk M q = R at *
  generalize rk M' q' = R' at *
  rcases Nat.lt_or_ge R R' with g | g
  · exfalso
    have h1 : md (R' - 1) * Y ≤ md R * Y := Nat.le_trans b1 a2
    have h2 : md (R' - 1) ≤ md R := Nat.le_of_mul_le_mul_right h1 hY
    have h3 : R = R' - 1 := by
      rcases Nat.lt_or_ge R (R' - 1) with e | e
      · have := md_lt e; omega
      · omega
    rcases Nat.mod_two_eq_zero_or_one R with e | e
    · have := b3 (by omega)
      rw [← h3] at this
      omega
    · have := a3 e
      rw [← h3] at b1
      omega
  · exact g
end Go.Proofs.YtjniglmijikojaaGreatDoor.Real
namespace Go.Proofs.YtjniglmijikojaaGreatDoor.Text
open Go.Proofs.YtjniglmijikojaaGreatDoor.Own Go.Proofs.YtjniglmijikojaaGreatDoor.Real
/-- Two finite numbers, not 0, of one text are one. -/
theorem text_one (x y : Nat) (hx : x < 18446744073709551616) (hy : y < 18446744073709551616) (fx : eOf x ≤ 2046) (fy : eOf y ≤ 2046) (x0 : rg x ≠ 0) (y0 : rg y ≠ 0) (h : numL x = numL y) : x = y := by
  obtain ⟨m, E, l, a1, a2, a3, a4, a5, a6, a7, a8⟩ := read_text x hx fx x0
  obtain ⟨m', E', l', b1, b2, b3, b4, b5, b6, b7, b8⟩ := read_text y hy fy y0
  rw [h, b1] at a1
  rw [h, b2] at a2
  injection a1 with e1
  injection e1 with e2 e3
  injection e3 with e4 e5
  injection a2 with e6 e7
  subst e2 e4
  obtain ⟨f1, f2⟩ := fit_of x hx fx x0
  obtain ⟨g1, g2⟩ := fit_of y hy fy y0
  have hp : inr E' := by unfold inr; omega
  have h1 := rk_le f1 g1 hp a6 b6
  have h2 := rk_le g1 f1 hp b6 a6
  have h3 : rg x = rg y := by omega
  unfold rg at h3
  unfold sg at e6
  by_cases s1 : 9223372036854775808 ≤ x
  · rw [decide_eq_true s1] at e6
    have s2 := of_decide_eq_true e6
    omega
  · rw [decide_eq_false s1] at e6
    have s2 := of_decide_eq_false e6
    omega
end Go.Proofs.YtjniglmijikojaaGreatDoor.Text
namespace Go.Proofs.YtjniglmijikojaaGreatDoor.Real
open Go.RowKit Go.Lib Go.Proofs.YtjniglmijikojaaGreatDoor.Text

theorem cmp_at (a b : Nat) (k : Int) (ha : a < 18446744073709551616) (hb : b < 18446744073709551616) (h : cp a b = k) (w : World) : Calls Tryz.prog 9 #[.float .f64 a, .float .f64 b] w fun e w' => e = .returned (.int .i64 k) ∧ w = w' := h ▸ cmp_any a b ha hb w
theorem same_at (a b : Nat) (k : Int) (ha : a < 18446744073709551616) (hb : b < 18446744073709551616) (h : cp a b = k) (w : World) : Calls Tryz.prog 7 #[.float .f64 a, .float .f64 b] w fun e w' => e = .returned (.bool (k == 0)) ∧ w = w' := by
  have HC := Aside0.mk (cmp_at a b k ha hb h)
  clear h
  go_enter Tryz.func7, Tryz.ntmps7
  go_wp2_with (go_at_call 9; refine (HC.out _).mono ?_; rintro e w' ⟨rfl, rfl⟩)
  go_ret
  exact ⟨rfl, rfl⟩
/-- Are two numbers the same? -/
def sm (a b : Nat) : Bool := decide (tk a = tk b)
theorem same_any (a b : Nat) (ha : a < 18446744073709551616) (hb : b < 18446744073709551616) (w : World) : Calls Tryz.prog 7 #[.float .f64 a, .float .f64 b] w fun e w' => e = .returned (.bool (sm a b)) ∧ w = w' := by
  refine (same_at a b _ ha hb rfl w).mono fun e w' ⟨e1, e2⟩ => ⟨?_, e2⟩
  rw [e1]
  refine congrArg (fun c => Ending.returned (.bool c)) ?_
  unfold cp sm ci
  by_cases h : tk a = tk b
  · rw [if_neg (by omega), if_neg (by omega), decide_eq_true h]
    rfl
  · rw [decide_eq_false h]
    rcases Int.lt_or_lt_of_ne h with g | g
    · rw [if_pos g]; rfl
    · rw [if_neg (by omega), if_pos g]; rfl
end Go.Proofs.YtjniglmijikojaaGreatDoor.Real
namespace Go.Proofs.YtjniglmijikojaaGreatDoor.Text
open Go.Lib Go.Proofs.YtjniglmijikojaaGreatDoor.Own Go.Proofs.YtjniglmijikojaaGreatDoor.Real

theorem tx_head (neg : Bool) (ds : List Int) (dp : Int) (h : AllD ds) : ∃ c t, tx neg ds dp = sgl neg ++ c :: t ∧ 48 ≤ c ∧ c ≤ 57 := by
  match ds, h with
  | [], _ => exact ⟨48, [], rfl, by omega, by omega⟩
  | c :: r, h =>
    have hc := h c List.mem_cons_self
    by_cases hE : dp - 1 < -4 ∨ 6 ≤ dp - 1
    · have e : tx neg (c :: r) dp = txE neg c r dp := if_pos hE
      rw [e]
      refine ⟨c, (if r = [] then [] else 46 :: r) ++ [101] ++ (if dp - 1 < 0 then 45 :: exps (-(dp - 1)) else 43 :: exps (dp - 1)), ?_, hc.1, hc.2⟩
      unfold txE
      simp
    · have e : tx neg (c :: r) dp = txF neg (c :: r) dp := if_neg hE
      rw [e]
      by_cases h1 : 0 < dp
      · obtain ⟨D, hD⟩ : ∃ D : Nat, dp.toNat = D + 1 := ⟨dp.toNat - 1, by omega⟩
        refine ⟨c, r.take D ++ zeros (dp - ((c :: r).length : Int)).toNat ++ (if dp < ((c :: r).length : Int) then 46 :: (zeros (-dp).toNat ++ (c :: r).drop dp.toNat) else []), ?_, hc.1, hc.2⟩
        unfold txF
        rw [if_pos h1, hD]
        simp
      · refine ⟨48, (if dp < ((c :: r).length : Int) then 46 :: (zeros (-dp).toNat ++ (c :: r).drop dp.toNat) else []), ?_, by omega, by omega⟩
        unfold txF
        rw [if_neg h1]
        simp
theorem num_head (x : Nat) : ∃ c t, numL x = sgl (sg x) ++ c :: t ∧ 48 ≤ c ∧ c ≤ 57 := by
  unfold numL numTx
  split
  · split
    · exact tx_head _ _ _ (fun c hc => by cases hc)
    · exact tx_head _ _ _ (allD_dls _ _)
  · exact tx_head _ _ _ (allD_dls _ _)
theorem num_zero (x : Nat) (h : rg x = 0) : numL x = sgl (sg x) ++ [48] := by
  have h1 : eOf x = 0 := by have hr : rg x = x % 9223372036854775808 := rfl; have hE : eOf x = x / 4503599627370496 % 2048 := rfl; omega
  have h2 : fOf x = 0 := by have hr : rg x = x % 9223372036854775808 := rfl; have hE : fOf x = x % 4503599627370496 := rfl; omega
  unfold numL
  rw [if_pos h1, if_pos h2]
  rfl

theorem reads_zero : ∀ b : Bool, reads (sgl b ++ [48]) = some (0, 0, false, false, []) := by
  intro b
  cases b <;> decide +kernel
theorem sgl_inj (b c : Bool) (s t : List Int) (h : sgl b ++ 48 :: s = sgl c ++ 48 :: t) : b = c := by
  cases b <;> cases c
  · rfl
  · injection h with h _
    cases h
  · injection h with h _
    cases h
  · rfl
/-- Finite: what isn't no number, and not without end. -/
theorem fin_e (x : Nat) (hn : nan x = false) (hi : rg x ≠ 9218868437227405312) : eOf x ≤ 2046 := by
  have hr : rg x = x % 9223372036854775808 := rfl
  have hE : eOf x = x / 4503599627370496 % 2048 := rfl
  have h1 : ¬ 9218868437227405312 < rg x := of_decide_eq_false hn
  omega
theorem x_of (x y : Nat) (hx : x < 18446744073709551616) (hy : y < 18446744073709551616) (h1 : rg x = rg y) (h2 : sg x = sg y) : x = y := by
  unfold rg at h1
  unfold sg at h2
  by_cases s1 : 9223372036854775808 ≤ x
  · rw [decide_eq_true s1] at h2
    have s2 := of_decide_eq_true h2.symm
    omega
  · rw [decide_eq_false s1] at h2
    have s2 := of_decide_eq_false h2.symm
    omega
/-- The text of what is a number: how it begins. -/
theorem text_fin (x : Nat) (hn : nan x = false) (hi : rg x ≠ 9218868437227405312) : textL x = numL x := by
  unfold textL ninf pinf
  rw [hn, decide_eq_false hi]
  simp
theorem text_inf (x : Nat) (hn : nan x = false) (hi : rg x = 9218868437227405312) : textL x = sgl (sg x) ++ [105, 110, 102] := by
  unfold textL ninf pinf
  rw [hn, decide_eq_true hi]
  cases sg x <;> rfl
theorem text_nan (x : Nat) (hn : nan x = true) : textL x = [110, 97, 110] := by
  unfold textL
  rw [hn]
  rfl
/-- The text's first letter behind a sign. -/
theorem text_head (x : Nat) (hn : nan x = false) : ∃ c t, textL x = sgl (sg x) ++ c :: t ∧ ((48 ≤ c ∧ c ≤ 57 ∧ rg x ≠ 9218868437227405312) ∨ (c = 105 ∧ rg x = 9218868437227405312)) := by
  by_cases hi : rg x = 9218868437227405312
  · exact ⟨105, [110, 102], text_inf x hn hi, .inr ⟨rfl, hi⟩⟩
  · obtain ⟨c, t, e, h1, h2⟩ := num_head x
    exact ⟨c, t, by rw [text_fin x hn hi]; exact e, .inl ⟨h1, h2, hi⟩⟩
theorem sgl_head (b b' : Bool) (c c' : Int) (t t' : List Int) (hc : c ≠ 45) (hc' : c' ≠ 45) (h : sgl b ++ c :: t = sgl b' ++ c' :: t') : b = b' ∧ c = c' := by
  cases b <;> cases b'
  · injection h with h1 _
    exact ⟨rfl, h1⟩
  · injection h with h1 _
    exact absurd h1 hc
  · injection h with h1 _
    exact absurd h1.symm hc'
  · injection h with _ h
    injection h with h1 _
    exact ⟨rfl, h1⟩
theorem text_eq (x y : Nat) (hx : x < 18446744073709551616) (hy : y < 18446744073709551616) (nx : nan x = false) (ny : nan y = false) (h : textL x = textL y) : x = y := by
  obtain ⟨c, t, e1, k1⟩ := text_head x nx
  obtain ⟨c', t', e2, k2⟩ := text_head y ny
  have hh := h
  rw [e1, e2] at hh
  obtain ⟨s1, s2⟩ := sgl_head _ _ _ _ _ _ (by omega) (by omega) hh
  subst s2
  by_cases hi : rg x = 9218868437227405312
  · have hi' : rg y = 9218868437227405312 := by
      rcases k1 with k1 | k1
      · exact absurd hi k1.2.2
      · rcases k2 with k2 | k2
        · omega
        · exact k2.2
    exact x_of x y hx hy (by rw [hi, hi']) s1
  · have hi' : rg y ≠ 9218868437227405312 := by
      rcases k1 with k1 | k1
      · rcases k2 with k2 | k2
        · exact k2.2.2
        · omega
      · exact absurd k1.2 hi
    rw [text_fin x nx hi, text_fin y ny hi'] at h
    have fx := fin_e x nx hi
    have fy := fin_e y ny hi'
    by_cases x0 : rg x = 0
    · by_cases y0 : rg y = 0
      · exact x_of x y hx hy (by rw [x0, y0]) s1
      · exfalso
        obtain ⟨m, E, l, b1, _, _, b4, _⟩ := read_text y hy fy y0
        rw [← h, num_zero x x0, reads_zero] at b1
        injection b1 with b1
        injection b1 with b1 _
        omega
    · by_cases y0 : rg y = 0
      · exfalso
        obtain ⟨m, E, l, b1, _, _, b4, _⟩ := read_text x hx fx x0
        rw [h, num_zero y y0, reads_zero] at b1
        injection b1 with b1
        injection b1 with b1 _
        omega
      · exact text_one x y hx hy fx fy x0 y0 h
/-- Texts are one just if the numbers are the same. -/
theorem text_same (x y : Nat) (hx : x < 18446744073709551616) (hy : y < 18446744073709551616) : textL x = textL y ↔ Real.sm x y = true := by
  have rx : rg x = x % 9223372036854775808 := rfl
  have ry : rg y = y % 9223372036854775808 := rfl
  unfold Real.sm tk
  cases nx : nan x <;> cases ny : nan y
  · simp only [Bool.false_eq_true, if_false, decide_eq_true_eq]
    constructor
    · intro h
      rw [text_eq x y hx hy nx ny h]
    · intro h
      have : x = y := by
        cases hs : sg x <;> cases ht : sg y <;> rw [hs, ht] at h <;> simp only [if_true, if_false, Bool.false_eq_true] at h
        · exact x_of x y hx hy (by omega) (by rw [hs, ht])
        · omega
        · omega
        · exact x_of x y hx hy (by omega) (by rw [hs, ht])
      rw [this]
  · simp only [Bool.false_eq_true, if_false, if_true, decide_eq_true_eq]
    constructor
    · intro h
      exfalso
      obtain ⟨c, t, e1, k1⟩ := text_head x nx
      rw [e1, text_nan y ny] at h
      generalize sg x = b at h
      cases b
      · injection h with h _
        omega
      · injection h with h _
        omega
    · intro h
      exfalso
      split at h <;> omega
  · simp only [Bool.false_eq_true, if_false, if_true, decide_eq_true_eq]
    constructor
    · intro h
      exfalso
      obtain ⟨c, t, e1, k1⟩ := text_head y ny
      rw [e1, text_nan x nx] at h
      generalize sg y = b at h
      cases b
      · injection h with h _
        omega
      · injection h with h _
        omega
    · intro h
      exfalso
      split at h <;> omega
  · simp only [if_true, decide_true, iff_true]
    rw [text_nan x nx, text_nan y ny]
end Go.Proofs.YtjniglmijikojaaGreatDoor.Text
namespace Go.Proofs.YtjniglmijikojaaGreatDoor.Text
open Go.Lib Go.Proofs.YtjniglmijikojaaGreatDoor.Own Go.Proofs.YtjniglmijikojaaGreatDoor.Real

/-- All are bytes. -/
def AllB (l : List Int) : Prop := ∀ c, c ∈ l → 0 ≤ c ∧ c ≤ 255
theorem allB_nil : AllB [] := fun c h => by cases h
theorem allB_cons {c : Int} {l : List Int} (h1 : 0 ≤ c ∧ c ≤ 255) (h2 : AllB l) : AllB (c :: l) := fun z hz => by
  rcases List.mem_cons.1 hz with h | h
  · rw [h]; exact h1
  · exact h2 z h
theorem allB_app {l r : List Int} (h1 : AllB l) (h2 : AllB r) : AllB (l ++ r) := fun z hz => by
  rcases List.mem_append.1 hz with h | h
  · exact h1 z h
  · exact h2 z h
theorem allB_dig {l : List Int} (h : AllD l) : AllB l := fun z hz => by have := h z hz; omega
theorem allB_sgl (b : Bool) : AllB (sgl b) := by
  cases b
  · exact allB_nil
  · exact allB_cons (by omega) allB_nil
theorem allB_exps (X : Int) (h0 : 0 ≤ X) (h1 : X ≤ 999) : AllB (exps X) := by
  unfold exps
  split
  · exact allB_cons (by omega) (allB_cons (by omega) allB_nil)
  · split
    · exact allB_cons (by omega) (allB_cons (by omega) allB_nil)
    · exact allB_cons (by omega) (allB_cons (by omega) (allB_cons (by omega) allB_nil))
theorem allB_tx (neg : Bool) (ds : List Int) (dp : Int) (h : AllD ds) (h1 : -400 ≤ dp) (h2 : dp ≤ 400) : AllB (tx neg ds dp) := by
  match ds, h with
  | [], _ => exact allB_app (allB_sgl neg) (allB_cons (by omega) allB_nil)
  | c :: r, h =>
    have hc := h c List.mem_cons_self
    have hr : AllD r := fun z hz => h z (List.mem_cons_of_mem _ hz)
    by_cases hE : dp - 1 < -4 ∨ 6 ≤ dp - 1
    · have e : tx neg (c :: r) dp = txE neg c r dp := if_pos hE
      rw [e]
      unfold txE
      refine allB_app (allB_app (allB_app (allB_app (allB_sgl neg) (allB_cons (by omega) allB_nil)) ?_) (allB_cons (by omega) allB_nil)) ?_
      · split
        · exact allB_nil
        · exact allB_cons (by omega) (allB_dig hr)
      · split
        · exact allB_cons (by omega) (allB_exps _ (by omega) (by omega))
        · exact allB_cons (by omega) (allB_exps _ (by omega) (by omega))
    · have e : tx neg (c :: r) dp = txF neg (c :: r) dp := if_neg hE
      rw [e]
      unfold txF
      refine allB_app (allB_app (allB_sgl neg) ?_) ?_
      · split
        · exact allB_app (fun z hz => allB_dig h z (List.mem_of_mem_take hz)) (allB_dig (allD_zeros _))
        · exact allB_cons (by omega) allB_nil
      · split
        · exact allB_cons (by omega) (allB_app (allB_dig (allD_zeros _)) (fun z hz => allB_dig h z (List.mem_of_mem_drop hz)))
        · exact allB_nil
theorem allB_text (x : Nat) (hx : x < 18446744073709551616) : AllB (textL x) := by
  cases hn : nan x
  · by_cases hi : rg x = 9218868437227405312
    · rw [text_inf x hn hi]
      exact allB_app (allB_sgl _) (allB_cons (by omega) (allB_cons (by omega) (allB_cons (by omega) allB_nil)))
    · rw [text_fin x hn hi]
      by_cases h0 : rg x = 0
      · rw [num_zero x h0]
        exact allB_app (allB_sgl _) (allB_cons (by omega) allB_nil)
      · have h := fin_of x hx (fin_e x hn hi) h0
        have hi' := short_in (mOf x) (qOf x) h.pos h.top h.lo h.hi h.nrm _ h.z1 h.z2
        have h3 : (srt (mOf x) (qOf x) (64 - Lib.bitLen (mOf x))).1 < 100000000000000000 ∧ -324 ≤ (srt (mOf x) (qOf x) (64 - Lib.bitLen (mOf x))).2 ∧ (srt (mOf x) (qOf x) (64 - Lib.bitLen (mOf x))).2 ≤ 308 := ⟨hi'.2.2.1, hi'.2.2.2.1, hi'.2.2.2.2⟩
        rw [h.txt]
        unfold numTx
        have hl := nd_le (u := (srt (mOf x) (qOf x) (64 - Lib.bitLen (mOf x))).1) (k := 17) (by omega) (by omega)
        exact allB_tx _ _ _ (allD_dls _ _) (by omega) (by omega)
  · rw [text_nan x hn]
    exact allB_cons (by omega) (allB_cons (by omega) (allB_cons (by omega) allB_nil))
theorem bytes_str (l : List Int) (h : AllB l) : bytes (strOfNums l) = l := by
  unfold bytes
  rw [strOfNums_data, List.map_map]
  have : l.map ((fun b : UInt8 => (b.toNat : Int)) ∘ fun n : Int => UInt8.ofNat n.toNat) = l.map id := by
    apply List.map_congr_left
    intro c hc
    have := h c hc
    simp only [Function.comp, UInt8.toNat_ofNat', id]
    omega
  rw [this, List.map_id]
/-- The text's bytes. -/
theorem bytes_text (x : Nat) (hx : x < 18446744073709551616) : bytes (textB x) = textL x := bytes_str _ (allB_text x hx)
/-- Texts are equal just if the numbers are the same. -/
theorem textB_same (x y : Nat) (hx : x < 18446744073709551616) (hy : y < 18446744073709551616) : textB x = textB y ↔ Real.sm x y = true := by
  rw [← text_same x y hx hy]
  constructor
  · intro h
    rw [← bytes_text x hx, ← bytes_text y hy, h]
  · intro h
    unfold textB
    rw [h]
theorem textB_len (x : Nat) (hx : x < 18446744073709551616) : (textB x).size ≤ 24 := by
  unfold textB
  rw [strOfNums_size]
  exact text_len x hx
end Go.Proofs.YtjniglmijikojaaGreatDoor.Text
namespace Go.Proofs.YtjniglmijikojaaGreatDoor.Text
open Go.RowKit Go.Lib Go.Proofs.YtjniglmijikojaaGreatDoor.Own Go.Proofs.YtjniglmijikojaaGreatDoorW.PrintWords

theorem bt_nat (s : ByteArray) (k : Nat) : ∀ h : k < s.size, ((s[k]'h).toNat : Int) = bt s (k : Int) := fun h => bt_at s (k : Int) h
def lo (c : Int) : Int := if 65 ≤ c ∧ c ≤ 90 then c + 32 else c
/-- r is how far s goes with p. -/
def Pre (s p : ByteArray) (r : Nat) : Prop := r ≤ s.size ∧ r ≤ p.size ∧ (∀ j : Nat, j < r → lo (bt s j) = bt p j) ∧ (r < s.size → r < p.size → lo (bt s r) ≠ bt p r)

theorem prefix_any (s p : ByteArray) (hs : s.size ≤ 60) (hp : p.size ≤ 8) (w : World) : Calls Tryz.prog 98 #[.string s, .string p] w fun e w' => (∃ r : Nat, e = .returned (.int .i64 (r : Int)) ∧ Pre s p r) ∧ Below w.heap.size w w' := by
  obtain ⟨mn, hm⟩ : ∃ mn : Nat, min p.size s.size = mn := ⟨_, rfl⟩
  go_enter Tryz.func98, Tryz.ntmps98
  go_wp2
  go_loopw [6] (fun i wr => ∃ k : Nat, i = .int .i64 (k : Int) ∧ k ≤ mn ∧ Aside0 (∀ j : Nat, j < k → lo (bt s j) = bt p j) ∧ Below w.heap.size w wr) (fun i _ => mn - (RowKit.intOf i).toNat)
  case atStart => exact ⟨0, rfl, by omega, ⟨fun j h => by omega⟩, Below.refl _ _⟩
  case round =>
    obtain ⟨k, rfl, hk, hP, hB⟩ := hrel
    have HB := Aside0.mk hB
    clear hB
    rcases Nat.lt_or_ge k mn with h | h
    · have p1 := eq_true (show (k : Int) < (mn : Int) by omega)
      have p2 := eq_true (show (k : Int) < (s.size : Int) by omega)
      have p3 := eq_true (show (k : Int) < (p.size : Int) by omega)
      have hx1 := bt_nat s k
      have hx2 := bt_nat p k
      have r1 := bt_range s k
      have HL : Aside0 (∀ c, c = bt s k → lo c = bt p k → ∀ j : Nat, j < k + 1 → lo (bt s j) = bt p j) := ⟨fun c e e2 j hj => by
        rcases Nat.lt_or_ge j k with g | g
        · exact hP.out j g
        · obtain rfl : j = k := by omega
          rw [← e, e2]⟩
      have HN : Aside0 (∀ c, c = bt s k → lo c ≠ bt p k → Pre s p k) := ⟨fun c e e2 => ⟨by omega, by omega, hP.out, fun _ _ => by rw [← e]; exact e2⟩⟩
      have hc := Aside0.mk (show bt s k = bt s k from rfl)
      generalize hcc : bt s (k : Int) = c at *
      generalize bt p (k : Int) = d at *
      clear hcc
      by_cases h1 : 65 ≤ c
      · by_cases h2 : c ≤ 90
        · by_cases h3 : c + 32 = d
          · have p4 : (c + 32 != d) = false := bne_eq_false_iff_eq.2 h3
            go_wp2
            go_roundw
            case measure =>
              show mn - ((k : Int) + 1).toNat < mn - (k : Int).toNat
              omega
            case rel => exact ⟨k + 1, rfl, by omega, ⟨HL.out c rfl (by unfold lo; rw [if_pos ⟨h1, h2⟩]; exact h3)⟩, HB.out⟩
          · have p4 : (c + 32 != d) = true := bne_iff_ne.2 h3
            go_wp2
            go_ret
            exact ⟨⟨k, rfl, HN.out c rfl (by unfold lo; rw [if_pos ⟨h1, h2⟩]; exact h3)⟩, HB.out⟩
        · by_cases h3 : c = d
          · have p4 : (c != d) = false := bne_eq_false_iff_eq.2 h3
            go_wp2
            go_roundw
            case measure =>
              show mn - ((k : Int) + 1).toNat < mn - (k : Int).toNat
              omega
            case rel => exact ⟨k + 1, rfl, by omega, ⟨HL.out c rfl (by unfold lo; rw [if_neg (by omega)]; exact h3)⟩, HB.out⟩
          · have p4 : (c != d) = true := bne_iff_ne.2 h3
            go_wp2
            go_ret
            exact ⟨⟨k, rfl, HN.out c rfl (by unfold lo; rw [if_neg (by omega)]; exact h3)⟩, HB.out⟩
      · by_cases h3 : c = d
        · have p4 : (c != d) = false := bne_eq_false_iff_eq.2 h3
          go_wp2
          go_roundw
          case measure =>
            show mn - ((k : Int) + 1).toNat < mn - (k : Int).toNat
            omega
          case rel => exact ⟨k + 1, rfl, by omega, ⟨HL.out c rfl (by unfold lo; rw [if_neg (by omega)]; exact h3)⟩, HB.out⟩
        · have p4 : (c != d) = true := bne_iff_ne.2 h3
          go_wp2
          go_ret
          exact ⟨⟨k, rfl, HN.out c rfl (by unfold lo; rw [if_neg (by omega)]; exact h3)⟩, HB.out⟩
    · have p1 := eq_false (show ¬ (k : Int) < (mn : Int) by omega)
      go_wp2
      go_ret
      exact ⟨⟨k, by
        show Ending.returned (Value.int .i64 (min (p.size : Int) (s.size : Int))) = _
        rw [show min (p.size : Int) (s.size : Int) = (k : Int) by omega], by omega, by omega, hP.out, fun h1 h2 => by omega⟩, HB.out⟩
end Go.Proofs.YtjniglmijikojaaGreatDoor.Text
