/- fmtEFG where it writes no exponent: its contract. No conditions but where its arguments lie. -/
import Derived.Test.YtjniglmijikojaaGreatDoorGMyBuf
namespace Go.Proofs.YtjniglmijikojaaGreatDoor.Text
set_option linter.unusedSimpArgs false
set_option linter.unusedVariables false
open Go.RowKit Go.Lib Go.Proofs.YtjniglmijikojaaGreatDoor.Own Go.Proofs.YtjniglmijikojaaGreatDoorW.PrintWords

theorem take_on {ds : List Int} {j : Nat} (h : j < ds.length) : ds.take (j + 1) = ds.take j ++ [ds[j]] := by rw [List.take_add_one, List.getElem?_eq_getElem h]; rfl
theorem zeros_on (j : Nat) : zeros (j + 1) = zeros j ++ [48] := by unfold zeros; rw [List.replicate_succ']
theorem drop_at {ds : List Int} {k j : Nat} (h : k + j < ds.length) : (ds.drop k).take (j + 1) = (ds.drop k).take j ++ [ds[k + j]] := by
  have h' : j < (ds.drop k).length := by rw [List.length_drop]; omega
  rw [take_on h', List.getElem_drop]
theorem take_len (ds : List Int) (j : Nat) (h : ds.length ≤ 17) : (ds.take j).length ≤ 17 := by rw [List.length_take]; omega
theorem zeros_len (j : Nat) : (zeros j).length = j := by simp [zeros]
theorem finA (neg : Bool) (ds : List Int) (K M : Nat) (hK : 1 ≤ K) (hl : ds.length ≤ 17) (hM : ds.length = M) : txF neg ds (-(K : Int)) = sgl neg ++ [48] ++ [46] ++ zeros K ++ ds.take M := by
  unfold txF
  rw [if_neg (by omega), if_pos (by omega), show (-(-(K : Int))).toNat = K by omega, show (-(K : Int)).toNat = 0 by omega, List.drop_zero, ← hM, List.take_length]
  simp
theorem finZ (neg : Bool) (ds : List Int) (M : Nat) (hl : ds.length ≤ 17) (hM : ds.length = M) (h1 : 1 ≤ M) : txF neg ds 0 = sgl neg ++ [48] ++ [46] ++ ds.take M := by
  unfold txF
  rw [if_neg (by omega), if_pos (by omega), ← hM, List.take_length]
  simp [zeros]
theorem finB (neg : Bool) (ds : List Int) (D E : Nat) (hD : 1 ≤ D) (hE : 1 ≤ E) (hl : ds.length ≤ 17) (hM : ds.length = D + E) : txF neg ds (D : Int) = sgl neg ++ ds.take D ++ [46] ++ (ds.drop D).take E := by
  unfold txF
  have e : (ds.drop D).take E = ds.drop D := List.take_of_length_le (by rw [List.length_drop]; omega)
  rw [if_pos (by omega), if_pos (by omega), e, show ((D : Int) - (ds.length : Int)).toNat = 0 by omega, show (-(D : Int)).toNat = 0 by omega, Int.toNat_natCast]
  simp [zeros]
theorem finC (neg : Bool) (ds : List Int) (M E : Nat) (hl : ds.length ≤ 17) (hM : ds.length = M) (h1 : 1 ≤ M) : txF neg ds ((M : Int) + (E : Int)) = sgl neg ++ ds.take M ++ zeros E := by
  unfold txF
  have e : ds.take (((M : Int) + (E : Int)).toNat) = ds := List.take_of_length_le (by omega)
  rw [if_pos (by omega), if_neg (by omega), e, ← hM, List.take_length, show ((ds.length : Int) + (E : Int) - (ds.length : Int)).toNat = E by omega]
  simp
theorem finD (neg : Bool) (ds : List Int) (M : Nat) (hl : ds.length ≤ 17) (hM : ds.length = M) (h1 : 1 ≤ M) : txF neg ds (M : Int) = sgl neg ++ ds.take M := by
  have h := finC neg ds M 0 hl hM h1
  rw [show (M : Int) + ((0 : Nat) : Int) = (M : Int) by omega] at h
  rw [h]
  simp [zeros]

set_option maxRecDepth 30000 in
set_option maxHeartbeats 8000000 in
theorem efg_fa (w0 w : World) (v : Value) (b : Nat) (neg : Bool) (ds : List Int) (dp : Int) (hd1 : 1 ≤ ds.length) (hd2 : ds.length ≤ 17) (h1 : -3 ≤ dp) (h2 : dp < 0)
    (hB : Buf w0 w v [] b ds) :
    Calls Tryz.prog 42 #[v, .bool neg, .slice (some ⟨b, 0, none⟩) 32 32, .int .i64 dp, .int .i64 (ds.length : Int), .int .i64 (ds.length : Int), .int .u8 103, .bool true] w (EfgRes w0 (txF neg ds dp) b ds) := by
  have HB := Aside0.mk hB
  have HLN := Aside0.mk (sgl_len neg)
  clear hB
  obtain ⟨n, hn⟩ : ∃ n : Int, (ds.length : Int) = n := ⟨_, rfl⟩
  have hn1 : 1 ≤ n := by omega
  have hn2 : n ≤ 17 := by omega
  rw [hn]
  have HN := Aside0.mk hn
  have HD2 := Aside0.mk hd2
  clear hn hd1 hd2
  have q1 := eq_false (show ¬ n > n by omega)
  have q1' := eq_false (show ¬ n < n by omega)
  have q2 := eq_false (show ¬ dp - 1 < -4 by omega)
  have q3 := eq_false (show ¬ 6 ≤ dp - 1 by omega)
  have q3' := eq_false (show ¬ dp - 1 ≥ 6 by omega)
  obtain ⟨K, rfl⟩ : ∃ K : Nat, dp = -(K : Int) := ⟨(-dp).toNat, by omega⟩
  obtain ⟨M, hM⟩ : ∃ M : Nat, n = (M : Int) := ⟨n.toNat, by omega⟩
  subst hM
  have hK1 : 1 ≤ K := by omega
  have hK3 : K ≤ 3 := by omega
  have f7 : -(K : Int) + (K : Int) = 0 := by omega
  clear h1 h2
  go_enter Tryz.func42, Tryz.ntmps42
  go_upto_if 178 with fail
  go_cut [0, 5, 68, 72, 73] from 178 to 181 (fun v p _ _ _ wx => p = .int .i64 ((M : Int) + (K : Int)) ∧ Buf w0 wx v (sgl neg) b ds)
  case first =>
    cases neg
    · go_wp2_with fail
      go_meet
      case rel => exact ⟨by first | rfl | exact congrArg (Value.int .i64) (by omega), HB.out⟩
    · go_wp2_with ((at_builtin; refine buf_app HB.out _ _ _ rfl rfl rfl rfl (by have := HLN.out; first | omega | (simp only [List.length_append, List.length_cons, List.length_nil]; omega) | simp) ?_); intro v1 w1 nB; clear HB; have HB := Aside0.mk nB; clear nB)
      go_meet
      case rel => exact ⟨by first | rfl | exact congrArg (Value.int .i64) (by omega), HB.out⟩
  case rest =>
    clear HB
    obtain ⟨rfl, hcut⟩ := hcut
    have HB := Aside0.mk hcut
    clear hcut
    go_wp2_with ((at_builtin; refine buf_app HB.out _ _ _ rfl rfl rfl rfl (by have := HLN.out; first | omega | (simp only [List.length_append, List.length_cons, List.length_nil]; omega) | simp) ?_); intro v1 w1 nB; clear HB; have HB := Aside0.mk nB; clear nB)
    obtain ⟨P, hP⟩ : ∃ P : List Int, sgl neg ++ [48] ++ [46] = P := ⟨_, rfl⟩
    have HLP := Aside0.mk (show P.length ≤ 10 by have := HLN.out; rw [← hP]; simp only [List.length_append, List.length_cons, List.length_nil]; omega)
    have HBx := HB.out
    rw [hP] at HBx
    have HPE := Aside0.mk hP
    clear hP HB
    have HB := Aside0.mk HBx
    clear HBx
    go_loopw [0, 240] (fun v i wr => ∃ j : Nat, j ≤ K ∧ i = .int .i64 (j : Int) ∧ Buf w0 wr v (P ++ zeros j) b ds) (fun _ i _ => K - (RowKit.intOf i).toNat)
    case atStart => exact ⟨0, Nat.zero_le _, rfl, by rw [show zeros 0 = [] from rfl, List.append_nil]; exact HB.out⟩
    case round =>
      obtain ⟨j, hj, rfl, hb⟩ := hrel
      clear HB
      have HB := Aside0.mk hb
      have HLN := Aside0.mk (show (P ++ zeros j).length ≤ 60 by have := HLP.out; rw [List.length_append, zeros_len]; omega)
      clear hb
      rcases Nat.lt_or_ge j K with h | h
      · have p1 := eq_true (show (j : Int) < (K : Int) by omega)
        have MS := Aside0.mk (show K - ((j : Int) + 1).toNat < K - (j : Int).toNat by omega)
        have HJ := Aside0.mk (show j + 1 ≤ K by omega)
        have hj30 : (j : Int) < 30 := by omega
        clear h hj
        go_wp2_with ((at_builtin; refine buf_app HB.out _ _ _ rfl rfl rfl rfl (by have := HLN.out; first | omega | (simp only [List.length_append, List.length_cons, List.length_nil]; omega) | simp) ?_); intro v1 w1 nB; clear HB; have HB := Aside0.mk nB; clear nB)
        go_roundw
        case measure => exact MS.out
        case rel => exact ⟨j + 1, HJ.out, rfl, by rw [zeros_on, ← List.append_assoc]; exact HB.out⟩
      · have p1 := eq_false (show ¬ (j : Int) < (K : Int) by omega)
        obtain rfl : K = j := by omega
        clear h hj
        go_wp2_with fail
        clear HLP
        obtain ⟨P0, hP0⟩ : ∃ P0 : List Int, P ++ zeros K = P0 := ⟨_, rfl⟩
        have HBx := HB.out
        rw [hP0] at HBx
        clear HB
        have HB := Aside0.mk HBx
        clear HBx
        have HLP := Aside0.mk (show P0.length ≤ 60 by rw [← hP0]; exact HLN.out)
        have HP0 := Aside0.mk hP0
        clear hP0
        go_loopw [0, 247, 30] (fun v i _ wr => ∃ j : Nat, j ≤ M ∧ i = .int .i64 (j : Int) ∧ Buf w0 wr v (P0 ++ ds.take j) b ds) (fun _ i _ _ => M - (RowKit.intOf i).toNat)
        case atStart => exact ⟨0, Nat.zero_le _, rfl, by rw [List.take_zero, List.append_nil]; exact HB.out⟩
        case round =>
          obtain ⟨j, hj, rfl, hb⟩ := hrel
          clear HB
          have HB := Aside0.mk hb
          have HLN := Aside0.mk (show (P0 ++ ds.take j).length ≤ 900 by have := HLP.out; have := HD2.out; rw [List.length_append, List.length_take]; omega)
          rcases Nat.lt_or_ge j M with h | h
          · have p1 := eq_true (show (j : Int) < (M : Int) by omega)
            have MS := Aside0.mk (show M - ((j : Int) + 1).toNat < M - (j : Int).toNat by omega)
            have HJ := Aside0.mk (show j + 1 ≤ M by omega)
            have hjl : j < ds.length := by have := HN.out; omega
            have hc := hb.dig j hjl
            have HT := Aside0.mk (take_on hjl)
            have hlt := hb.lt
            have hj30 : (j : Int) < 30 := by omega
            generalize ds[j] = y at hc HT
            clear h hj hb hjl
            go_wp2_with ((at_builtin; refine buf_app HB.out _ _ _ rfl rfl rfl rfl (by have := HLN.out; first | omega | (simp only [List.length_append, List.length_cons, List.length_nil]; omega) | simp) ?_); intro v1 w1 nB; clear HB; have HB := Aside0.mk nB; clear nB)
            go_roundw
            case measure => exact MS.out
            case rel => exact ⟨j + 1, HJ.out, rfl, by rw [HT.out, ← List.append_assoc]; exact HB.out⟩
          · have p1 := eq_false (show ¬ (j : Int) < (M : Int) by omega)
            obtain rfl : M = j := by omega
            clear h hj hb
            go_wp2_with fail
            refine wp_loop_rounds 1 ?_
            rw [rounds_succ]
            go_wp2_with fail
            have hlen := HN.out
            go_ret
            exact ⟨_, rfl, by rw [finA neg ds K M hK1 HD2.out (by omega), HPE.out, HP0.out]; exact HB.out⟩

set_option maxRecDepth 30000 in
set_option maxHeartbeats 8000000 in
theorem efg_fz (w0 w : World) (v : Value) (b : Nat) (neg : Bool) (ds : List Int) (dp : Int) (hd1 : 1 ≤ ds.length) (hd2 : ds.length ≤ 17) (h1 : dp = 0)
    (hB : Buf w0 w v [] b ds) :
    Calls Tryz.prog 42 #[v, .bool neg, .slice (some ⟨b, 0, none⟩) 32 32, .int .i64 dp, .int .i64 (ds.length : Int), .int .i64 (ds.length : Int), .int .u8 103, .bool true] w (EfgRes w0 (txF neg ds dp) b ds) := by
  have HB := Aside0.mk hB
  have HLN := Aside0.mk (sgl_len neg)
  clear hB
  obtain ⟨n, hn⟩ : ∃ n : Int, (ds.length : Int) = n := ⟨_, rfl⟩
  have hn1 : 1 ≤ n := by omega
  have hn2 : n ≤ 17 := by omega
  rw [hn]
  have HN := Aside0.mk hn
  have HD2 := Aside0.mk hd2
  clear hn hd1 hd2
  have q1 := eq_false (show ¬ n > n by omega)
  have q1' := eq_false (show ¬ n < n by omega)
  have q2 := eq_false (show ¬ dp - 1 < -4 by omega)
  have q3 := eq_false (show ¬ 6 ≤ dp - 1 by omega)
  have q3' := eq_false (show ¬ dp - 1 ≥ 6 by omega)
  subst h1
  obtain ⟨M, hM⟩ : ∃ M : Nat, n = (M : Int) := ⟨n.toNat, by omega⟩
  subst hM
  go_enter Tryz.func42, Tryz.ntmps42
  go_upto_if 178 with fail
  go_cut [0, 5, 68, 72, 73] from 178 to 181 (fun v p _ _ _ wx => p = .int .i64 ((M : Int)) ∧ Buf w0 wx v (sgl neg) b ds)
  case first =>
    cases neg
    · go_wp2_with fail
      go_meet
      case rel => exact ⟨by first | rfl | exact congrArg (Value.int .i64) (by omega), HB.out⟩
    · go_wp2_with ((at_builtin; refine buf_app HB.out _ _ _ rfl rfl rfl rfl (by have := HLN.out; first | omega | (simp only [List.length_append, List.length_cons, List.length_nil]; omega) | simp) ?_); intro v1 w1 nB; clear HB; have HB := Aside0.mk nB; clear nB)
      go_meet
      case rel => exact ⟨by first | rfl | exact congrArg (Value.int .i64) (by omega), HB.out⟩
  case rest =>
    clear HB
    obtain ⟨rfl, hcut⟩ := hcut
    have HB := Aside0.mk hcut
    clear hcut
    go_wp2_with ((at_builtin; refine buf_app HB.out _ _ _ rfl rfl rfl rfl (by have := HLN.out; first | omega | (simp only [List.length_append, List.length_cons, List.length_nil]; omega) | simp) ?_); intro v1 w1 nB; clear HB; have HB := Aside0.mk nB; clear nB)
    obtain ⟨P, hP⟩ : ∃ P : List Int, sgl neg ++ [48] ++ [46] = P := ⟨_, rfl⟩
    have HLP := Aside0.mk (show P.length ≤ 10 by have := HLN.out; rw [← hP]; simp only [List.length_append, List.length_cons, List.length_nil]; omega)
    have HBx := HB.out
    rw [hP] at HBx
    have HPE := Aside0.mk hP
    clear hP HB
    have HB := Aside0.mk HBx
    clear HBx
    refine wp_loop_rounds 1 ?_
    rw [rounds_succ]
    go_wp2_with fail
    go_loopw [0, 247, 30] (fun v i _ wr => ∃ j : Nat, j ≤ M ∧ i = .int .i64 (j : Int) ∧ Buf w0 wr v (P ++ ds.take j) b ds) (fun _ i _ _ => M - (RowKit.intOf i).toNat)
    case atStart => exact ⟨0, Nat.zero_le _, rfl, by rw [List.take_zero, List.append_nil]; exact HB.out⟩
    case round =>
      obtain ⟨j, hj, rfl, hb⟩ := hrel
      clear HB
      have HB := Aside0.mk hb
      have HLN := Aside0.mk (show (P ++ ds.take j).length ≤ 900 by have := HLP.out; have := HD2.out; rw [List.length_append, List.length_take]; omega)
      rcases Nat.lt_or_ge j M with h | h
      · have p1 := eq_true (show (j : Int) < (M : Int) by omega)
        have MS := Aside0.mk (show M - ((j : Int) + 1).toNat < M - (j : Int).toNat by omega)
        have HJ := Aside0.mk (show j + 1 ≤ M by omega)
        have hjl : j < ds.length := by have := HN.out; omega
        have hc := hb.dig j hjl
        have HT := Aside0.mk (take_on hjl)
        have hlt := hb.lt
        have hj30 : (j : Int) < 30 := by omega
        generalize ds[j] = y at hc HT
        clear h hj hb hjl
        go_wp2_with ((at_builtin; refine buf_app HB.out _ _ _ rfl rfl rfl rfl (by have := HLN.out; first | omega | (simp only [List.length_append, List.length_cons, List.length_nil]; omega) | simp) ?_); intro v1 w1 nB; clear HB; have HB := Aside0.mk nB; clear nB)
        go_roundw
        case measure => exact MS.out
        case rel => exact ⟨j + 1, HJ.out, rfl, by rw [HT.out, ← List.append_assoc]; exact HB.out⟩
      · have p1 := eq_false (show ¬ (j : Int) < (M : Int) by omega)
        obtain rfl : M = j := by omega
        clear h hj hb
        go_wp2_with fail
        refine wp_loop_rounds 1 ?_
        rw [rounds_succ]
        go_wp2_with fail
        have hlen := HN.out
        go_ret
        exact ⟨_, rfl, by rw [finZ neg ds M HD2.out (by omega) (by omega), HPE.out]; exact HB.out⟩

set_option maxRecDepth 30000 in
set_option maxHeartbeats 8000000 in
theorem efg_fb (w0 w : World) (v : Value) (b : Nat) (neg : Bool) (ds : List Int) (dp : Int) (hd1 : 1 ≤ ds.length) (hd2 : ds.length ≤ 17) (h1 : 0 < dp) (h2 : dp ≤ 6) (h3 : dp < ds.length)
    (hB : Buf w0 w v [] b ds) :
    Calls Tryz.prog 42 #[v, .bool neg, .slice (some ⟨b, 0, none⟩) 32 32, .int .i64 dp, .int .i64 (ds.length : Int), .int .i64 (ds.length : Int), .int .u8 103, .bool true] w (EfgRes w0 (txF neg ds dp) b ds) := by
  have HB := Aside0.mk hB
  have HLN := Aside0.mk (sgl_len neg)
  clear hB
  obtain ⟨n, hn⟩ : ∃ n : Int, (ds.length : Int) = n := ⟨_, rfl⟩
  have hn1 : 1 ≤ n := by omega
  have hn2 : n ≤ 17 := by omega
  rw [hn]
  have HN := Aside0.mk hn
  have HD2 := Aside0.mk hd2
  clear hn hd1 hd2
  have q1 := eq_false (show ¬ n > n by omega)
  have q1' := eq_false (show ¬ n < n by omega)
  have q2 := eq_false (show ¬ dp - 1 < -4 by omega)
  have q3 := eq_false (show ¬ 6 ≤ dp - 1 by omega)
  have q3' := eq_false (show ¬ dp - 1 ≥ 6 by omega)
  obtain ⟨D, rfl⟩ : ∃ D : Nat, dp = (D : Int) := ⟨dp.toNat, by omega⟩
  obtain ⟨E, hE⟩ : ∃ E : Nat, n = (D : Int) + (E : Int) := ⟨(n - D).toNat, by have := HN.out; omega⟩
  subst hE
  have hD1 : 1 ≤ D := by omega
  have hD6 : D ≤ 6 := by omega
  have hE1 : 1 ≤ E := by have := HN.out; omega
  have f1 := eq_true (show (0 : Int) < (D : Int) by omega)
  have f1n := eq_true (show 0 < D by omega)
  have f2 : (D : Int) + (E : Int) - (D : Int) = (E : Int) := by omega
  have f3 : (D : Int) - (D : Int) = 0 := by omega
  have f4 : (E : Int) - (E : Int) = 0 := by omega
  clear h1 h2 h3
  go_enter Tryz.func42, Tryz.ntmps42
  go_upto_if 178 with fail
  go_cut [0, 5, 68, 72, 73] from 178 to 181 (fun v p _ _ _ wx => p = .int .i64 ((E : Int)) ∧ Buf w0 wx v (sgl neg) b ds)
  case first =>
    cases neg
    · go_wp2_with fail
      go_meet
      case rel => exact ⟨by first | rfl | exact congrArg (Value.int .i64) (by omega), HB.out⟩
    · go_wp2_with ((at_builtin; refine buf_app HB.out _ _ _ rfl rfl rfl rfl (by have := HLN.out; first | omega | (simp only [List.length_append, List.length_cons, List.length_nil]; omega) | simp) ?_); intro v1 w1 nB; clear HB; have HB := Aside0.mk nB; clear nB)
      go_meet
      case rel => exact ⟨by first | rfl | exact congrArg (Value.int .i64) (by omega), HB.out⟩
  case rest =>
    clear HB
    obtain ⟨rfl, hcut⟩ := hcut
    have HB := Aside0.mk hcut
    clear hcut
    go_wp2_with fail
    obtain ⟨P, hP⟩ : ∃ P : List Int, sgl neg = P := ⟨_, rfl⟩
    have HLP := Aside0.mk (show P.length ≤ 10 by have := HLN.out; rw [← hP]; omega)
    have HBx := HB.out
    rw [hP] at HBx
    have HPE := Aside0.mk hP
    clear hP HB
    have HB := Aside0.mk HBx
    clear HBx
    go_loopw [0, 191, 25] (fun v i _ wr => ∃ j : Nat, j ≤ D ∧ i = .int .i64 (j : Int) ∧ Buf w0 wr v (P ++ ds.take j) b ds) (fun _ i _ _ => D - (RowKit.intOf i).toNat)
    case atStart => exact ⟨0, Nat.zero_le _, rfl, by rw [List.take_zero, List.append_nil]; exact HB.out⟩
    case round =>
      obtain ⟨j, hj, rfl, hb⟩ := hrel
      clear HB
      have HB := Aside0.mk hb
      have HLN := Aside0.mk (show (P ++ ds.take j).length ≤ 60 by have := HLP.out; have := HD2.out; rw [List.length_append, List.length_take]; omega)
      rcases Nat.lt_or_ge j D with h | h
      · have p1 := eq_true (show (j : Int) < (D : Int) by omega)
        have MS := Aside0.mk (show D - ((j : Int) + 1).toNat < D - (j : Int).toNat by omega)
        have HJ := Aside0.mk (show j + 1 ≤ D by omega)
        have hjl : j < ds.length := by have := HN.out; omega
        have hc := hb.dig j hjl
        have HT := Aside0.mk (take_on hjl)
        have hlt := hb.lt
        have hj30 : (j : Int) < 30 := by omega
        generalize ds[j] = y at hc HT
        clear h hj hb hjl
        go_wp2_with ((at_builtin; refine buf_app HB.out _ _ _ rfl rfl rfl rfl (by have := HLN.out; first | omega | (simp only [List.length_append, List.length_cons, List.length_nil]; omega) | simp) ?_); intro v1 w1 nB; clear HB; have HB := Aside0.mk nB; clear nB)
        go_roundw
        case measure => exact MS.out
        case rel => exact ⟨j + 1, HJ.out, rfl, by rw [HT.out, ← List.append_assoc]; exact HB.out⟩
      · have p1 := eq_false (show ¬ (j : Int) < (D : Int) by omega)
        obtain rfl : D = j := by omega
        clear h hj hb
        go_wp2_with fail
        clear HLP
        obtain ⟨P0, hP0⟩ : ∃ P0 : List Int, P ++ ds.take D = P0 := ⟨_, rfl⟩
        have HBx := HB.out
        rw [hP0] at HBx
        clear HB
        have HB := Aside0.mk HBx
        clear HBx
        have HLP := Aside0.mk (show P0.length ≤ 60 by rw [← hP0]; exact HLN.out)
        have HP0 := Aside0.mk hP0
        clear hP0
        refine wp_loop_rounds 1 ?_
        rw [rounds_succ]
        have HLN := HLP
        go_wp2_with ((at_builtin; refine buf_app HB.out _ _ _ rfl rfl rfl rfl (by have := HLN.out; first | omega | (simp only [List.length_append, List.length_cons, List.length_nil]; omega) | simp) ?_); intro v1 w1 nB; clear HB; have HB := Aside0.mk nB; clear nB)
        clear HLP
        obtain ⟨P1, hP0⟩ : ∃ P1 : List Int, P0 ++ [46] = P1 := ⟨_, rfl⟩
        have HBx := HB.out
        rw [hP0] at HBx
        clear HB
        have HB := Aside0.mk HBx
        clear HBx
        have HLP := Aside0.mk (show P1.length ≤ 70 by rw [← hP0]; have := HLN.out; simp only [List.length_append, List.length_cons, List.length_nil]; omega)
        have HP1 := Aside0.mk hP0
        clear hP0
        refine wp_loop_rounds 1 ?_
        rw [rounds_succ]
        go_wp2_with fail
        go_loopw [0, 247, 30] (fun v i _ wr => ∃ j : Nat, j ≤ E ∧ i = .int .i64 (j : Int) ∧ Buf w0 wr v (P1 ++ (ds.drop D).take j) b ds) (fun _ i _ _ => E - (RowKit.intOf i).toNat)
        case atStart => exact ⟨0, Nat.zero_le _, rfl, by rw [List.take_zero, List.append_nil]; exact HB.out⟩
        case round =>
          obtain ⟨j, hj, rfl, hb⟩ := hrel
          clear HB
          have HB := Aside0.mk hb
          have HLN := Aside0.mk (show (P1 ++ (ds.drop D).take j).length ≤ 900 by have := HLP.out; have := HD2.out; rw [List.length_append, List.length_take, List.length_drop]; omega)
          rcases Nat.lt_or_ge j E with h | h
          · have p1 := eq_true (show (j : Int) < (E : Int) by omega)
            have MS := Aside0.mk (show E - ((j : Int) + 1).toNat < E - (j : Int).toNat by omega)
            have HJ := Aside0.mk (show j + 1 ≤ E by omega)
            have hjl : (D + j) < ds.length := by have := HN.out; omega
            have hc := hb.dig (D + j) hjl
            have HT := Aside0.mk (drop_at hjl)
            have hlt := hb.lt
            have hj30 : (j : Int) < 30 := by omega
            generalize ds[(D + j)] = y at hc HT
            have hxj : ((D : Int) + (j : Int)).toNat = D + j := by omega
            have hxj1 := eq_true (show D + j < 32 by have := HD2.out; have := HN.out; omega)
            have hxj2 := eq_true (show (D : Int) + (j : Int) < 32 by have := HD2.out; have := HN.out; omega)
            have hxj3 := eq_true (show 0 ≤ (D : Int) + (j : Int) by omega)
            clear h hj hb hjl
            go_wp2_with ((at_builtin; refine buf_app HB.out _ _ _ rfl rfl rfl rfl (by have := HLN.out; first | omega | (simp only [List.length_append, List.length_cons, List.length_nil]; omega) | simp) ?_); intro v1 w1 nB; clear HB; have HB := Aside0.mk nB; clear nB)
            go_roundw
            case measure => exact MS.out
            case rel => exact ⟨j + 1, HJ.out, rfl, by rw [HT.out, ← List.append_assoc]; exact HB.out⟩
          · have p1 := eq_false (show ¬ (j : Int) < (E : Int) by omega)
            obtain rfl : E = j := by omega
            clear h hj hb
            go_wp2_with fail
            refine wp_loop_rounds 1 ?_
            rw [rounds_succ]
            go_wp2_with fail
            have hlen := HN.out
            go_ret
            exact ⟨_, rfl, by rw [finB neg ds D E hD1 hE1 HD2.out (by omega), HPE.out, HP0.out, HP1.out]; exact HB.out⟩

set_option maxRecDepth 30000 in
set_option maxHeartbeats 8000000 in
theorem efg_fc (w0 w : World) (v : Value) (b : Nat) (neg : Bool) (ds : List Int) (dp : Int) (hd1 : 1 ≤ ds.length) (hd2 : ds.length ≤ 17) (h1 : dp ≤ 6) (h2 : (ds.length : Int) < dp)
    (hB : Buf w0 w v [] b ds) :
    Calls Tryz.prog 42 #[v, .bool neg, .slice (some ⟨b, 0, none⟩) 32 32, .int .i64 dp, .int .i64 (ds.length : Int), .int .i64 (ds.length : Int), .int .u8 103, .bool true] w (EfgRes w0 (txF neg ds dp) b ds) := by
  have HB := Aside0.mk hB
  have HLN := Aside0.mk (sgl_len neg)
  clear hB
  obtain ⟨n, hn⟩ : ∃ n : Int, (ds.length : Int) = n := ⟨_, rfl⟩
  have hn1 : 1 ≤ n := by omega
  have hn2 : n ≤ 17 := by omega
  rw [hn]
  have HN := Aside0.mk hn
  have HD2 := Aside0.mk hd2
  clear hn hd1 hd2
  have q1 := eq_false (show ¬ n > n by omega)
  have q1' := eq_false (show ¬ n < n by omega)
  have q2 := eq_false (show ¬ dp - 1 < -4 by omega)
  have q3 := eq_false (show ¬ 6 ≤ dp - 1 by omega)
  have q3' := eq_false (show ¬ dp - 1 ≥ 6 by omega)
  obtain ⟨M, hM⟩ : ∃ M : Nat, n = (M : Int) := ⟨n.toNat, by omega⟩
  subst hM
  obtain ⟨E, rfl⟩ : ∃ E : Nat, dp = (M : Int) + (E : Int) := ⟨(dp - M).toNat, by have := HN.out; omega⟩
  have hE1 : 1 ≤ E := by have := HN.out; omega
  have hE6 : E ≤ 6 := by omega
  have f1 := eq_true (show (0 : Int) < (M : Int) + (E : Int) by omega)
  have f2 : (M : Int) - ((M : Int) + (E : Int)) = -(E : Int) := by omega
  have f3 : (M : Int) + (E : Int) - (M : Int) = (E : Int) := by omega
  clear h1 h2
  go_enter Tryz.func42, Tryz.ntmps42
  go_upto_if 178 with fail
  go_cut [0, 5, 68, 72, 73] from 178 to 181 (fun v p _ _ _ wx => p = .int .i64 (0) ∧ Buf w0 wx v (sgl neg) b ds)
  case first =>
    cases neg
    · go_wp2_with fail
      go_meet
      case rel => exact ⟨by first | rfl | exact congrArg (Value.int .i64) (by omega), HB.out⟩
    · go_wp2_with ((at_builtin; refine buf_app HB.out _ _ _ rfl rfl rfl rfl (by have := HLN.out; first | omega | (simp only [List.length_append, List.length_cons, List.length_nil]; omega) | simp) ?_); intro v1 w1 nB; clear HB; have HB := Aside0.mk nB; clear nB)
      go_meet
      case rel => exact ⟨by first | rfl | exact congrArg (Value.int .i64) (by omega), HB.out⟩
  case rest =>
    clear HB
    obtain ⟨rfl, hcut⟩ := hcut
    have HB := Aside0.mk hcut
    clear hcut
    go_wp2_with fail
    obtain ⟨P, hP⟩ : ∃ P : List Int, sgl neg = P := ⟨_, rfl⟩
    have HLP := Aside0.mk (show P.length ≤ 10 by have := HLN.out; rw [← hP]; omega)
    have HBx := HB.out
    rw [hP] at HBx
    have HPE := Aside0.mk hP
    clear hP HB
    have HB := Aside0.mk HBx
    clear HBx
    go_loopw [0, 191, 25] (fun v i _ wr => ∃ j : Nat, j ≤ M ∧ i = .int .i64 (j : Int) ∧ Buf w0 wr v (P ++ ds.take j) b ds) (fun _ i _ _ => M - (RowKit.intOf i).toNat)
    case atStart => exact ⟨0, Nat.zero_le _, rfl, by rw [List.take_zero, List.append_nil]; exact HB.out⟩
    case round =>
      obtain ⟨j, hj, rfl, hb⟩ := hrel
      clear HB
      have HB := Aside0.mk hb
      have HLN := Aside0.mk (show (P ++ ds.take j).length ≤ 60 by have := HLP.out; have := HD2.out; rw [List.length_append, List.length_take]; omega)
      rcases Nat.lt_or_ge j M with h | h
      · have p1 := eq_true (show (j : Int) < (M : Int) by omega)
        have MS := Aside0.mk (show M - ((j : Int) + 1).toNat < M - (j : Int).toNat by omega)
        have HJ := Aside0.mk (show j + 1 ≤ M by omega)
        have hjl : j < ds.length := by have := HN.out; omega
        have hc := hb.dig j hjl
        have HT := Aside0.mk (take_on hjl)
        have hlt := hb.lt
        have hj30 : (j : Int) < 30 := by omega
        generalize ds[j] = y at hc HT
        clear h hj hb hjl
        go_wp2_with ((at_builtin; refine buf_app HB.out _ _ _ rfl rfl rfl rfl (by have := HLN.out; first | omega | (simp only [List.length_append, List.length_cons, List.length_nil]; omega) | simp) ?_); intro v1 w1 nB; clear HB; have HB := Aside0.mk nB; clear nB)
        go_roundw
        case measure => exact MS.out
        case rel => exact ⟨j + 1, HJ.out, rfl, by rw [HT.out, ← List.append_assoc]; exact HB.out⟩
      · have p1 := eq_false (show ¬ (j : Int) < (M : Int) by omega)
        obtain rfl : M = j := by omega
        clear h hj hb
        go_wp2_with fail
        clear HLP
        obtain ⟨P0, hP0⟩ : ∃ P0 : List Int, P ++ ds.take M = P0 := ⟨_, rfl⟩
        have HBx := HB.out
        rw [hP0] at HBx
        clear HB
        have HB := Aside0.mk HBx
        clear HBx
        have HLP := Aside0.mk (show P0.length ≤ 60 by rw [← hP0]; exact HLN.out)
        have HP0 := Aside0.mk hP0
        clear hP0
        go_loopw [0, 203] (fun v i wr => ∃ j : Nat, j ≤ E ∧ i = .int .i64 (j : Int) ∧ Buf w0 wr v (P0 ++ zeros j) b ds) (fun _ i _ => E - (RowKit.intOf i).toNat)
        case atStart => exact ⟨0, Nat.zero_le _, rfl, by rw [show zeros 0 = [] from rfl, List.append_nil]; exact HB.out⟩
        case round =>
          obtain ⟨j, hj, rfl, hb⟩ := hrel
          clear HB
          have HB := Aside0.mk hb
          have HLN := Aside0.mk (show (P0 ++ zeros j).length ≤ 90 by have := HLP.out; rw [List.length_append, zeros_len]; omega)
          clear hb
          rcases Nat.lt_or_ge j E with h | h
          · have p1 := eq_true (show (j : Int) < (E : Int) by omega)
            have MS := Aside0.mk (show E - ((j : Int) + 1).toNat < E - (j : Int).toNat by omega)
            have HJ := Aside0.mk (show j + 1 ≤ E by omega)
            have hj30 : (j : Int) < 30 := by omega
            clear h hj
            go_wp2_with ((at_builtin; refine buf_app HB.out _ _ _ rfl rfl rfl rfl (by have := HLN.out; first | omega | (simp only [List.length_append, List.length_cons, List.length_nil]; omega) | simp) ?_); intro v1 w1 nB; clear HB; have HB := Aside0.mk nB; clear nB)
            go_roundw
            case measure => exact MS.out
            case rel => exact ⟨j + 1, HJ.out, rfl, by rw [zeros_on, ← List.append_assoc]; exact HB.out⟩
          · have p1 := eq_false (show ¬ (j : Int) < (E : Int) by omega)
            obtain rfl : E = j := by omega
            clear h hj
            go_wp2_with fail
            have hlen := HN.out
            go_ret
            exact ⟨_, rfl, by rw [finC neg ds M E HD2.out (by omega) (by omega), HPE.out, HP0.out]; exact HB.out⟩

set_option maxRecDepth 30000 in
set_option maxHeartbeats 8000000 in
theorem efg_fd (w0 w : World) (v : Value) (b : Nat) (neg : Bool) (ds : List Int) (dp : Int) (hd1 : 1 ≤ ds.length) (hd2 : ds.length ≤ 17) (h1 : dp ≤ 6) (h2 : (ds.length : Int) = dp)
    (hB : Buf w0 w v [] b ds) :
    Calls Tryz.prog 42 #[v, .bool neg, .slice (some ⟨b, 0, none⟩) 32 32, .int .i64 dp, .int .i64 (ds.length : Int), .int .i64 (ds.length : Int), .int .u8 103, .bool true] w (EfgRes w0 (txF neg ds dp) b ds) := by
  have HB := Aside0.mk hB
  have HLN := Aside0.mk (sgl_len neg)
  clear hB
  obtain ⟨n, hn⟩ : ∃ n : Int, (ds.length : Int) = n := ⟨_, rfl⟩
  have hn1 : 1 ≤ n := by omega
  have hn2 : n ≤ 17 := by omega
  rw [hn]
  have HN := Aside0.mk hn
  have HD2 := Aside0.mk hd2
  clear hn hd1 hd2
  have q1 := eq_false (show ¬ n > n by omega)
  have q1' := eq_false (show ¬ n < n by omega)
  have q2 := eq_false (show ¬ dp - 1 < -4 by omega)
  have q3 := eq_false (show ¬ 6 ≤ dp - 1 by omega)
  have q3' := eq_false (show ¬ dp - 1 ≥ 6 by omega)
  obtain ⟨M, hM⟩ : ∃ M : Nat, n = (M : Int) := ⟨n.toNat, by omega⟩
  subst hM
  obtain rfl : dp = (M : Int) := by have := HN.out; omega
  have f1 := eq_true (show (0 : Int) < (M : Int) by omega)
  have f1n := eq_true (show 0 < M by omega)
  have f3 : (M : Int) - (M : Int) = 0 := by omega
  clear h1 h2
  go_enter Tryz.func42, Tryz.ntmps42
  go_upto_if 178 with fail
  go_cut [0, 5, 68, 72, 73] from 178 to 181 (fun v p _ _ _ wx => p = .int .i64 (0) ∧ Buf w0 wx v (sgl neg) b ds)
  case first =>
    cases neg
    · go_wp2_with fail
      go_meet
      case rel => exact ⟨by first | rfl | exact congrArg (Value.int .i64) (by omega), HB.out⟩
    · go_wp2_with ((at_builtin; refine buf_app HB.out _ _ _ rfl rfl rfl rfl (by have := HLN.out; first | omega | (simp only [List.length_append, List.length_cons, List.length_nil]; omega) | simp) ?_); intro v1 w1 nB; clear HB; have HB := Aside0.mk nB; clear nB)
      go_meet
      case rel => exact ⟨by first | rfl | exact congrArg (Value.int .i64) (by omega), HB.out⟩
  case rest =>
    clear HB
    obtain ⟨rfl, hcut⟩ := hcut
    have HB := Aside0.mk hcut
    clear hcut
    go_wp2_with fail
    obtain ⟨P, hP⟩ : ∃ P : List Int, sgl neg = P := ⟨_, rfl⟩
    have HLP := Aside0.mk (show P.length ≤ 10 by have := HLN.out; rw [← hP]; omega)
    have HBx := HB.out
    rw [hP] at HBx
    have HPE := Aside0.mk hP
    clear hP HB
    have HB := Aside0.mk HBx
    clear HBx
    go_loopw [0, 191, 25] (fun v i _ wr => ∃ j : Nat, j ≤ M ∧ i = .int .i64 (j : Int) ∧ Buf w0 wr v (P ++ ds.take j) b ds) (fun _ i _ _ => M - (RowKit.intOf i).toNat)
    case atStart => exact ⟨0, Nat.zero_le _, rfl, by rw [List.take_zero, List.append_nil]; exact HB.out⟩
    case round =>
      obtain ⟨j, hj, rfl, hb⟩ := hrel
      clear HB
      have HB := Aside0.mk hb
      have HLN := Aside0.mk (show (P ++ ds.take j).length ≤ 60 by have := HLP.out; have := HD2.out; rw [List.length_append, List.length_take]; omega)
      rcases Nat.lt_or_ge j M with h | h
      · have p1 := eq_true (show (j : Int) < (M : Int) by omega)
        have MS := Aside0.mk (show M - ((j : Int) + 1).toNat < M - (j : Int).toNat by omega)
        have HJ := Aside0.mk (show j + 1 ≤ M by omega)
        have hjl : j < ds.length := by have := HN.out; omega
        have hc := hb.dig j hjl
        have HT := Aside0.mk (take_on hjl)
        have hlt := hb.lt
        have hj30 : (j : Int) < 30 := by omega
        generalize ds[j] = y at hc HT
        clear h hj hb hjl
        go_wp2_with ((at_builtin; refine buf_app HB.out _ _ _ rfl rfl rfl rfl (by have := HLN.out; first | omega | (simp only [List.length_append, List.length_cons, List.length_nil]; omega) | simp) ?_); intro v1 w1 nB; clear HB; have HB := Aside0.mk nB; clear nB)
        go_roundw
        case measure => exact MS.out
        case rel => exact ⟨j + 1, HJ.out, rfl, by rw [HT.out, ← List.append_assoc]; exact HB.out⟩
      · have p1 := eq_false (show ¬ (j : Int) < (M : Int) by omega)
        obtain rfl : M = j := by omega
        clear h hj hb
        go_wp2_with fail
        clear HLP
        obtain ⟨P0, hP0⟩ : ∃ P0 : List Int, P ++ ds.take M = P0 := ⟨_, rfl⟩
        have HBx := HB.out
        rw [hP0] at HBx
        clear HB
        have HB := Aside0.mk HBx
        clear HBx
        have HLP := Aside0.mk (show P0.length ≤ 60 by rw [← hP0]; exact HLN.out)
        have HP0 := Aside0.mk hP0
        clear hP0
        refine wp_loop_rounds 1 ?_
        rw [rounds_succ]
        go_wp2_with fail
        have hlen := HN.out
        go_ret
        exact ⟨_, rfl, by rw [finD neg ds M HD2.out (by omega) (by omega), HPE.out, HP0.out]; exact HB.out⟩

set_option maxRecDepth 30000 in
set_option maxHeartbeats 8000000 in
theorem efg_0 (w0 w : World) (v : Value) (b : Nat) (neg : Bool) (hB : Buf w0 w v [] b []) :
    Calls Tryz.prog 42 #[v, .bool neg, .slice none 0 0, .int .i64 0, .int .i64 0, .int .i64 (-1), .int .u8 103, .bool true] w (EfgRes w0 (tx neg [] 0) b []) := by
  have HB := Aside0.mk hB
  have HLN := Aside0.mk (sgl_len neg)
  clear hB
  cases neg
  · go_enter Tryz.func42, Tryz.ntmps42
    go_wp2_with ((at_builtin; refine buf_app HB.out _ _ _ rfl rfl rfl rfl (by have := HLN.out; first | omega | (simp only [List.length_append, List.length_cons, List.length_nil]; omega) | simp) ?_); intro v1 w1 nB; clear HB; have HB := Aside0.mk nB; clear nB)
    go_ret
    exact ⟨_, rfl, HB.out⟩
  · go_enter Tryz.func42, Tryz.ntmps42
    go_wp2_with ((at_builtin; refine buf_app HB.out _ _ _ rfl rfl rfl rfl (by have := HLN.out; first | omega | (simp only [List.length_append, List.length_cons, List.length_nil]; omega) | simp) ?_); intro v1 w1 nB; clear HB; have HB := Aside0.mk nB; clear nB)
    go_ret
    exact ⟨_, rfl, HB.out⟩

theorem efg_any (w0 w : World) (v : Value) (b : Nat) (neg : Bool) (ds : List Int) (dp : Int) (h1 : 1 ≤ ds.length) (h2 : ds.length ≤ 17) (h3 : -400 ≤ dp) (h4 : dp ≤ 400)
    (hB : Buf w0 w v [] b ds) :
    Calls Tryz.prog 42 #[v, .bool neg, .slice (some ⟨b, 0, none⟩) 32 32, .int .i64 dp, .int .i64 (ds.length : Int), .int .i64 (ds.length : Int), .int .u8 103, .bool true] w (EfgRes w0 (tx neg ds dp) b ds) := by
  match ds, h1, h2, hB with
  | c :: r, h1, h2, hB =>
    have hr : r.length ≤ 16 := by simp at h2; omega
    by_cases hE : dp - 1 < -4 ∨ 6 ≤ dp - 1
    · have e : tx neg (c :: r) dp = txE neg c r dp := if_pos hE
      rw [e]
      exact efg_e w0 w v b neg c r dp hr h3 h4 hE hB
    · have e : tx neg (c :: r) dp = txF neg (c :: r) dp := if_neg hE
      rw [e]
      rcases (show dp < 0 ∨ dp = 0 ∨ (0 < dp ∧ dp < ((c :: r).length : Int)) ∨ ((c :: r).length : Int) = dp ∨ ((c :: r).length : Int) < dp by omega) with g | g | g | g | g
      · exact efg_fa w0 w v b neg _ dp h1 h2 (by omega) g hB
      · exact efg_fz w0 w v b neg _ dp h1 h2 g hB
      · exact efg_fb w0 w v b neg _ dp h1 h2 g.1 (by omega) g.2 hB
      · exact efg_fd w0 w v b neg _ dp h1 h2 (by omega) g hB
      · exact efg_fc w0 w v b neg _ dp h1 h2 (by omega) g hB
end Go.Proofs.YtjniglmijikojaaGreatDoor.Text
