/- The examples of the chapters 1 and 2: they hold. The conditions: the tables are laid. RealTexts: the law holds of any numbers and any text. The conditions: 64 bits; the tables are laid. From what the row lists to what the walks ask of the library's tables. No conditions. -/
import Derived.Test.YtjniglmijikojaaGreatDoorGOwnFloat
import Derived.Test.YtjniglmijikojaaGreatDoorGMyAw
import Derived.Test.YtjniglmijikojaaGreatDoorGOwnBack
import Derived.Test.YtjniglmijikojaaGreatDoorGMyAtof
import Derived.Test.YtjniglmijikojaaGreatDoorRows
import Derived.Stop.LaidErr
import Derived.Lib.LaidU8
import Derived.Deep.Strs
import Derived.Laws.Cover2
namespace Go.Proofs.YtjniglmijikojaaGreatDoor.Real
open Go.RowKit Go.Lib Go.Proofs.YtjniglmijikojaaGreatDoor.PRealTexts Go.Proofs.YtjniglmijikojaaGreatDoor.Text

theorem awake01 (w : World) : Calls Tryz.prog 8 #[] w fun e w' => e = .returned (.bool true) ∧ Below w.heap.size w w' :=
  vagabondlaw01_Awake.calls 10 true w (by decide +kernel)

theorem s1 : Go.bits .andNot .u64 0 9223372036854775808 = 0 := by decide +kernel
theorem s2 : Go.bits .and .u64 13830554455654793216 9223372036854775808 = 9223372036854775808 := by decide +kernel
theorem s3 : Go.bits .or .u64 0 9223372036854775808 = 9223372036854775808 := by decide +kernel

theorem copysign_any (w : World) : Calls Tryz.prog 10 #[.float .f64 0, .float .f64 13830554455654793216] w fun e w' => e = .returned (.float .f64 9223372036854775808) ∧ w = w' := by
  have h1 := s1
  have h2 := s2
  have h3 := s3
  have h4 : ∀ W, (callFunc 18 #[.float .f64 0]).run Tryz.prog W = .ok (.value (.int .u64 0)) W := fun W => f18 0 W
  have h5 : ∀ W, (callFunc 18 #[.float .f64 13830554455654793216]).run Tryz.prog W = .ok (.value (.int .u64 13830554455654793216)) W := fun W => f18 13830554455654793216 W
  have h6 : ∀ W, (callFunc 17 #[.int .u64 9223372036854775808]).run Tryz.prog W = .ok (.value (.float .f64 9223372036854775808)) W := fun W => f17 9223372036854775808 W
  go_enter Tryz.func10, Tryz.ntmps10
  go_wp2
  go_ret
  exact ⟨rfl, rfl⟩

theorem kd_half : kd 4602678819172646912 = 5 := by decide +kernel
theorem cp_zeros : cp 9223372036854775808 0 = -1 := by decide +kernel

theorem srt_half : srt 4503599627370496 (-53) 11 = (5000000000000000, -16) := by decide +kernel
theorem half_text : textB 4602678819172646912 = ⟨#[48, 46, 53]⟩ := by
  have e1 : textL 4602678819172646912 = numL 4602678819172646912 := text_fin _ (by decide) (by decide)
  have e2 : numL 4602678819172646912 = numTx false 4503599627370496 (-53) 11 := by
    unfold numL
    rw [if_neg (by decide)]
    rfl
  have e3 : strip 5000000000000000 = 5 := strip_pow 5 15 (by decide)
  have e4 : nDigits 5000000000000000 = 16 := nDigits_unique 15 _ (by decide) (by decide)
  have e5 : nDigits 5 = 1 := nDigits_small (by decide)
  unfold textB
  rw [e1, e2]
  unfold numTx dsOf
  rw [srt_half]
  simp only [e3, e4, e5]
  decide +kernel
theorem text_half (w : World) (ht : Tabs w) : Calls Tryz.prog 5 #[.float .f64 4602678819172646912] w fun e w' => e = .returned (.string ⟨#[48, 46, 53]⟩) ∧ Below w.heap.size w w' :=
  half_text ▸ text_any 4602678819172646912 (by omega) w ht

theorem awake02 (w : World) (ht : Tabs w) : Calls Tryz.prog 4 #[] w fun e w' => e = .returned (.bool true) ∧ Below w.heap.size w w' := by
  have hc := cmp_any 9223372036854775808 0 (by omega) (by omega)
  rw [cp_zeros] at hc
  have HC := Aside0.mk hc
  have HT := Aside0.mk ht
  clear hc ht
  go_enter Tryz.func4, Tryz.ntmps4
  go_wp2_with (first
    | (go_at_call 8; refine (awake01 _).mono ?_; rintro e w1 ⟨rfl, hb1⟩; have HB1 := Aside0.mk hb1; clear hb1)
    | (go_at_call 10; refine (copysign_any _).mono ?_; rintro e w' ⟨rfl, rfl⟩)
    | (go_at_call 9; refine (HC.out _).mono ?_; rintro e w' ⟨rfl, rfl⟩)
    | (go_at_call 5; refine (text_half _ (HT.out.below HB1.out)).mono ?_; rintro e w2 ⟨rfl, hb2⟩; have HB2 := Aside0.mk (HB1.out.trans (hb2.mono HB1.out.size)); clear hb2))
  go_ret
  exact ⟨rfl, HB2.out⟩

end Go.Proofs.YtjniglmijikojaaGreatDoor.Real
namespace Go.Proofs.YtjniglmijikojaaGreatDoor.Text
set_option linter.unusedSimpArgs false
set_option linter.unusedVariables false
open Go.RowKit Go.Lib Go.Proofs.YtjniglmijikojaaGreatDoor.Own Go.Proofs.YtjniglmijikojaaGreatDoor.Real Go.Proofs.YtjniglmijikojaaGreatDoorW.PrintWords

theorem toList_eqB (a b : ByteArray) : (a.toList == b.toList) = decide (a = b) := by
  rw [ByteArray.toList_eq, ByteArray.toList_eq]
  by_cases h : a = b
  · subst h
    simp
  · rw [decide_eq_false h]
    exact beq_eq_false_iff_ne.2 (fun e => h (Go.WideShapes.bytes_inj e))
def YesRes (w : World) (e : Ending) (w' : World) : Prop := e = .returned (.bool true) ∧ Below w.heap.size w w'
set_option maxRecDepth 30000 in
set_option maxHeartbeats 4000000 in
theorem texts_row (a b : Nat) (s : ByteArray) (ha : a < 18446744073709551616) (hb : b < 18446744073709551616) (w : World) (ht : Tabs w) (h2 : Two w) (hsz : s.size ≤ 281474976710656) :
    Calls Tryz.prog 3 #[.float .f64 a, .float .f64 b, .string s] w (YesRes w) := by
  have HT := Aside0.mk ht
  have H2 := Aside0.mk h2
  have HA := Aside0.mk (fun w ht => awake02 w ht)
  have HTA := Aside0.mk (fun w ht => text_any a ha w ht)
  have HTB := Aside0.mk (fun w ht => text_any b hb w ht)
  have HPO := Aside0.mk (fun w ht => parse_own a ha w ht)
  have HSB := Aside0.mk (fun w => same_any a b ha hb w)
  have HL := Aside0.mk (textB_len a ha)
  have HAB := Aside0.mk (textB_same a b ha hb)
  obtain ⟨z, hz⟩ : ∃ z : Int, (s.size : Int) = z := ⟨_, rfl⟩
  have HZ := Aside0.mk hz
  have HSZ := Aside0.mk (show z ≤ 281474976710656 by omega)
  clear ht h2
  obtain ⟨ta, hta⟩ : ∃ ta, textB a = ta := ⟨_, rfl⟩
  obtain ⟨tb, htb⟩ : ∃ tb, textB b = tb := ⟨_, rfl⟩
  rw [hta] at HTA HPO HL HAB
  rw [htb] at HTB HAB
  have HAE := Aside0.mk hta
  clear hta htb
  rcases Int.lt_or_le 60 z with h | h
  · have q := eq_true h
    clear h
    go_enter Tryz.func3, Tryz.ntmps3
    go_wp2_with fail
    refine (HA.out _ HT.out).mono ?_
    rintro e w1 ⟨rfl, hb1⟩
    have HB1 := Aside0.mk hb1
    clear hb1
    go_wp2
    go_returns
    exact ⟨rfl, HB1.out⟩
  · have q := eq_false (show ¬ 60 < z by omega)
    have HS := Aside0.mk (show s.size ≤ 60 by omega)
    clear h
    go_enter Tryz.func3, Tryz.ntmps3
    go_wp2_with fail
    refine (HA.out _ HT.out).mono ?_
    rintro e w1 ⟨rfl, hb1⟩
    have HB1 := Aside0.mk hb1
    have HT1 := Aside0.mk (HT.out.below hb1)
    have H21 := Aside0.mk (H2.out.below hb1)
    clear hb1
    go_wp2_with fail
    refine (HTA.out _ HT1.out).mono ?_
    rintro e w2 ⟨rfl, hb2⟩
    have HB2 := Aside0.mk (HB1.out.trans (hb2.mono HB1.out.size))
    have HT2 := Aside0.mk (HT1.out.below hb2)
    have H22 := Aside0.mk (H21.out.below hb2)
    clear hb2
    go_wp2_with fail
    refine (HPO.out _ HT2.out).mono ?_
    rintro e w3 ⟨⟨y, rfl, hy, hyt⟩, hb3⟩
    have HB3 := Aside0.mk (HB2.out.trans (hb3.mono HB2.out.size))
    have HT3 := Aside0.mk (HT2.out.below hb3)
    have H23 := Aside0.mk (H22.out.below hb3)
    have hsm : Real.sm y a = true := (textB_same y a hy ha).1 (by rw [hyt, HAE.out])
    have HSY := Aside0.mk (fun w => hsm ▸ same_any y a hy ha w)
    clear hb3 hsm hyt hy
    go_wp2_with fail
    refine (parse_any s HS.out _ HT3.out H23.out).mono ?_
    rintro e w4 ⟨⟨x, k, rfl, hx, hk⟩, hb4⟩
    have HB4 := Aside0.mk (HB3.out.trans (hb4.mono HB3.out.size))
    have HT4 := Aside0.mk (HT3.out.below hb4)
    have HTX := Aside0.mk (fun w ht => text_any x hx w ht)
    clear hb4
    have E1 : (ta.toList == tb.toList ) = Real.sm a b := by
      rw [toList_eqB]
      cases hs : Real.sm a b
      · exact decide_eq_false (fun e => by rw [HAB.out.1 e] at hs; cases hs)
      · exact decide_eq_true (HAB.out.2 hs)
    have hl24 : (ta.size : Int) ≤ 24 := by have := HL.out; omega
    have q24 := eq_true hl24
    have q24' := eq_true (show ta.size ≤ 24 from HL.out)
    clear hl24
    rcases hk with ⟨rfl, hk⟩ | ⟨rfl, rfl, _⟩
    · rw [hk] at HTX
      clear hk hx
      obtain ⟨bq, hbq⟩ : ∃ bq, Real.sm a b = bq := ⟨_, rfl⟩
      rw [hbq] at E1 HSB
      clear hbq
      go_wp2_with (first
        | ((go_at_call 7; with_reducible refine (HSY.out _).mono ?_); rintro e w' ⟨rfl, rfl⟩)
        | ((go_at_call 7; with_reducible refine (HSB.out _).mono ?_); rintro e w' ⟨rfl, rfl⟩)
        | ((go_at_call 5; with_reducible refine (HTB.out _ HT4.out).mono ?_); rintro e w5 ⟨rfl, hb5⟩; have HB5 := Aside0.mk (HB4.out.trans (hb5.mono HB4.out.size)); have HT5 := Aside0.mk (HT4.out.below hb5); clear hb5)
        | ((go_at_call 5; with_reducible refine (HTX.out _ HT5.out).mono ?_); rintro e w6 ⟨rfl, hb6⟩; have HB6 := Aside0.mk (HB5.out.trans (hb6.mono HB5.out.size)); clear hb6))
      go_returns
      exact ⟨rfl, HB6.out⟩
    · clear hx
      obtain ⟨bq, hbq⟩ : ∃ bq, Real.sm a b = bq := ⟨_, rfl⟩
      rw [hbq] at E1 HSB
      clear hbq
      go_wp2_with (first
        | ((go_at_call 7; with_reducible refine (HSY.out _).mono ?_); rintro e w' ⟨rfl, rfl⟩)
        | ((go_at_call 7; with_reducible refine (HSB.out _).mono ?_); rintro e w' ⟨rfl, rfl⟩)
        | ((go_at_call 5; with_reducible refine (HTB.out _ HT4.out).mono ?_); rintro e w5 ⟨rfl, hb5⟩; have HB5 := Aside0.mk (HB4.out.trans (hb5.mono HB4.out.size)); clear hb5))
      go_returns
      exact ⟨rfl, HB5.out⟩
end Go.Proofs.YtjniglmijikojaaGreatDoor.Text
namespace Go.Proofs.YtjniglmijikojaaGreatDoor.Text
set_option linter.unusedVariables false
open Go.RowKit Go.Lib Go.ChangeShapes Go.Proofs.YtjniglmijikojaaGreatDoor.Own

theorem trod_float {P : Program} {w : World} {base : Nat} {spare : Nat → Bool} {held : Bool} {fuel : Nat} {t : TypeId} {k : FloatKind} {cs : List Value} {x : DataW Unit × List MemPlace} (ht : P.underlying t = some (.float k))
    (h : DataW.trod (fun _ => ()) P w base spare held fuel t cs = some x) : ∃ b, cs = [.float k b] ∧ x = (.lit (.float k b), []) := by
  cases fuel with
  | zero => simp [DataW.trod] at h
  | succ n =>
    unfold DataW.trod at h
    rw [ht] at h
    split at h <;> simp_all
/-- A variable that is a slice, of elements whose cells are known by what they read as. -/
theorem slice_of_reads {P : Program} {w : World} {name : String} {g : Nat} {t e : TypeId} {n k : Nat} {f : Nat → Value} {ds : List (DataW Unit)} (hn : P.globalNamed name = some g) (hy : (P.globals[g]?).map (·.type) = some t)
    (ht : P.underlying t = some (.slice e)) (hc : P.cellsOf e = k) (hl : ds.length = n) (hn0 : 0 < n) (hk0 : 0 < k)
    (hel : ∀ i d, ds[i]? = some d → ∀ fuel cs q, DataW.trod (fun _ => ()) P w 0 (fun _ => true) false fuel e cs = some (d, q) → ∀ j, j < k → cs[j]? = some (f (i * k + j)))
    (h : VarReads P w name (.slice ds [])) : SliceAt w g n k f := by
  obtain ⟨g', t', cs, fuel, p, hg, hty, hvar, hd⟩ := h
  obtain rfl := Option.some.inj (hn.symm.trans hg)
  obtain rfl := Option.some.inj (hy.symm.trans hty)
  rcases DataW.trod_slice ht hd with ⟨_, hx⟩ | ⟨a, len, cap, el, rs, m, rfl, hcs, hx, _, hlc, _, hell, helem, hsp, _⟩
  · cases hx
  have e0 := congrArg Prod.fst hx
  simp only [DataW.slice.injEq] at e0
  obtain ⟨eE, eR⟩ := e0
  have hlen : len = n := by
    have := congrArg List.length eE
    simp at this
    omega
  have hcell : ∀ i j, i < n → j < k → w.cell? ((a.add (i * k)).add j) = some (f (i * k + j)) := by
    intro i j hi hj
    have h1 := helem i (by omega)
    rw [hc] at h1
    obtain ⟨b, hb⟩ : ∃ b, el[i]? = some b := ⟨el[i]'(by omega), List.getElem?_eq_getElem (by omega)⟩
    rw [hb] at h1
    obtain ⟨ce, hce, hte⟩ := Option.bind_eq_some_iff.1 h1
    have hdi : ds[i]? = some b.1 := by
      rw [eE, List.getElem?_map, hb]
      rfl
    have h2 := hel i b.1 hdi m ce b.2 hte j hj
    obtain ⟨_, _, hcc⟩ := World.cells?_some hce
    rw [hcc j hj, h2]
  obtain ⟨R, o, sR⟩ := a
  obtain rfl : sR = none := by
    have h00 := hcell 0 0 hn0 hk0
    rw [Nat.zero_mul] at h00
    have : ((Addr.add ⟨R, o, sR⟩ 0).add 0) = ⟨R, o, sR⟩ := by simp [Addr.add]
    rw [this] at h00
    exact Go.Proofs.cell_spot h00
  have hvc : w.cell? ⟨g, 0, none⟩ = some (.slice (some ⟨R, o, none⟩) n cap) := by
    rw [World.var?_cell hg hvar 0, ← Array.getElem?_toList, hcs, hlen]
    rfl
  have hall : ∀ i, i < n * k → w.cell? ⟨R, o + i, none⟩ = some (f i) := by
    intro i hi
    have hd1 : i / k < n := (Nat.div_lt_iff_lt_mul hk0).2 hi
    have h1 := hcell (i / k) (i % k) hd1 (Nat.mod_lt _ hk0)
    have e1 : i / k * k + i % k = i := by rw [Nat.mul_comm]; exact Nat.div_add_mod i k
    rw [Addr.add_lit, Addr.add_lit, Nat.add_assoc, e1] at h1
    exact h1
  exact ⟨World.block_lt_of_cell? w _ hvc, R, o, cap, hvc, World.block_lt_of_cell? w _ (hall 0 (Nat.mul_pos hn0 hk0)), hall⟩

theorem g1 : Tryz.prog.globalNamed "internal/strconv.optimize" = some 1 := by kernel_rfl
theorem y1 : (Tryz.prog.globals[1]?).map (·.type) = some 4 := by kernel_rfl
theorem g2 : Tryz.prog.globalNamed "strconv.ErrSyntax" = some 2 := by kernel_rfl
theorem y2 : (Tryz.prog.globals[2]?).map (·.type) = some 35 := by kernel_rfl
theorem g3 : Tryz.prog.globalNamed "strconv.ErrRange" = some 3 := by kernel_rfl
theorem y3 : (Tryz.prog.globals[3]?).map (·.type) = some 35 := by kernel_rfl
theorem g4 : Tryz.prog.globalNamed "internal/strconv.uint64pow10" = some 4 := by kernel_rfl
theorem y4 : (Tryz.prog.globals[4]?).map (·.type) = some 105 := by kernel_rfl
theorem g5 : Tryz.prog.globalNamed "internal/strconv.float32info" = some 5 := by kernel_rfl
theorem y5 : (Tryz.prog.globals[5]?).map (·.type) = some 117 := by kernel_rfl
theorem g6 : Tryz.prog.globalNamed "internal/strconv.float64info" = some 6 := by kernel_rfl
theorem y6 : (Tryz.prog.globals[6]?).map (·.type) = some 117 := by kernel_rfl
theorem g7 : Tryz.prog.globalNamed "internal/strconv.pow10Tab" = some 7 := by kernel_rfl
theorem y7 : (Tryz.prog.globals[7]?).map (·.type) = some 139 := by kernel_rfl
theorem g8 : Tryz.prog.globalNamed "internal/strconv.leftcheats" = some 8 := by kernel_rfl
theorem y8 : (Tryz.prog.globals[8]?).map (·.type) = some 145 := by kernel_rfl
theorem g10 : Tryz.prog.globalNamed "internal/strconv.powtab" = some 10 := by kernel_rfl
theorem y10 : (Tryz.prog.globals[10]?).map (·.type) = some 62 := by kernel_rfl
theorem g11 : Tryz.prog.globalNamed "internal/strconv.float64pow10" = some 11 := by kernel_rfl
theorem y11 : (Tryz.prog.globals[11]?).map (·.type) = some 152 := by kernel_rfl
theorem c3 : Tryz.prog.cellsOf 3 = 1 := by kernel_rfl
theorem c22 : Tryz.prog.cellsOf 22 = 1 := by kernel_rfl
theorem c9 : Tryz.prog.cellsOf 9 = 1 := by kernel_rfl
theorem c63 : Tryz.prog.cellsOf 63 = 1 := by kernel_rfl
theorem c144 : Tryz.prog.cellsOf 144 = 2 := by kernel_rfl
theorem c138 : Tryz.prog.cellsOf 138 = 2 := by kernel_rfl

theorem info_of {w : World} (h : VarReads Tryz.prog w "internal/strconv.float64info" Rows.laid_internal_strconv_float64info) :
    w.cell? ⟨6, 0, none⟩ = some (.int .u64 52) ∧ w.cell? ⟨6, 1, none⟩ = some (.int .u64 11) ∧ w.cell? ⟨6, 2, none⟩ = some (.int .i64 (-1023)) := by
  obtain ⟨g, t, cs, fuel, p, hg, hty, hvar, hd⟩ := h
  obtain rfl := Option.some.inj (g6.symm.trans hg)
  obtain rfl := Option.some.inj (y6.symm.trans hty)
  obtain ⟨xs, n, rfl, hx, hl, hxl, hall⟩ := DataW.trod_struct Tryz.underlying117 hd
  have e := congrArg Prod.fst hx
  have e' : ([.lit (.int .u64 52), .lit (.int .u64 11), .lit (.int .i64 (-1023))] : List (DataW Unit)) = xs.map (·.1) := by
    injection e
  match xs, e', hall with
  | [a, b, c], e', hall =>
    injection e' with ea e'
    injection e' with eb e'
    injection e' with ec _
    have h0 : DataW.trod (fun _ => ()) Tryz.prog w 0 (fun _ => true) false n 63 ((cs.toList.drop 0).take (Tryz.prog.cellsOf 63)) = some a := hall 0 _ rfl
    have h1 : DataW.trod (fun _ => ()) Tryz.prog w 0 (fun _ => true) false n 63 ((cs.toList.drop 1).take (Tryz.prog.cellsOf 63)) = some b := hall 1 _ rfl
    have h2 : DataW.trod (fun _ => ()) Tryz.prog w 0 (fun _ => true) false n 3 ((cs.toList.drop 2).take (Tryz.prog.cellsOf 3)) = some c := hall 2 _ rfl
    rw [c63] at h0 h1
    rw [c3] at h2
    obtain ⟨z0, q0, r0, _⟩ := DataW.trod_int Tryz.underlying63 h0
    obtain ⟨z1, q1, r1, _⟩ := DataW.trod_int Tryz.underlying63 h1
    obtain ⟨z2, q2, r2, _⟩ := DataW.trod_int Tryz.underlying3 h2
    have u0 := ea.trans (congrArg Prod.fst r0)
    have u1 := eb.trans (congrArg Prod.fst r1)
    have u2 := ec.trans (congrArg Prod.fst r2)
    simp only [DataW.lit.injEq, Lit.int.injEq, true_and] at u0 u1 u2
    subst u0 u1 u2
    have k0 := congrArg (·[0]?) q0
    have k1 := congrArg (·[0]?) q1
    have k2 := congrArg (·[0]?) q2
    simp only [List.getElem?_take, List.getElem?_drop] at k0 k1 k2
    refine ⟨?_, ?_, ?_⟩
    · rw [World.var?_cell g6 hvar 0, ← Array.getElem?_toList]; simpa using k0
    · rw [World.var?_cell g6 hvar 1, ← Array.getElem?_toList]; simpa using k1
    · rw [World.var?_cell g6 hvar 2, ← Array.getElem?_toList]; simpa using k2
theorem info5_of {w : World} (h : VarReads Tryz.prog w "internal/strconv.float32info" Rows.laid_internal_strconv_float32info) : ∃ v, w.cell? ⟨5, 0, none⟩ = some v := by
  obtain ⟨g, t, cs, fuel, p, hg, hty, hvar, hd⟩ := h
  obtain rfl := Option.some.inj (g5.symm.trans hg)
  obtain rfl := Option.some.inj (y5.symm.trans hty)
  obtain ⟨xs, n, rfl, hx, hl, hxl, hall⟩ := DataW.trod_struct Tryz.underlying117 hd
  have hlen : cs.toList.length = 3 := hl.trans (by kernel_rfl)
  rw [World.var?_cell g5 hvar 0]
  have hs : 0 < cs.size := by rw [← Array.length_toList]; omega
  exact ⟨cs[0], Array.getElem?_eq_getElem hs⟩
theorem opt_of {w : World} (h : VarReads Tryz.prog w "internal/strconv.optimize" Rows.laid_internal_strconv_optimize) : w.cell? ⟨1, 0, none⟩ = some (.bool true) := by
  obtain ⟨g, t, cs, fuel, p, hg, hty, hvar, hd⟩ := h
  obtain rfl := Option.some.inj (g1.symm.trans hg)
  obtain rfl := Option.some.inj (y1.symm.trans hty)
  obtain ⟨b, hb, hx⟩ := DataW.trod_bool Tryz.underlying4 hd
  have e := congrArg Prod.fst hx
  have e' : (DataW.lit (.bool true) : DataW Unit) = .lit (.bool b) := e
  injection e' with e'
  injection e' with e'
  subst e'
  rw [World.var?_cell g1 hvar 0, ← Array.getElem?_toList, hb]
  rfl
theorem pow_all : ∀ i, i < 9 → ∀ d, (([.lit (.int .i64 1), .lit (.int .i64 3), .lit (.int .i64 6), .lit (.int .i64 9), .lit (.int .i64 13), .lit (.int .i64 16), .lit (.int .i64 19), .lit (.int .i64 23), .lit (.int .i64 26)] : List (DataW Unit))[i]? = some d) → d = .lit (match powAt i with | .int k z => .int k z | _ => .bool true) := by
  intro i hi d h
  rcases (show i = 0 ∨ i = 1 ∨ i = 2 ∨ i = 3 ∨ i = 4 ∨ i = 5 ∨ i = 6 ∨ i = 7 ∨ i = 8 by omega) with rfl | rfl | rfl | rfl | rfl | rfl | rfl | rfl | rfl <;> exact (Option.some.inj h).symm
theorem pt_of {w : World} (h : VarReads Tryz.prog w "internal/strconv.powtab" Rows.laid_internal_strconv_powtab) : SliceAt w 10 9 1 powAt := by
  refine slice_of_reads g10 y10 Tryz.underlying62 c3 rfl (by omega) (by omega) (fun i d hd fuel cs q ht j hj => ?_) h
  have hi : i < 9 := by
    rcases Nat.lt_or_ge i 9 with h' | h'
    · exact h'
    · rw [List.getElem?_eq_none h'] at hd
      cases hd
  obtain rfl : j = 0 := by omega
  obtain ⟨z, hz, hx, _⟩ := DataW.trod_int Tryz.underlying3 ht
  have e := (pow_all i hi d hd).symm.trans (congrArg Prod.fst hx)
  have e2 : (match powAt i with | .int k z => Lit.int k z | _ => Lit.bool true) = Lit.int .i64 z := by
    injection e
  rw [hz, Nat.mul_one, Nat.add_zero]
  refine congrArg some ?_
  revert e2
  unfold powAt
  intro e2
  injection e2 with _ e3
  rw [← e3]
theorem ten_nums : (List.range 23).map Real.P10 = [4607182418800017408, 4621819117588971520, 4636737291354636288, 4652007308841189376, 4666723172467343360, 4681608360884174848, 4696837146684686336, 4711630319722168320, 4726483295884279808, 4741671816366391296, 4756540486875873280, 4771362005757984768, 4786511204640096256, 4801453603149578240, 4816244402031689728, 4831355200913801216, 4846369599423283200, 4861130398305394688, 4876203697187506176, 4891288408196988160, 4906019910204099648, 4921056587992461136, 4936209963552724370] := by decide +kernel
theorem at_of (i : Nat) (d : DataW Unit) (h : ((List.range 23).map fun i => (.lit (.float .f64 (Real.P10 i)) : DataW Unit))[i]? = some d) : i < 23 ∧ d = .lit (.float .f64 (Real.P10 i)) := by
  rw [List.getElem?_map] at h
  obtain ⟨j, hj, e⟩ := Option.map_eq_some_iff.1 h
  rcases Nat.lt_or_ge i 23 with h' | h'
  · rw [List.getElem?_range h'] at hj
    cases hj
    exact ⟨h', e.symm⟩
  · rw [List.getElem?_eq_none (by simpa using h')] at hj
    cases hj
theorem f10_of {w : World} (h : VarReads Tryz.prog w "internal/strconv.float64pow10" Rows.laid_internal_strconv_float64pow10) : SliceAt w 11 23 1 (fun i => .float .f64 (Real.P10 i)) := by
  have hl : (Rows.laid_internal_strconv_float64pow10 : DataW Unit) = .slice ((List.range 23).map fun i => (.lit (.float .f64 (Real.P10 i)) : DataW Unit)) [] := by
    have e : ((List.range 23).map fun i => (.lit (.float .f64 (Real.P10 i)) : DataW Unit)) = ((List.range 23).map Real.P10).map (fun b => (.lit (.float .f64 b) : DataW Unit)) := by rw [List.map_map]; rfl
    rw [e, ten_nums]
    rfl
  rw [hl] at h
  refine slice_of_reads g11 y11 Tryz.underlying152 c22 (by simp) (by omega) (by omega) (fun i d hd fuel cs q ht j hj => ?_) h
  obtain ⟨hi, rfl⟩ := at_of i d hd
  obtain rfl : j = 0 := by omega
  obtain ⟨b, hb, hx⟩ := trod_float Tryz.underlying22 ht
  have e := congrArg Prod.fst hx
  simp only [DataW.lit.injEq, Lit.float.injEq, true_and] at e
  rw [hb, Nat.mul_one, Nat.add_zero, e]
  rfl
theorem cheat_rows : Go.Pinned.cheatRows = cheats.map fun x => (x.1, x.2.map fun c => UInt8.ofNat c) := by decide +kernel
theorem lc_of {w : World} (h : VarReads Tryz.prog w "internal/strconv.leftcheats" Rows.laid_internal_strconv_leftcheats) : SliceAt w 8 61 2 cheatAt := by
  have hl : Rows.laid_internal_strconv_leftcheats = .slice (cheats.map fun x => (.agg [.lit (.int .i64 (x.1 : Int)), .lit (.string (x.2.map fun c => UInt8.ofNat c))] : DataW Unit)) [] := by
    show Go.Pinned.leftcheats = _
    unfold Go.Pinned.leftcheats
    rw [cheat_rows, List.map_map]
    rfl
  rw [hl] at h
  refine slice_of_reads g8 y8 Tryz.underlying145 c144 (by decide +kernel) (by omega) (by omega) (fun i d hd fuel cs q ht j hj => ?_) h
  rw [List.getElem?_map] at hd
  obtain ⟨⟨dl, s⟩, hx, rfl⟩ := Option.map_eq_some_iff.1 hd
  obtain ⟨y0, y1, n, hy, hcl, h0, h1⟩ := trod_struct2 Tryz.underlying144 ht
  have e := congrArg Prod.fst hy
  simp only [DataW.agg.injEq, List.cons.injEq, and_true] at e
  obtain ⟨ea, eb⟩ := e
  have h0 : DataW.trod (fun _ => ()) Tryz.prog w 0 (fun _ => true) false n 3 ((cs.drop 0).take (Tryz.prog.cellsOf 3)) = some y0 := h0
  have h1 : DataW.trod (fun _ => ()) Tryz.prog w 0 (fun _ => true) false n 9 ((cs.drop 1).take (Tryz.prog.cellsOf 9)) = some y1 := h1
  rw [c3] at h0
  rw [c9] at h1
  obtain ⟨z0, q0, r0, _⟩ := DataW.trod_int Tryz.underlying3 h0
  obtain ⟨s1, q1, r1, _⟩ := DataW.trod_string Tryz.underlying9 h1
  have u0 := ea.trans (congrArg Prod.fst r0)
  have u1 := eb.trans (congrArg Prod.fst r1)
  simp only [DataW.lit.injEq, Lit.int.injEq, Lit.string.injEq, true_and] at u0 u1
  have hs1 : s1 = ⟨(s.map fun c => UInt8.ofNat c).toArray⟩ := Go.WideShapes.bytes_inj (by rw [← u1])
  subst u0
  have k0 := congrArg (·[0]?) q0
  have k1 := congrArg (·[0]?) q1
  simp only [List.getElem?_take, List.getElem?_drop] at k0 k1
  rcases (show j = 0 ∨ j = 1 by omega) with rfl | rfl
  · have hc : cheatAt (i * 2 + 0) = .int .i64 (dl : Int) := by
      unfold cheatAt
      rw [show (i * 2 + 0) / 2 = i by omega, hx, show (i * 2 + 0) % 2 = 0 by omega]
      rfl
    rw [hc]
    simpa using k0
  · have hc : cheatAt (i * 2 + 1) = .string s1 := by
      unfold cheatAt
      rw [show (i * 2 + 1) / 2 = i by omega, hx, show (i * 2 + 1) % 2 = 1 by omega, hs1]
      rfl
    rw [hc]
    simpa using k1
theorem tens_of {w : World} (h : VarReads Tryz.prog w "internal/strconv.pow10Tab" Rows.laid_internal_strconv_pow10Tab) : Tens w := by
  obtain ⟨g, t, cs, fuel, p, hg, hty, hvar, hd⟩ := h
  obtain rfl := Option.some.inj (g7.symm.trans hg)
  obtain rfl := Option.some.inj (y7.symm.trans hty)
  have cell : ∀ i, i < 696 → cs.toList[i * 2]? = some (.int .u64 ((Go.Pinned.pow10Rows.getD i (0, 0)).1 : Int)) ∧ cs.toList[i * 2 + 1]? = some (.int .u64 ((Go.Pinned.pow10Rows.getD i (0, 0)).2 : Int)) := by
    intro i hi
    obtain ⟨fuel', d, q, hdi, he⟩ := array_elem Tryz.underlying139 hd i hi
    rw [List.getElem?_map] at hdi
    obtain ⟨⟨x1, x2⟩, hx, rfl⟩ := Option.map_eq_some_iff.1 hdi
    have hx' : Go.Pinned.pow10Rows.getD i (0, 0) = (x1, x2) := by rw [List.getD_eq_getElem?_getD, hx]; rfl
    rw [c138] at he
    have hcs := ints_of_struct (k := .u64) (zs := [(x1 : Int), (x2 : Int)]) Tryz.underlying138 (fun j f hj => by
      match j, hj with
      | 0, hj => simp at hj; subst hj; exact ⟨Tryz.underlying40, rfl, by kernel_rfl⟩
      | 1, hj => simp at hj; subst hj; exact ⟨Tryz.underlying40, rfl, by kernel_rfl⟩
      | j + 2, hj => simp at hj) (by rw [c138]; rfl) he
    have e0 := congrArg (·[0]?) hcs
    have e1 := congrArg (·[1]?) hcs
    simp only [List.getElem?_take, List.getElem?_drop] at e0 e1
    rw [hx']
    exact ⟨by simpa using e0, by simpa using e1⟩
  refine ⟨?_, fun p h1 h2 => ?_⟩
  · have h0 := (cell 0 (by omega)).1
    have : w.cell? ⟨7, 0, none⟩ = some (.int .u64 ((Go.Pinned.pow10Rows.getD 0 (0, 0)).1 : Int)) := by
      rw [World.var?_cell g7 hvar 0, ← Array.getElem?_toList]
      exact h0
    exact World.block_lt_of_cell? w _ this
  · have h3 := cell (p + 348).toNat (by omega)
    unfold row10
    refine ⟨?_, ?_⟩
    · rw [World.var?_cell g7 hvar _, ← Array.getElem?_toList]
      exact h3.1
    · rw [World.var?_cell g7 hvar _, ← Array.getElem?_toList]
      exact h3.2
theorem blocks_of : ∀ {l : List (String × DataW Unit)} {ps : List MemPlace} {w : World}, DataW.LaidVars Tryz.prog w l ps → (∀ b off, MemPlace.cell b off ∈ ps → ∃ c t, w.heap[b]? = some (.cells c t (0, 0))) →
    ∀ n d g, (n, d) ∈ l → Tryz.prog.globalNamed n = some g → (∃ v, w.cell? ⟨g, 0, none⟩ = some v) → ∃ c t, w.heap[g]? = some (.cells c t (0, 0))
  | [], _, _, _, _, _, _, _, hm, _, _ => by cases hm
  | (n', d') :: r, ps, w, h, hr, n, d, g, hm, hg, hv => by
    obtain ⟨g', t, cs, fuel, p, q, h1, h2, h3, h4, h5, h6⟩ := h
    subst h6
    rcases List.mem_cons.1 hm with e | e
    · cases e
      obtain rfl := Option.some.inj (h1.symm.trans hg)
      obtain ⟨v, hv⟩ := hv
      rw [World.var?_cell h1 h3 0] at hv
      have hs : 0 < cs.size := by
        rcases Nat.eq_zero_or_pos cs.size with e | e
        · rw [Array.getElem?_eq_none (by omega)] at hv
          cases hv
        · exact e
      refine hr g' 0 (List.mem_append_left _ (List.mem_append_left _ ?_))
      simp [MemPlace.row]
      exact hs
    · exact blocks_of h5 (fun b off hb => hr b off (List.mem_append_right _ hb)) n d g e hg hv
theorem star : ("*errors.errorString" : String) = "*" ++ "errors.errorString" := by decide
theorem row132 (u : TypeId) (h : Tryz.prog.typeName? 3 u = some "*errors.errorString") : u = 132 :=
  typeName_ptr_named (nm := "errors.errorString") (by rw [← star]; kernel_rfl) (by kernel_rfl) (by decide) u (by rw [← star]; exact h)
theorem err_var {w : World} {n : String} {g : Nat} {l : List UInt8} {r : List (String × DataW Unit)} (hg : Tryz.prog.globalNamed n = some g) (hy : (Tryz.prog.globals[g]?).map (·.type) = some 35)
    (h : laidMet Tryz.prog ((n, .iface "*errors.errorString" (.ptr (.agg [.lit (.string l)]))) :: r) w) : ∃ ev, w.cell? ⟨g, 0, none⟩ = some ev ∧ (ev = .nilIface ∨ ∃ te pe, ev = .iface te pe) := by
  obtain ⟨a, s, hv, _⟩ := laid_sentinel h hg hy Tryz.underlying35 (tp := 132) row132 Tryz.underlying132 Tryz.underlying134 rfl rfl Tryz.underlying9 (by kernel_rfl) c9
  exact ⟨_, World.var?_cell hg hv 0, .inr ⟨_, _, rfl⟩⟩
set_option maxRecDepth 100000 in
theorem tabs_of {w : World} (hL : laidMet Tryz.prog Rows.realTextsRow.laid w) : Tabs w ∧ Two w := by
  have t8 := laidMet.tail (laidMet.tail (laidMet.tail (laidMet.tail (laidMet.tail (laidMet.tail (laidMet.tail (laidMet.tail hL)))))))
  have t9 := laidMet.tail t8
  have t10 := laidMet.tail t9
  have hi := info_of (laidMet.reads hL (by unfold Rows.realTextsRow; simp))
  have ho := opt_of (laidMet.reads hL (by unfold Rows.realTextsRow; simp))
  have hp := pt_of (laidMet.reads hL (by unfold Rows.realTextsRow; simp))
  have hf := f10_of (laidMet.reads hL (by unfold Rows.realTextsRow; simp))
  have hc := lc_of (laidMet.reads hL (by unfold Rows.realTextsRow; simp))
  have ht := tens_of (laidMet.reads hL (by unfold Rows.realTextsRow; simp))
  have h3 := err_var g3 y3 t9
  have h2 := err_var g2 y2 t10
  have hd := tabIs_of_head (P := Tryz.prog) (k := .u64) (zs := pow10Tab) g4 y4 Tryz.underlying105 Tryz.underlying40 (by kernel_rfl) (by kernel_rfl) t8
  have h5 := info5_of (laidMet.reads hL (by unfold Rows.realTextsRow; simp))
  refine ⟨⟨ht, hd, hf, hp, hc, hf.1, ho, h2, h3, hi.1, hi.2.1, hi.2.2⟩, ?_⟩
  obtain ⟨ps, hv, _, hr⟩ := hL
  obtain ⟨c5, t5, b5⟩ := blocks_of hv (fun b off hb => (hr b off hb).1) "internal/strconv.float32info" Rows.laid_internal_strconv_float32info 5 (by unfold Rows.realTextsRow; simp) g5 h5
  obtain ⟨c6, t6, b6⟩ := blocks_of hv (fun b off hb => (hr b off hb).1) "internal/strconv.float64info" Rows.laid_internal_strconv_float64info 6 (by unfold Rows.realTextsRow; simp) g6 ⟨_, hi.1⟩
  exact ⟨c5, t5, c6, t6, b5, b6⟩
end Go.Proofs.YtjniglmijikojaaGreatDoor.Text
