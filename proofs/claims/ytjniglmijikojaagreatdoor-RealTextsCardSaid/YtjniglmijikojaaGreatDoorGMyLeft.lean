/- leftShift: its contract. The conditions: the decimal lies at g, its digits are digits, the first no nought; the tables lie below g. -/
import Derived.Test.YtjniglmijikojaaGreatDoorGMyPack
namespace Go.Proofs.YtjniglmijikojaaGreatDoor.Text
set_option linter.unusedSimpArgs false
set_option linter.unusedVariables false
open Go.RowKit Go.Lib Go.Proofs.YtjniglmijikojaaGreatDoor.Own Go.Proofs.YtjniglmijikojaaGreatDoor.PRealTexts Go.Proofs.YtjniglmijikojaaGreatDoorW.PrintWords

/-- The tables are laid, below block g. -/
def TabG (g : Nat) (w : World) : Prop := ∃ w0, Tabs w0 ∧ w0.heap.size ≤ g ∧ Below w0.heap.size w0 w
theorem TabG.tabs {g : Nat} {w : World} (h : TabG g w) : Tabs w := by
  obtain ⟨w0, h1, h2, h3⟩ := h
  exact h1.below h3
theorem TabG.step {g : Nat} {w w' : World} (h : TabG g w) (hb : Below g w w') : TabG g w' := by
  obtain ⟨w0, h1, h2, h3⟩ := h
  exact ⟨w0, h1, h2, h3.trans (hb.mono h2)⟩
/-- The row of k in the table of cheats. -/
theorem TabG.cheat {g : Nat} {w : World} (h : TabG g w) (k dl : Nat) (s : List Nat) (hk : k ≤ 60) (hc : Cheat k dl s) :
    ∃ B o c, 8 < w.heap.size ∧ B < w.heap.size ∧ B ≠ g ∧ (8 : Nat) ≠ g ∧ w.cell? ⟨8, 0, none⟩ = some (.slice (some ⟨B, o, none⟩) 61 c) ∧ w.cell? ⟨B, o + k * 2, none⟩ = some (.int .i64 (dl : Int)) ∧ w.cell? ⟨B, o + k * 2 + 1, none⟩ = some (.string ⟨(s.map fun c => UInt8.ofNat c).toArray⟩) := by
  obtain ⟨w0, h1, h2, h3⟩ := h
  obtain ⟨l1, B, o, c, l2, l3, l4⟩ := h1.lc
  have := h3.size
  refine ⟨B, o, c, by omega, by omega, by omega, by omega, ?_, ?_, ?_⟩
  · rw [h3.cell l1]; exact l2
  · rw [h3.cell l3, l4 (k * 2) (by omega), hc.a0]
  · rw [h3.cell l3, show o + k * 2 + 1 = o + (k * 2 + 1) by omega, l4 (k * 2 + 1) (by omega), hc.a1]

/-- The digits of f, as numbers. -/
def dgt (f : Nat → Int) (i : Nat) : Nat := (f i - 48).toNat
theorem dgt_of {f : Nat → Int} {nd i : Nat} (h : Digs f nd) (hi : i < nd) : f i = (dgt f i : Int) + 48 ∧ dgt f i ≤ 9 := by
  have := h i hi
  unfold dgt
  omega
/-- The row of digits as a list. -/
def rowL (f : Nat → Int) (nd : Nat) : List Int := (List.range nd).map f
theorem rowL_len (f : Nat → Int) (nd : Nat) : (rowL f nd).length = nd := by simp [rowL]
theorem rowL_rd (f : Nat → Int) (nd i : Nat) (h : i < nd) : rd (rowL f nd) (i : Int) = f i := by
  unfold rd rowL
  simp [List.getD_eq_getElem?_getD, h]

theorem addr_add2 (b k j : Nat) : (⟨b, k, none⟩ : Addr).add j = ⟨b, k + j, none⟩ := by unfold Addr.add; split <;> simp_all
/-- What prefixIsLessThan says of the row and the table's text. -/
theorem less_any (w : World) (g : Nat) (f : Nat → Int) (nd k dl : Nat) (s : List Nat) (hn : nd ≤ 800) (hcell : ∀ i, i < nd → w.cell? ⟨g, i, none⟩ = some (.int .u8 (f i))) (hf : Digs f nd) (hc : Cheat k dl s) :
    Calls Tryz.prog 97 #[.slice (some ⟨g, 0, none⟩) nd 800, .string ⟨(s.map fun c => UInt8.ofNat c).toArray⟩] w fun e w' => ∃ r : Bool, e = .returned (.bool r) ∧
      (r = true → V (dgt f) nd * 10 ^ s.length < 5 ^ k * 10 ^ nd) ∧ (r = false → 5 ^ k * 10 ^ nd ≤ V (dgt f) nd * 10 ^ s.length) ∧ Drawn0 w w' := by
  have hsz := cheat_size s
  obtain ⟨r, h1, h2, h3⟩ := less_at (rowL f nd) ⟨(s.map fun c => UInt8.ofNat c).toArray⟩ (dgt f) (fun i => s.getD i 48 - 48)
    (fun i hi => by rw [rowL_len] at hi; rw [rowL_rd f nd i hi]; exact (dgt_of hf hi).1) (fun i hi => by rw [hsz] at hi; exact cheat_bt hc i hi)
    (fun i hi => by rw [rowL_len] at hi; exact (dgt_of hf hi).2) (fun i hi => by rw [hsz] at hi; have := hc.dig i hi; show s.getD i 48 - 48 ≤ 9; omega)
    (by rw [hsz, hc.val]; exact hc.odd) (by rw [hsz]; have := hc.len; omega) (s.length + 1) 0 (by rw [hsz]; omega) (Nat.zero_le _) (Nat.zero_le _) rfl
  rw [rowL_len, hsz, hc.val] at h2 h3
  have hC := strconv_prefixIsLessThan.calls (s.length + 1) (some ⟨g, 0, none⟩) 800 (rowL f nd) ⟨(s.map fun c => UInt8.ofNat c).toArray⟩ r w
  rw [rowL_len] at hC
  refine (hC ?_ hn h1).mono fun e w' ⟨e1, e2⟩ => ⟨r, e1, h2, h3, e2⟩
  refine ⟨rowL_len f nd, by omega, fun _ => ⟨_, rfl, fun j p hp => ⟨[.int .u8 p], rfl, rfl, fun i u hu => ?_⟩⟩⟩
  have hj : j < nd := by
    have := (List.getElem?_eq_some_iff.1 hp).1
    rwa [rowL_len] at this
  have hpf : p = f j := by
    have := (List.getElem?_eq_some_iff.1 hp).2
    rw [← this]
    simp [rowL]
  have hi : i = 0 ∧ u = .int .u8 p := by
    rcases Nat.eq_zero_or_pos i with e | e
    · subst e
      exact ⟨rfl, by simpa using hu.symm⟩
    · rw [List.getElem?_eq_none (by simp; omega)] at hu
      cases hu
  rw [hi.1, hi.2, hpf, addr_add2]
  have e9 : 0 + (j * (Kd.int IntKind.u8).sz + 0) = j := by
    show 0 + (j * 1 + 0) = j
    omega
  rw [e9]
  exact hcell j hj

theorem heap_drawn {w w' : World} (h : Drawn0 w.drew w') : w'.heap = w.heap := by
  obtain ⟨n, rfl⟩ := h.out
  have : ∀ n (v : World), (v.drewN n).heap = v.heap := by
    intro n
    induction n with
    | zero => intro v; rfl
    | succ n ih => intro v; rw [← World.drew_drewN]; exact ih v
  exact this n w.drew
theorem below_drawn {w w' : World} {g : Nat} (h : Drawn0 w.drew w') : Below g w w' := by
  have hb := h.below
  refine ⟨hb.os, hb.tape, hb.output, by rw [heap_drawn h]; exact Nat.le_refl _, fun k _ => by rw [heap_drawn h]⟩
theorem dec_drawn {w w' : World} {g : Nat} {f : Nat → Int} {nd : Nat} {dp : Int} (hd : Dec w g f nd dp) (h : Drawn0 w.drew w') : Dec w' g f nd dp := by
  have hh := heap_drawn h
  have hc : ∀ a, w'.cell? a = w.cell? a := fun a => by unfold World.cell?; rw [hh]
  have hf : ∀ a, w'.frozen? a = w.frozen? a := fun a => by unfold World.frozen?; rw [hh]
  exact ⟨fun i hi => by rw [hc]; exact hd.cell i hi, by rw [hc]; exact hd.nd, by rw [hc]; exact hd.dp, by rw [hc]; exact hd.neg, by rw [hc]; exact hd.tr, fun i => by rw [hf]; exact hd.fz i, by rw [hh]; exact hd.lt⟩
/-- What the first loop has, R digits being left. -/
def LInv (f f1 : Nat → Int) (nd δ R : Nat) : Prop := (∀ i, i < R → f1 i = f i) ∧ (∀ i, R + δ ≤ i → i < nd + δ → i < 800 → 48 ≤ f1 i ∧ f1 i ≤ 57) ∧ (R = 0 → δ = 0 → f 0 < f1 0)
theorem linv_store {f f1 : Nat → Int} {nd δ R x : Nat} (h : LInv f f1 nd δ (R + 1)) (hx : x ≤ 9) (hz : R = 0 → δ = 0 → f 0 < (x : Int) + 48) : LInv f (updI f1 (R + δ) ((x : Int) + 48)) nd δ R := by
  obtain ⟨h1, h2, _⟩ := h
  refine ⟨fun i hi => ?_, fun i a b c => ?_, fun a b => ?_⟩
  · unfold updI
    rw [if_neg (by omega)]
    exact h1 i (by omega)
  · unfold updI
    by_cases e : i = R + δ
    · rw [if_pos e]; omega
    · rw [if_neg e]; exact h2 i (by omega) b c
  · unfold updI
    rw [if_pos (by omega)]
    exact hz a b
theorem linv_skip {f f1 : Nat → Int} {nd δ R : Nat} (h : LInv f f1 nd δ (R + 1)) (hx : 800 ≤ R + δ) : LInv f f1 nd δ R := by
  obtain ⟨h1, h2, _⟩ := h
  exact ⟨fun i hi => h1 i (by omega), fun i a b c => by omega, fun a b => by omega⟩
/-- What the second loop has, W digits being left to write. -/
def WInv (f f1 : Nat → Int) (nd δ W N : Nat) : Prop := W ≤ δ ∧ N < 10 ^ W ∧ (1 ≤ W → 10 ^ (W - 1) ≤ N) ∧ (∀ i, W ≤ i → i < nd + δ → i < 800 → 48 ≤ f1 i ∧ f1 i ≤ 57) ∧ (W = 0 → f1 0 ≠ 48 ∧ (δ = 0 → f 0 < f1 0))
theorem winv_start {f f1 : Nat → Int} {nd δ N K : Nat} (h : LInv f f1 nd δ 0) (hf : 48 < f 0) (hU : N * K < 10 ^ (nd + δ)) (hL : 10 ^ (nd + δ - 1) ≤ N * K) (hnd : 1 ≤ nd) : WInv f f1 nd δ δ (N * K / 10 ^ nd) := by
  obtain ⟨_, h2, h3⟩ := h
  have hp : 0 < 10 ^ nd := Nat.pow_pos (by omega)
  refine ⟨Nat.le_refl _, ?_, fun h1 => ?_, fun i a b c => h2 i (by omega) b c, fun e => ?_⟩
  · rw [Nat.div_lt_iff_lt_mul hp, ← Nat.pow_add, Nat.add_comm]
    exact hU
  · rw [Nat.le_div_iff_mul_le hp, ← Nat.pow_add, show δ - 1 + nd = nd + δ - 1 by omega]
    exact hL
  · have := h3 rfl e
    exact ⟨by omega, fun _ => this⟩
theorem winv_step {f f1 : Nat → Int} {nd δ W N : Nat} (h : WInv f f1 nd δ (W + 1) N) : WInv f (updI f1 W (((N % 10 : Nat) : Int) + 48)) nd δ W (N / 10) := by
  obtain ⟨h0, h1, h2, h3, _⟩ := h
  have h2' := h2 (by omega)
  rw [Nat.add_sub_cancel] at h2'
  rw [Nat.pow_succ] at h1
  refine ⟨by omega, by omega, fun hw => ?_, fun i a b c => ?_, fun e => ?_⟩
  · obtain ⟨W1, rfl⟩ : ∃ W1, W = W1 + 1 := ⟨W - 1, by omega⟩
    rw [Nat.pow_succ] at h2'
    rw [Nat.add_sub_cancel]
    omega
  · unfold updI
    by_cases e : i = W
    · rw [if_pos e]; omega
    · rw [if_neg e]; exact h3 i (by omega) b c
  · subst e
    simp at h1 h2'
    unfold updI
    rw [if_pos rfl]
    exact ⟨by omega, fun e => by omega⟩
theorem winv_end {f f1 : Nat → Int} {nd δ W : Nat} (h : WInv f f1 nd δ W 0) : W = 0 := by
  obtain ⟨_, _, h2, _⟩ := h
  rcases Nat.eq_zero_or_pos W with e | e
  · exact e
  · have := h2 e
    have hp : 0 < 10 ^ (W - 1) := Nat.pow_pos (by omega)
    omega
/-- What leftShift leaves. -/
def LeftRes (g : Nat) (f : Nat → Int) (nd : Nat) (dp : Int) (dl : Nat) (w : World) (e : Ending) (w' : World) : Prop :=
  e = .returned (.tuple #[]) ∧ Below g w w' ∧ ∃ (f' : Nat → Int) (nd' : Nat) (δ : Nat), Fine w' g f' nd' (dp + (δ : Int)) ∧ dl - 1 ≤ δ ∧ δ ≤ dl ∧ (δ = 0 → f 0 < f' 0)

set_option maxRecDepth 30000 in
set_option maxHeartbeats 4000000 in
theorem left_any (w : World) (g : Nat) (f : Nat → Int) (nd : Nat) (dp : Int) (k dl : Nat) (s : List Nat) (hk1 : 1 ≤ k) (hk2 : k ≤ 60) (hdp1 : -1000000 ≤ dp) (hdp2 : dp ≤ 1000000) (hd : Fine w g f nd dp) (ht : TabG g w) (hc : Cheat k dl s) :
    Calls Tryz.prog 74 #[.pointer (some ⟨g, 0, none⟩), .int .u64 (k : Int)] w (LeftRes g f nd dp dl w) := by
  have HD := Aside0.mk hd
  have HC := Aside0.mk hc
  have hlt := hd.dec.lt
  have hfz := hd.dec.fz
  have c0 := hd.dec.nd
  have hnd := hd.le
  have hnd1 := hd.pos
  obtain ⟨B, o, c, t1, t2, t3, t4, t5, t6, t7⟩ := ht.cheat k dl s hk2 hc
  have hdl : dl ≤ 61 := by have := hc.sum; have := hc.pos; omega
  have HLS := Aside0.mk (fun W (hB : ∀ i, i < nd → W.cell? ⟨g, i, none⟩ = some (.int .u8 (f i))) => less_any W g f nd k dl s hnd hB hd.digs hc)
  have g1 := eq_true (show nd ≤ 800 by omega)
  have g2 := eq_true (show (nd : Int) ≤ 800 by omega)
  have g3 := eq_true (show k < 61 by omega)
  have g4 := eq_true (show (k : Int) < 61 by omega)
  clear hd ht hc
  go_enter Tryz.func74, Tryz.ntmps74
  go_upto_region 1 with fail
  go_cut [30] from 17 to 30 (fun v wx => ∃ r : Bool, v = .bool r ∧ (r = true → V (dgt f) nd * 10 ^ s.length < 5 ^ k * 10 ^ nd) ∧ (r = false → 5 ^ k * 10 ^ nd ≤ V (dgt f) nd * 10 ^ s.length) ∧ Dec wx g f nd dp ∧ Below g w wx)
  case first =>
    go_region_with ((go_at_call 97; refine (HLS.out _ (fun i hi => HD.out.dec.drew.cell i (by have := HD.out.le; omega))).mono ?_; rintro e w3 ⟨r, rfl, hr1, hr2, hdw⟩; have HR1 := Aside0.mk hr1; have HR2 := Aside0.mk hr2; have HDW := Aside0.mk hdw; clear hr1 hr2 hdw))
    all_goals (go_wp2_with fail)
    all_goals (go_meet; exact ⟨r, rfl, HR1.out, HR2.out, dec_drawn HD.out.dec HDW.out, below_drawn HDW.out⟩)
  case rest =>
    obtain ⟨r, rfl, hr1, hr2, hdec, hbel⟩ := hcut
    have HN1 : 10 ^ (nd - 1) ≤ V (dgt f) nd := V_low (by
      have h1 := HD.out.digs 0 HD.out.pos
      have h2 := HD.out.top
      unfold dgt
      omega) nd hnd1
    have HN2 : V (dgt f) nd < 10 ^ nd := V_lt nd (fun i hi => (dgt_of HD.out.digs hi).2)
    obtain ⟨δ, hδ⟩ : ∃ δ, δ = if r then dl - 1 else dl := ⟨_, rfl⟩
    obtain ⟨hdl1, HU, HLO⟩ := left_bounds HN1 HN2 hnd1 HC.out.sum HC.out.pos HC.out.lo HC.out.hi r hr1 hr2 δ hδ
    have hδ1 : δ ≤ 61 := by rw [hδ]; split <;> omega
    have hδ2 : dl - 1 ≤ δ ∧ δ ≤ dl := by rw [hδ]; split <;> omega
    have HDL := Aside0.mk hδ
    have HDEC := Aside0.mk hdec
    have HBEL := Aside0.mk hbel
    have HU := Aside0.mk HU
    have HLO := Aside0.mk HLO
    have HN1 := Aside0.mk HN1
    have HN2 := Aside0.mk HN2
    clear hr1 hr2 hδ t1 t2 t3 t4 t5 t6 t7 g3 g4 hlt hfz c0
    have c0 := hdec.nd
    have hlt := hdec.lt
    have hfz := hdec.fz
    clear hdec hbel
    go_upto_if 30 with fail
    go_cut [4] from 31 to 32 (fun v wx => v = .int .i64 (δ : Int) ∧ wc = wx)
    case first =>
      cases r
      · have E := Aside0.mk (show δ = dl from HDL.out)
        go_wp2_with fail
        go_meet
        case rel => exact ⟨by rw [E.out], rfl⟩
      · have E := Aside0.mk (show δ = dl - 1 from HDL.out)
        go_wp2_with fail
        go_meet
        case rel => exact ⟨by rw [E.out]; exact congrArg (Value.int .i64) (by omega), rfl⟩
    case rest =>
      obtain ⟨rfl, rfl⟩ := hcut
      go_upto_block 0 with fail
      obtain ⟨K, hK⟩ : ∃ K, 2 ^ k = K := ⟨_, rfl⟩
      have hK1 : 2 ≤ K := by
        have : 2 ^ 1 ≤ 2 ^ k := Nat.pow_le_pow_right (by omega) hk1
        omega
      have hK2 : K ≤ 1152921504606846976 := by rw [← hK]; exact Nat.pow_le_pow_right (by omega) hk2
      have hKi : (2 : Int) ^ k = (K : Int) := by rw [← hK]; simp
      have HK := Aside0.mk hK
      clear hK
      go_cut [5, 6, 7] from 45 to 84 (fun _ v n wx => ∃ (f1 : Nat → Int), v = .int .i64 (δ : Int) ∧ n = .int .u64 ((V (dgt f) nd * K / 10 ^ nd : Nat) : Int) ∧ LInv f f1 nd δ 0 ∧ Dec wx g f1 nd dp ∧ Below g w wx)
      case first =>
        go_wp2_with fail
        go_loopw [5, 6, 7] (fun r v n wr => ∃ (R : Nat) (ri wi : Int) (f1 : Nat → Int), r = .int .i64 ri ∧ ri = (R : Int) - 1 ∧ v = .int .i64 wi ∧ wi = ((R + δ : Nat) : Int) ∧ R ≤ nd ∧ n = .int .u64 (((V (dgt f) nd % 10 ^ (nd - R)) * K / 10 ^ (nd - R) : Nat) : Int) ∧ LInv f f1 nd δ R ∧ Dec wr g f1 nd dp ∧ Below g w wr) (fun r _ _ _ => (RowKit.intOf r + 1).toNat)
        case atStart => exact ⟨nd, _, _, f, rfl, rfl, rfl, by omega, Nat.le_refl _, by simp [Nat.sub_self, Nat.mod_one], ⟨fun _ _ => rfl, fun i a b c => by omega, fun a b => by omega⟩, HDEC.out, HBEL.out⟩
        case round =>
          obtain ⟨R, ri, wi, f1, rfl, hri, rfl, hwi, hR, rfl, hinv, hdec, hbel⟩ := hrel
          have HINV := Aside0.mk hinv
          have HDE := Aside0.mk hdec
          have HBL := Aside0.mk hbel
          have hlt := hdec.lt
          have hfz := hdec.fz
          obtain ⟨tr, ctr⟩ := hdec.tr
          rcases Nat.eq_zero_or_pos R with h | h
          · subst h
            obtain rfl : ri = -1 := by omega
            obtain rfl : wi = (δ : Int) := by omega
            have E := Aside0.mk (show V (dgt f) nd % 10 ^ (nd - 0) * K / 10 ^ (nd - 0) = V (dgt f) nd * K / 10 ^ nd by rw [Nat.sub_zero, Nat.mod_eq_of_lt HN2.out])
            clear hri hwi hR hinv hdec hbel
            go_wp2_with fail
            go_meet
            case rel => exact ⟨f1, rfl, by rw [E.out], HINV.out, HDE.out, HBL.out⟩
          · obtain ⟨R1, rfl⟩ : ∃ R1, R = R1 + 1 := ⟨R - 1, by omega⟩
            obtain rfl : ri = (R1 : Int) := by omega
            obtain ⟨W1, hW1⟩ : ∃ W1, R1 + δ = W1 := ⟨_, rfl⟩
            obtain rfl : wi = (W1 : Int) + 1 := by omega
            have c1 := hdec.cell R1 (by omega)
            rw [hinv.1 R1 (by omega), (dgt_of HD.out.digs (show R1 < nd by omega)).1] at c1
            have hd9 := (dgt_of HD.out.digs (show R1 < nd by omega)).2
            have hcar := carry (V (dgt f) nd) (nd - (R1 + 1)) K
            have hlt2 := carry_lt (V (dgt f) nd) (nd - (R1 + 1)) K (by omega)
            have hdig := V_digit (d := dgt f) (n := nd) (r := R1) (fun i hi => (dgt_of HD.out.digs hi).2) (by omega)
            rw [show nd - 1 - R1 = nd - (R1 + 1) by omega] at hdig
            rw [hdig, show nd - (R1 + 1) + 1 = nd - R1 by omega] at hcar
            have hQ0 : R1 = 0 → δ = 0 → V (dgt f) nd % 10 ^ (nd - R1) * K / 10 ^ (nd - R1) = 0 := fun e1 e2 => by
              subst e1 e2
              rw [Nat.sub_zero, Nat.mod_eq_of_lt HN2.out]
              refine Nat.div_eq_of_lt ?_
              have := HU.out
              rw [HK.out] at this
              exact this
            have hf0 : R1 = 0 → 1 ≤ dgt f R1 ∧ f 0 = (dgt f R1 : Int) + 48 := fun e => by
              subst e
              have h1 := (dgt_of HD.out.digs HD.out.pos).1
              have h2 := HD.out.top
              exact ⟨by omega, h1⟩
            generalize V (dgt f) nd % 10 ^ (nd - (R1 + 1)) * K / 10 ^ (nd - (R1 + 1)) = n1 at *
            obtain ⟨Q, hQe⟩ : ∃ Q, V (dgt f) nd % 10 ^ (nd - R1) * K / 10 ^ (nd - R1) = Q := ⟨_, rfl⟩
            rw [hQe] at hcar hQ0
            have HQE := Aside0.mk hQe
            clear hQe
            generalize dgt f R1 = d at *
            obtain ⟨P, hP⟩ : ∃ P, d * K = P := ⟨_, rfl⟩
            have hPb : P ≤ 9 * 1152921504606846976 := by rw [← hP]; exact Nat.mul_le_mul hd9 hK2
            have hPd : 2 * d ≤ P := by rw [← hP, Nat.mul_comm]; exact Nat.mul_le_mul_left _ hK1
            have hsh : IntKind.u64.wrap ((d : Int) * (K : Int)) = (P : Int) := by
              have e : (d : Int) * (K : Int) = ((d * K : Nat) : Int) := rfl
              rw [e, hP]
              exact wrap_u _ (by omega) (by omega)
            rw [hP] at hcar
            obtain ⟨S, hS⟩ : ∃ S, n1 + P = S := ⟨_, rfl⟩
            have hSi : (n1 : Int) + (P : Int) = (S : Int) := by omega
            have hQ : Q = S / 10 := by rw [hcar, ← hS, Nat.add_comm]
            have hQi : (S : Int) / 10 = (Q : Int) := by omega
            obtain ⟨x, hx⟩ : ∃ x, S % 10 = x := ⟨_, rfl⟩
            have hxi : (S : Int) - 10 * (Q : Int) = (x : Int) := by omega
            have hx9 : x ≤ 9 := by omega
            have hSb : S < 11529215046068469760 := by omega
            have hz : R1 = 0 → δ = 0 → f 0 < (x : Int) + 48 := fun e1 e2 => by
              have h1 := hQ0 e1 e2
              have h2 := hf0 e1
              omega
            have HZ := Aside0.mk hz
            have HX := Aside0.mk hx9
            have HW1 := Aside0.mk hW1
            have HRN := Aside0.mk (show R1 ≤ nd by omega)
            have hR1b : (R1 : Int) ≤ 799 := by omega
            have hW1b : (W1 : Int) ≤ 900 := by omega
            have g5 := eq_true (show R1 < 800 by omega)
            have MS := Aside0.mk (show ((R1 : Int) - 1 + 1).toNat < ((R1 : Int) + 1).toNat by omega)
            have EQ := Aside0.mk hQ
            clear hri hwi hR hinv hdec hbel hcar hdig hQ0 hf0 hP hS hx hz hQ h hlt2
            rcases Nat.lt_or_ge W1 800 with h8 | h8
            · have cW := HDE.out.cell W1 h8
              have g6 := eq_true h8
              have g6' := eq_true (show (W1 : Int) < 800 by omega)
              have H8 := Aside0.mk h8
              clear h8
              go_wp2
              go_roundw
              case measure => exact MS.out
              case rel => exact ⟨R1, _, _, updI f1 (R1 + δ) ((x : Int) + 48), rfl, rfl, rfl, by have := HW1.out; omega, HRN.out, by rw [HQE.out], linv_store HINV.out HX.out HZ.out, by rw [HW1.out]; exact HDE.out.setD W1 H8.out _, HBL.out.setCell (Nat.le_refl _) _⟩
            · have g6 := eq_false (show ¬ W1 < 800 by omega)
              have g6' := eq_false (show ¬ (W1 : Int) < 800 by omega)
              have H8 := Aside0.mk h8
              clear h8
              by_cases hx0 : x = 0
              · subst hx0
                go_wp2
                go_roundw
                case measure => exact MS.out
                case rel => exact ⟨R1, _, _, f1, rfl, rfl, rfl, by have := HW1.out; omega, HRN.out, by rw [HQE.out], linv_skip HINV.out (by rw [HW1.out]; exact H8.out), HDE.out, HBL.out⟩
              · have g7 : ((x : Int) != 0) = true := bne_iff_ne.2 (by omega)
                clear hx0
                go_wp2
                go_roundw
                case measure => exact MS.out
                case rel => exact ⟨R1, _, _, f1, rfl, rfl, rfl, by have := HW1.out; omega, HRN.out, by rw [HQE.out], linv_skip HINV.out (by rw [HW1.out]; exact H8.out), HDE.out.setTr true, HBL.out.setCell (Nat.le_refl _) _⟩
      case rest =>
        obtain ⟨f1, rfl, rfl, hinv, hdec, hbel⟩ := hcut
        have hws := winv_start (nd := nd) (K := K) hinv (by have h1 := HD.out.digs 0 HD.out.pos; have h2 := HD.out.top; omega) (by rw [← HK.out]; exact HU.out) (by rw [← HK.out]; exact HLO.out) hnd1
        have hNK : V (dgt f) nd * K / 10 ^ nd ≤ K := Nat.le_of_lt (by
          have := carry_lt (V (dgt f) nd) nd K (by omega)
          rwa [Nat.mod_eq_of_lt HN2.out] at this)
        generalize V (dgt f) nd * K / 10 ^ nd = N1 at *
        have HWS := Aside0.mk hws
        have HDC := Aside0.mk hdec
        have HBE := Aside0.mk hbel
        clear hws hdec hbel hinv c0 hlt hfz
        go_wp2_with fail
        go_loopw [6, 7] (fun v n wr => ∃ (W N : Nat) (f1 : Nat → Int), v = .int .i64 (W : Int) ∧ n = .int .u64 (N : Int) ∧ N ≤ K ∧ WInv f f1 nd δ W N ∧ Dec wr g f1 nd dp ∧ Below g w wr) (fun _ n _ => (RowKit.intOf n).toNat)
        case atStart => exact ⟨δ, N1, f1, rfl, rfl, hNK, HWS.out, HDC.out, HBE.out⟩
        case round =>
          clear HWS HDC HBE hNK
          obtain ⟨W, N, f1, rfl, rfl, hNK, hinv, hdec, hbel⟩ := hrel
          have HINV := Aside0.mk hinv
          have HDE := Aside0.mk hdec
          have HBL := Aside0.mk hbel
          have hlt := hdec.lt
          have hfz := hdec.fz
          have c0 := hdec.nd
          have c2 := hdec.dp
          rcases Nat.eq_zero_or_pos N with h | h
          · subst h
            obtain rfl : W = 0 := winv_end hinv
            clear hdec hbel hinv hNK
            have hdg : Digs f1 (min (nd + δ) 800) := fun i hi => HINV.out.2.2.2.1 i (Nat.zero_le _) (by omega) (by omega)
            have htop := (HINV.out.2.2.2.2 rfl).1
            have HTR := Aside0.mk (fun w2 (hd : Dec w2 g f1 (min (nd + δ) 800) (dp + (δ : Int))) => trim_any w2 g f1 (min (nd + δ) 800) (dp + (δ : Int)) (by omega) hd hdg)
            have HDG := Aside0.mk hdg
            have HTOP := Aside0.mk htop
            clear hdg htop
            have HDE2 : Aside0 (Dec (wr.setCell ⟨g, 800, none⟩ (.int .i64 ((nd : Int) + (δ : Int)))) g f1 (nd + δ) dp) := ⟨HDE.out.setNd (nd + δ)⟩
            have HBL2 : Aside0 (Below g w (wr.setCell ⟨g, 800, none⟩ (.int .i64 ((nd : Int) + (δ : Int))))) := ⟨HBL.out.setCell (p := ⟨g, 800, none⟩) (Nat.le_refl g) _⟩
            have hnδ : (nd : Int) + (δ : Int) ≤ 900 := by omega
            have hdδ : -1000000 ≤ dp + (δ : Int) ∧ dp + (δ : Int) ≤ 1000100 := by omega
            rcases Nat.lt_or_ge (nd + δ) 800 with h8 | h8
            · have g6 := eq_false (show ¬ (800 : Int) ≤ (nd : Int) + (δ : Int) by omega)
              have g7 := eq_false (show ¬ 800 ≤ nd + δ by omega)
              have HM := Aside0.mk (show min (nd + δ) 800 = nd + δ by omega)
              clear h8
              go_upto_region 28 with fail
              generalize wr.setCell ⟨g, 800, none⟩ (.int .i64 ((nd : Int) + (δ : Int))) = w2 at *
              clear c0 c2 hlt hfz
              have c0 : w2.cell? ⟨g, 800, none⟩ = some (.int .i64 ((nd : Int) + (δ : Int))) := HDE2.out.nd
              have c2 := HDE2.out.dp
              have hlt := HDE2.out.lt
              have hfz := HDE2.out.fz
              have HDE3 : Aside0 (Dec (w2.setCell ⟨g, 801, none⟩ (.int .i64 (dp + (δ : Int)))) g f1 (min (nd + δ) 800) (dp + (δ : Int))) := ⟨by rw [HM.out]; exact HDE2.out.setDp _⟩
              go_wp2_with (go_at_call 73; refine (HTR.out _ HDE3.out).mono ?_; rintro e w5 ⟨rfl, hb5, m, hm1, hm2, hd5⟩)
              go_end0
              have hm0 := hm2 (by omega) HTOP.out
              rw [if_neg (by omega)] at hd5
              exact ⟨rfl, (HBL2.out.setCell (p := ⟨g, 801, none⟩) (Nat.le_refl g) _).trans hb5, f1, m, δ, ⟨hd5, hm0, by omega, fun i hi => HDG.out i (by omega), HTOP.out⟩, hδ2.1, hδ2.2, (HINV.out.2.2.2.2 rfl).2⟩
            · have g6 := eq_true (show (800 : Int) ≤ (nd : Int) + (δ : Int) by omega)
              have g7 := eq_true h8
              have HM := Aside0.mk (show min (nd + δ) 800 = 800 by omega)
              clear h8
              go_upto_region 28 with fail
              generalize wr.setCell ⟨g, 800, none⟩ (.int .i64 ((nd : Int) + (δ : Int))) = w2 at *
              clear c0 c2 hlt hfz
              have c0 : w2.cell? ⟨g, 800, none⟩ = some (.int .i64 ((nd : Int) + (δ : Int))) := HDE2.out.nd
              have hlt := HDE2.out.lt
              have hfz := HDE2.out.fz
              have HDE3 : Aside0 (Dec (w2.setCell ⟨g, 800, none⟩ (.int .i64 800)) g f1 800 dp) := ⟨HDE2.out.setNd 800⟩
              have HBL3 : Aside0 (Below g w (w2.setCell ⟨g, 800, none⟩ (.int .i64 800))) := ⟨HBL2.out.setCell (p := ⟨g, 800, none⟩) (Nat.le_refl g) _⟩
              go_upto_region 30 with fail
              generalize w2.setCell ⟨g, 800, none⟩ (.int .i64 800) = w3 at *
              clear c0 hlt hfz
              have c2 := HDE3.out.dp
              have hlt := HDE3.out.lt
              have hfz := HDE3.out.fz
              have HDE4 : Aside0 (Dec (w3.setCell ⟨g, 801, none⟩ (.int .i64 (dp + (δ : Int)))) g f1 (min (nd + δ) 800) (dp + (δ : Int))) := ⟨by rw [HM.out]; exact HDE3.out.setDp _⟩
              go_wp2_with (go_at_call 73; refine (HTR.out _ HDE4.out).mono ?_; rintro e w5 ⟨rfl, hb5, m, hm1, hm2, hd5⟩)
              go_end0
              have hm0 := hm2 (by omega) HTOP.out
              rw [if_neg (by omega)] at hd5
              exact ⟨rfl, (HBL3.out.setCell (p := ⟨g, 801, none⟩) (Nat.le_refl g) _).trans hb5, f1, m, δ, ⟨hd5, hm0, by omega, fun i hi => HDG.out i (by omega), HTOP.out⟩, hδ2.1, hδ2.2, (HINV.out.2.2.2.2 rfl).2⟩
          · obtain ⟨W1, rfl⟩ : ∃ W1, W = W1 + 1 := ⟨W - 1, by
              have := hinv.2.1
              rcases Nat.eq_zero_or_pos W with e | e
              · subst e; simp at this; omega
              · omega⟩
            have hWδ := hinv.1
            have hst := winv_step hinv
            obtain ⟨Q, hQ⟩ : ∃ Q, N / 10 = Q := ⟨_, rfl⟩
            obtain ⟨x, hx⟩ : ∃ x, N % 10 = x := ⟨_, rfl⟩
            rw [hQ, hx] at hst
            have hQi : (N : Int) / 10 = (Q : Int) := by omega
            have hxi : (N : Int) - 10 * (Q : Int) = (x : Int) := by omega
            have hx9 : x ≤ 9 := by omega
            have hQN : Q ≤ K := by omega
            have HST := Aside0.mk hst
            have HQN := Aside0.mk hQN
            have H8 := Aside0.mk (show W1 < 800 by omega)
            have hW1b : (W1 : Int) ≤ 61 := by omega
            have cW := hdec.cell W1 (by omega)
            have g6 := eq_true (show W1 < 800 by omega)
            have g6' := eq_true (show (W1 : Int) < 800 by omega)
            have g7 := eq_true (show (0 : Int) < (N : Int) by omega)
            have g7' := eq_true (show 0 < N by omega)
            have MS := Aside0.mk (show (Q : Int).toNat < (N : Int).toNat by omega)
            have hNb : (N : Int) ≤ 1152921504606846976 := by omega
            clear hdec hbel hinv hst hQ hx h hNK hWδ c0 c2
            go_wp2
            go_roundw
            case measure => exact MS.out
            case rel => exact ⟨W1, Q, updI f1 W1 ((x : Int) + 48), by first | rfl | exact congrArg (Value.int .i64) (by omega), rfl, HQN.out, HST.out, HDE.out.setD W1 H8.out _, HBL.out.setCell (Nat.le_refl _) _⟩
end Go.Proofs.YtjniglmijikojaaGreatDoor.Text
