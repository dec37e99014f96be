/- Unhex of any text: its contract. The condition: at most 1,000,000 bytes. -/
import Derived.Test.YtihhclgjjgakpaaDoorOwnNum
import Derived.Deep.LoopGhost
namespace Go.Proofs.YtihhclgjjgakpaaDoor.Fmt
open Go.RowKit Go.Lib Go.Proofs.YtihhclgjjgakpaaDoorW.PrintWords Go.Proofs.YtihhclgjjgakpaaDoorW.PrintLast Go.Proofs.YtihhclgjjgakpaaDoorW.PrintMore
open Go.Proofs.YtihhclgjjgakpaaDoor.Own

theorem info5' : (Tryd.prog.info? 5).map (fun i => (i.zero, i.size, i.bytes)) = some (some (.int .u8 0), 1, 1) := by kernel_rfl

def hexs : ByteArray := ⟨#[48, 49, 50, 51, 52, 53, 54, 55, 56, 57, 97, 98, 99, 100, 101, 102]⟩

theorem hex_index : ∀ c : Fin 256, Lib.indexByte hexs.data.toList (UInt8.ofNat c.1) = if hexV c.1 < 16 then (hexV c.1 : Int) else -1 := by decide +kernel

theorem index_ok' (c : Int) (v : Nat) (w : World) (h0 : 0 ≤ c) (h1 : c < 256) (hv : hexV c.toNat = v) (hl : v < 16) :
    Calls Tryd.prog 22 #[.string ⟨#[48, 49, 50, 51, 52, 53, 54, 55, 56, 57, 97, 98, 99, 100, 101, 102]⟩, .int .u8 c] w fun e w' => e = .returned (.int .i64 (v : Int)) ∧ w = w' := by
  have h := hex_index ⟨c.toNat, by omega⟩
  simp only [hv, hl, if_true] at h
  refine (Tryd.strings_IndexByte _ c w).mono fun _ _ ⟨h2, h3⟩ => ⟨?_, h3.symm⟩
  rw [h2, ← h]
  rfl

theorem index_no' (c : Int) (w : World) (h0 : 0 ≤ c) (h1 : c < 256) (hv : hexV c.toNat = 16) :
    Calls Tryd.prog 22 #[.string ⟨#[48, 49, 50, 51, 52, 53, 54, 55, 56, 57, 97, 98, 99, 100, 101, 102]⟩, .int .u8 c] w fun e w' => e = .returned (.int .i64 (-1)) ∧ w = w' := by
  have h := hex_index ⟨c.toNat, by omega⟩
  simp only [hv, if_neg (show ¬ 16 < 16 by omega)] at h
  refine (Tryd.strings_IndexByte _ c w).mono fun _ _ ⟨h2, h3⟩ => ⟨?_, h3.symm⟩
  rw [h2, ← h]
  rfl

theorem index_ok (b : UInt8) (v : Nat) (w : World) (hv : hexV b.toNat = v) (hl : v < 16) :
    Calls Tryd.prog 22 #[.string ⟨#[48, 49, 50, 51, 52, 53, 54, 55, 56, 57, 97, 98, 99, 100, 101, 102]⟩, .int .u8 (b.toNat : Int)] w fun e w' => e = .returned (.int .i64 (v : Int)) ∧ w = w' :=
  index_ok' _ v w (by omega) (by have := b.toNat_lt; omega) hv hl
theorem index_no (b : UInt8) (w : World) (hv : ¬ hexV b.toNat < 16) :
    Calls Tryd.prog 22 #[.string ⟨#[48, 49, 50, 51, 52, 53, 54, 55, 56, 57, 97, 98, 99, 100, 101, 102]⟩, .int .u8 (b.toNat : Int)] w fun e w' => e = .returned (.int .i64 (-1)) ∧ w = w' :=
  index_no' _ w (by omega) (by have := b.toNat_lt; omega) (by have := hexV_le b.toNat; simp only [Int.toNat_natCast]; omega)

/-- What Unhex answers. -/
def UnRes (l : List UInt8) (e : Ending) : Prop :=
  (∃ xs, unh l = some xs ∧ e = .returned (.tuple #[.string (strOfNums xs), .int .i64 0])) ∨ (unh l = none ∧ e = .returned (.tuple #[.string ⟨#[]⟩, .int .i64 4]))

/-- The rounds of the outer loop: j pairs are through. -/
def UnO (l : List UInt8) (w0 : World) (h : Nat) (g : Nat) (b i : Value) (wr : World) : Prop :=
  ∃ (j : Nat) (xs : List Int), j + g = h ∧ i = .int .i64 (2 * (j : Int)) ∧ UnAt l j xs ∧ wr.ownsRow w0.heap.size 5 1 b xs.length (nums .u8 xs) ∧ Below w0.heap.size w0 wr

def UnI (ha hb : Nat) (P : Prop) (b0 : Value) (g : Nat) (b c k : Value) (wr0 wr : World) : Prop :=
  b = b0 ∧ wr0 = wr ∧ ((g = 2 ∧ k = .int .i64 0 ∧ c = .int .u8 0) ∨ (g = 1 ∧ k = .int .i64 1 ∧ c = .int .u8 (ha : Int) ∧ ha < 16) ∨ (g = 0 ∧ k = .int .i64 2 ∧ c = .int .u8 ((ha * 16 + hb : Nat) : Int) ∧ ha < 16 ∧ hb < 16 ∧ P))

theorem or_hex (a b : Nat) (h1 : a < 16) (h2 : b < 16) : Go.bits .or .u8 ((a : Int) * 16) (b : Int) = ((a * 16 + b : Nat) : Int) := by
  rw [bits_join .u8 8 (by decide) (fun n h0 h1 => by rw [IntKind.wrap_u8]; omega) 4 _ _ (by omega) (by omega) (by omega) (by omega) (by omega) (by omega)]
  omega

theorem or_zero (a : Nat) (h1 : a < 16) : Go.bits .or .u8 0 (a : Int) = (a : Int) := by
  have := or_hex 0 a (by omega) h1
  simpa using this

set_option maxHeartbeats 2000000 in
theorem unhex_any (t : ByteArray) (w : World) (hs : t.size ≤ 1000000) :
    Calls Tryd.prog 12 #[.string t] w fun e w' => UnRes t.data.toList e ∧ Below w.heap.size w w' := by
  have hl : t.data.toList.length = t.size := Array.length_toList
  have HLEN := Aside0.mk hl
  clear hl
  go_enter Tryd.func12, Tryd.ntmps12
  go_wp2
  go_step3
  go_wp2
  go_step3
  go_wp2
  go_loopg [4, 5] (t.size + 1) (fun g b i wr => UnO t.data.toList w (t.size + 1) g b i wr)
  case atStart => exact ⟨0, [], by omega, rfl, unAt_zero _, own_nil _ _ _ _, Below.refl _ _⟩
  case round =>
    obtain ⟨j, xs, hj, rfl, hx, hown, hbel⟩ := hrel
    have HX := Aside0.mk hx
    have HOW := Aside0.mk hown
    have HBL := Aside0.mk hbel
    have hsz := hbel.size
    have hjs : 2 * j ≤ t.size := by have := hx.2.1; have := HLEN.out; omega
    have hxl : xs.length = j := hx.1
    subst hxl
    clear hown hbel hx
    obtain ⟨A0, c0, rfl⟩ := own_slice HOW.out
    by_cases hlt : 2 * xs.length < t.size
    · have hd0 : decide (2 * (xs.length : Int) < (t.size : Int)) = true := decide_eq_true (by omega)
      obtain ⟨ha, hha⟩ : ∃ n, hexV ((t[2 * xs.length]).toNat) = n := ⟨_, rfl⟩
      obtain ⟨hb, hhb⟩ : ∃ n, (if h : 2 * xs.length + 1 < t.size then hexV ((t[2 * xs.length + 1]).toNat) else 16) = n := ⟨_, rfl⟩
      have HA := Aside0.mk hha
      have HBV := Aside0.mk hhb
      clear hha hhb
      go_wp2
      go_loopg [4, 6, 15] 2 (fun g b c k wi => UnI ha hb (2 * xs.length + 1 < t.size) (.slice A0 xs.length c0) g b c k wr wi)
      case atStart => exact ⟨rfl, rfl, .inl ⟨rfl, rfl, rfl⟩⟩
      case round =>
        obtain ⟨rfl, rfl, ⟨rfl, rfl, rfl⟩ | ⟨rfl, rfl, rfl, hha⟩ | ⟨rfl, rfl, rfl, hha, hhb, hP⟩⟩ := hrel
        · by_cases h16 : ha < 16
          · go_wp2_with (go_at_call 22; refine (index_ok _ ha _ HA.out h16).mono ?_; rintro e w' ⟨rfl, rfl⟩)
            go_roundg 1
            case rel => exact ⟨rfl, rfl, .inr (.inl ⟨rfl, rfl, by rw [or_zero ha h16], h16⟩)⟩
            case measure => omega
          · go_wp2_with (go_at_call 22; refine (index_no _ _ (HA.out ▸ h16)).mono ?_; rintro e w' ⟨rfl, rfl⟩)
            rw [Exit.noGoto_ret]
            go_ret2
            refine ⟨.inr ⟨unh_fail _ xs.length (by rw [HLEN.out]; exact hlt) (.inr (.inl ⟨_, at_list t _ hlt, ?_⟩)), rfl⟩, HBL.out⟩
            have := HA.out; have := hexV_le (t[2 * xs.length]).toNat; omega
        · by_cases hlt2 : 2 * xs.length + 1 < t.size
          · have hb2 : hexV (t[2 * xs.length + 1]).toNat = hb := by have := HBV.out; rw [dif_pos hlt2] at this; exact this
            have HB2 := Aside0.mk hb2
            clear hb2
            by_cases h16 : hb < 16
            · go_wp2_with (go_at_call 22; refine (index_ok _ hb _ HB2.out h16).mono ?_; rintro e w' ⟨rfl, rfl⟩)
              go_roundg 0
              case rel => exact ⟨rfl, rfl, .inr (.inr ⟨rfl, rfl, by rw [or_hex ha hb hha h16], hha, h16, hlt2⟩)⟩
              case measure => omega
            · go_wp2_with (go_at_call 22; refine (index_no _ _ (HB2.out ▸ h16)).mono ?_; rintro e w' ⟨rfl, rfl⟩)
              rw [Exit.noGoto_ret]
              go_ret2
              refine ⟨.inr ⟨unh_fail _ xs.length (by rw [HLEN.out]; exact hlt) (.inr (.inr ⟨_, at_list t _ hlt2, ?_⟩)), rfl⟩, HBL.out⟩
              have := HB2.out; have := hexV_le (t[2 * xs.length + 1]).toNat; omega
          · have hge : t.size ≤ 2 * xs.length + 1 := by omega
            go_wp2
            rw [Exit.noGoto_ret]
            go_ret2
            exact ⟨.inr ⟨unh_fail _ xs.length (by rw [HLEN.out]; exact hlt) (.inl (by have := HLEN.out; omega)), rfl⟩, HBL.out⟩
        · go_wp2_with (at_builtin; refine print_append_num w.heap.size rfl (.tmp 38) (.tmp 40) 42 5 .u8 1 rfl Tryd.underlying42 info5' (by decide) (.slice A0 xs.length c0) xs _ rfl ?hx HOW.out (Below.refl _ _) hsz (by omega) ?grow)
          case hx => rfl
          case grow =>
            intro v1 w4 hown4 _ hg4 _
            have HO4 := Aside0.mk hown4
            have HG4 := Aside0.mk hg4
            clear hown4 hg4
            go_wp2
            go_roundg (t.size + 1 - (xs.length + 1))
            case rel =>
              have hb2 : hexV (t[2 * xs.length + 1]).toNat = hb := by have := HBV.out; rw [dif_pos hP] at this; exact this
              have hsucc := unAt_succ _ xs.length xs _ _ HX.out (at_list t _ hlt) (at_list t _ hP) (by rw [HA.out]; exact hha) (by rw [hb2]; exact hhb)
              rw [HA.out, hb2, show ((ha * 16 + hb : Nat) : Int) = (ha : Int) * 16 + hb by omega] at hsucc
              exact ⟨xs.length + 1, xs ++ [(ha : Int) * 16 + hb], by omega, by go_num, hsucc, by rw [List.length_append]; exact HO4.out, HBL.out.grown HG4.out hsz (own_base HOW.out)⟩
            case measure => omega
    · have hge : t.size ≤ 2 * xs.length := by omega
      have hcv : (convert 42 9 (.slice A0 xs.length c0)).run Tryd.prog wr = .ok (.string (strOfNums xs)) wr := own_string Tryd.underlying42 Tryd.underlying5 Tryd.underlying9 HOW.out
      go_wp2
      rw [Exit.noGoto_ret]
      go_ret2
      exact ⟨.inl ⟨xs, unAt_end _ _ _ HX.out (by have := HLEN.out; omega), rfl⟩, HBL.out⟩
end Go.Proofs.YtihhclgjjgakpaaDoor.Fmt
