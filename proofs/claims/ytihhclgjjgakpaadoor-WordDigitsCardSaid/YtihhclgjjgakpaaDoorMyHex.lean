/- Hex and Unhex: contracts. The condition: at most 1,000,000 bytes. -/
import Derived.Test.YtihhclgjjgakpaaDoorMyBuilder
namespace Go.Proofs.YtihhclgjjgakpaaDoor.Fmt
open Go.RowKit Go.Proofs.YtihhclgjjgakpaaDoorW.PrintWords Go.Proofs.YtihhclgjjgakpaaDoorW.PrintLast Go.Proofs.YtihhclgjjgakpaaDoorW.PrintMore

/-- A digit of base 16. -/
def hexD (n : Nat) : UInt8 := UInt8.ofNat (if n < 10 then 48 + n else 87 + n)

def hexL (l : List UInt8) : List UInt8 := l.flatMap fun b => [hexD (b.toNat / 16), hexD (b.toNat % 16)]

theorem hex_digit (n : Nat) (h : n < 16) : ((⟨#[48, 49, 50, 51, 52, 53, 54, 55, 56, 57, 97, 98, 99, 100, 101, 102]⟩ : ByteArray)[n]'h) = hexD n := by
  have : ∀ n : Fin 16, (⟨#[48, 49, 50, 51, 52, 53, 54, 55, 56, 57, 97, 98, 99, 100, 101, 102]⟩ : ByteArray)[n.1]'n.2 = hexD n.1 := by decide
  exact this ⟨n, h⟩

theorem hexL_append (a b : List UInt8) : hexL (a ++ b) = hexL a ++ hexL b := by simp [hexL]

theorem hexL_length (l : List UInt8) : (hexL l).length = 2 * l.length := by
  induction l with
  | nil => rfl
  | cons b l ih => simp [hexL] at ih ⊢; omega

theorem hexL_take_len (s : ByteArray) (k : Nat) : (hexL (s.data.toList.take k)).length ≤ 2 * k := by
  rw [hexL_length]
  have : (s.data.toList.take k).length ≤ k := List.length_take_le _ _
  omega

theorem write_at (B b : Nat) (l : List UInt8) (x : UInt8) (c : Int) (w : World) (h : Lib.IsBuilder 50 5 B b (Lib.byteCells l) w) (hc : c = (x.toNat : Int)) (hlen : l.length ≤ 10000000) (hBw : B ≤ w.heap.size) :
    Calls Tryd.prog 20 #[.pointer (some ⟨b, 0, none⟩), .int .u8 c] w fun e w' => e = .returned .nilIface ∧ Lib.IsBuilder 50 5 B b (Lib.byteCells (l ++ [x])) w' ∧ Below B w w' := by
  subst hc
  refine (Tryd.Builder_WriteByte B b (Lib.byteCells l) x.toNat w h (by simp [Lib.byteCells]; omega) hBw).mono ?_
  rintro e w' ⟨h1, h2, h3⟩
  exact ⟨h1, .inr (by simpa [Lib.byteCells] using h2), h3⟩

def HexRel (B b : Nat) (s : ByteArray) (w0 : World) (i : Value) (wr : World) : Prop :=
  ∃ k : Nat, k ≤ s.size ∧ i = .int .i64 (k : Int) ∧ Lib.IsBuilder 50 5 B b (Lib.byteCells (hexL (s.data.toList.take k))) wr ∧ Below B w0 wr

set_option maxHeartbeats 1000000 in
theorem hex_any (s : ByteArray) (w : World) (hs : s.size ≤ 1000000) :
    Calls Tryd.prog 11 #[.string s] w fun e w' => e = .returned (.string ⟨(hexL s.data.toList).toArray⟩) ∧ Below w.heap.size w w' := by
  have hu50 := Tryd.underlying50
  go_enter Tryd.func11, Tryd.ntmps11
  go_wp2
  go_loopw [7] (fun i wr => HexRel w.heap.size w.heap.size s w i wr) (fun i _ => s.size - (intOf i).toNat)
  case atStart =>
    refine ⟨0, Nat.zero_le _, rfl, .inl ⟨Nat.le_refl _, .slice none 0 0, heap_alloc_new w _, ?_, by simp [Value.ownBlock]⟩, (Below.refl _ _).alloc (Nat.le_refl _) _⟩
    simp [hexL, Lib.byteCells]
    exact own_nil _ _ _ _
  case round =>
    obtain ⟨k, hk, rfl, hbu, hbel⟩ := hrel
    have HBU := Aside0.mk hbu
    have HBL := Aside0.mk hbel
    have hsz := hbel.size
    clear hbu hbel
    by_cases hlt : k < s.size
    · have hb := s[k].toNat_lt
      have hq : 0 ≤ ((s[k]).toNat : Int) / 16 ∧ ((s[k]).toNat : Int) / 16 < 16 := by omega
      have hr : 0 ≤ ((s[k]).toNat : Int) % 16 ∧ ((s[k]).toNat : Int) % 16 < 16 := by omega
      have hlen := hexL_take_len s k
      have HLEN := Aside0.mk hlen
      clear hlen
      go_wp2_with fail
      refine (write_at w.heap.size w.heap.size (hexL (s.data.toList.take k)) (hexD (s[k].toNat / 16)) _ wr HBU.out (by rw [hex_digit]) (by have := HLEN.out; omega) hsz).mono ?_
      rintro e w2 ⟨rfl, hb2, hbel2⟩
      have HB2 := Aside0.mk hb2
      have HL2 := Aside0.mk (HBL.out.trans hbel2)
      have hsz2 := HL2.out.size
      clear hb2 hbel2
      go_wp2_with fail
      refine (write_at w.heap.size w.heap.size (hexL (s.data.toList.take k) ++ [hexD (s[k].toNat / 16)]) (hexD (s[k].toNat % 16)) _ w2 HB2.out (by rw [hex_digit]) (by have := HLEN.out; simp; omega) hsz2).mono ?_
      rintro e w3 ⟨rfl, hb3, hbel3⟩
      have HB3 := Aside0.mk hb3
      have HL3 := Aside0.mk (HL2.out.trans hbel3)
      clear hb3 hbel3
      go_wp2
      go_roundw
      case rel =>
        refine ⟨k + 1, hlt, by go_num, ?_, HL3.out⟩
        have hts : s.data.toList.take (k + 1) = s.data.toList.take k ++ [s[k]] := by
          rw [List.take_succ_eq_append_getElem (by rw [data_length]; exact hlt)]; rfl
        rw [hts, hexL_append]
        have := HB3.out
        simpa [hexL] using this
      case measure => simp [intOf]; omega
    · obtain rfl : k = s.size := by omega
      have ht : s.data.toList.take s.size = s.data.toList := List.take_of_length_le (by rw [data_length]; omega)
      go_wp2_with fail
      refine (Tryd.Builder_String_any w.heap.size w.heap.size (hexL s.data.toList) wr (by rw [← ht]; exact HBU.out) hsz).mono ?_
      rintro e w2 ⟨rfl, hb2⟩
      have HB2 := Aside0.mk (HBL.out.trans hb2)
      clear hb2 ht
      go_wp2
      go_ret
      exact ⟨rfl, HB2.out⟩
end Go.Proofs.YtihhclgjjgakpaaDoor.Fmt
