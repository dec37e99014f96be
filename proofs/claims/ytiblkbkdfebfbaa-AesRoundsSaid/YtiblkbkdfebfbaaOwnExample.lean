/- The example of the chapter: what is computed at it. No conditions. -/
import Derived.Test.YtiblkbkdfebfbaaOwnTable
namespace Go.Proofs.Ytiblkbkdfebfbaa.Aes
open Go.RowKit Go.Proofs.Ytiblkbkdfebfbaa.Own

def kd : ByteArray := ⟨#[0, 1, 2, 3, 4, 5, 6, 7, 8, 9, 10, 11, 12, 13, 14, 15]⟩
def bf : Nat → B8 := fun i => BitVec.ofNat 8 (17 * i)
def r0 : List B8 := [0#8, 1#8, 2#8, 3#8, 4#8, 5#8, 6#8, 7#8, 8#8, 9#8, 10#8, 11#8, 12#8, 13#8, 14#8, 15#8]
def r1 : List B8 := [214#8, 170#8, 116#8, 253#8, 210#8, 175#8, 114#8, 250#8, 218#8, 166#8, 120#8, 241#8, 214#8, 171#8, 118#8, 254#8]
def r2 : List B8 := [182#8, 146#8, 207#8, 11#8, 100#8, 61#8, 189#8, 241#8, 190#8, 155#8, 197#8, 0#8, 104#8, 48#8, 179#8, 254#8]
def r3 : List B8 := [182#8, 255#8, 116#8, 78#8, 210#8, 194#8, 201#8, 191#8, 108#8, 89#8, 12#8, 191#8, 4#8, 105#8, 191#8, 65#8]
def r4 : List B8 := [71#8, 247#8, 247#8, 188#8, 149#8, 53#8, 62#8, 3#8, 249#8, 108#8, 50#8, 188#8, 253#8, 5#8, 141#8, 253#8]
def r5 : List B8 := [60#8, 170#8, 163#8, 232#8, 169#8, 159#8, 157#8, 235#8, 80#8, 243#8, 175#8, 87#8, 173#8, 246#8, 34#8, 170#8]
def r6 : List B8 := [94#8, 57#8, 15#8, 125#8, 247#8, 166#8, 146#8, 150#8, 167#8, 85#8, 61#8, 193#8, 10#8, 163#8, 31#8, 107#8]
def r7 : List B8 := [20#8, 249#8, 112#8, 26#8, 227#8, 95#8, 226#8, 140#8, 68#8, 10#8, 223#8, 77#8, 78#8, 169#8, 192#8, 38#8]
def r8 : List B8 := [71#8, 67#8, 135#8, 53#8, 164#8, 28#8, 101#8, 185#8, 224#8, 22#8, 186#8, 244#8, 174#8, 191#8, 122#8, 210#8]
def r9 : List B8 := [84#8, 153#8, 50#8, 209#8, 240#8, 133#8, 87#8, 104#8, 16#8, 147#8, 237#8, 156#8, 190#8, 44#8, 151#8, 78#8]
def r10 : List B8 := [19#8, 17#8, 29#8, 127#8, 227#8, 148#8, 74#8, 23#8, 243#8, 7#8, 167#8, 139#8, 77#8, 43#8, 48#8, 197#8]
def s0 : List B8 := [0#8, 16#8, 32#8, 48#8, 64#8, 80#8, 96#8, 112#8, 128#8, 144#8, 160#8, 176#8, 192#8, 208#8, 224#8, 240#8]
def s1 : List B8 := [137#8, 216#8, 16#8, 232#8, 133#8, 90#8, 206#8, 104#8, 45#8, 24#8, 67#8, 216#8, 203#8, 18#8, 143#8, 228#8]
def s2 : List B8 := [73#8, 21#8, 89#8, 143#8, 85#8, 229#8, 215#8, 160#8, 218#8, 202#8, 148#8, 250#8, 31#8, 10#8, 99#8, 247#8]
def s3 : List B8 := [250#8, 99#8, 106#8, 40#8, 37#8, 179#8, 57#8, 201#8, 64#8, 102#8, 138#8, 49#8, 87#8, 36#8, 77#8, 23#8]
def s4 : List B8 := [36#8, 114#8, 64#8, 35#8, 105#8, 102#8, 179#8, 250#8, 110#8, 210#8, 117#8, 50#8, 136#8, 66#8, 91#8, 108#8]
def s5 : List B8 := [200#8, 22#8, 119#8, 188#8, 155#8, 122#8, 201#8, 59#8, 37#8, 2#8, 121#8, 146#8, 176#8, 38#8, 25#8, 150#8]
def s6 : List B8 := [198#8, 47#8, 225#8, 9#8, 247#8, 94#8, 237#8, 195#8, 204#8, 121#8, 57#8, 93#8, 132#8, 249#8, 207#8, 93#8]
def s7 : List B8 := [209#8, 135#8, 108#8, 15#8, 121#8, 196#8, 48#8, 10#8, 180#8, 85#8, 148#8, 173#8, 214#8, 111#8, 244#8, 31#8]
def s8 : List B8 := [253#8, 227#8, 186#8, 210#8, 5#8, 229#8, 208#8, 215#8, 53#8, 71#8, 150#8, 78#8, 241#8, 254#8, 55#8, 241#8]
def s9 : List B8 := [189#8, 110#8, 124#8, 61#8, 242#8, 181#8, 119#8, 158#8, 11#8, 97#8, 33#8, 110#8, 139#8, 16#8, 182#8, 137#8]
def s10 : List B8 := [105#8, 196#8, 224#8, 216#8, 106#8, 123#8, 4#8, 48#8, 216#8, 205#8, 183#8, 128#8, 112#8, 180#8, 197#8, 90#8]

theorem nx_congr (sf last last' : Nat → B8) (t : B8) (h : ∀ j, j < 16 → last j = last' j) : ∀ i, i < 16 → nx sf last t i = nx sf last' t i := by
  intro i
  induction i using Nat.strongRecOn with
  | _ i ih =>
    intro hi
    match i, hi, ih with
    | 0, _, _ => simp only [nx]; rw [h 0 (by omega), h 13 (by omega)]
    | 1, _, _ => simp only [nx]; rw [h 1 (by omega), h 14 (by omega)]
    | 2, _, _ => simp only [nx]; rw [h 2 (by omega), h 15 (by omega)]
    | 3, _, _ => simp only [nx]; rw [h 3 (by omega), h 12 (by omega)]
    | i + 4, hi, ih => simp only [nx]; rw [h (i + 4) hi, ih i (by omega) (by omega)]
theorem tu_congr (sf f f' : Nat → B8) (h : ∀ j, j < 16 → f j = f' j) (i : Nat) : tu sf f i = tu sf f' i := by
  unfold tu
  rw [h (ti i) (Nat.mod_lt _ (by omega))]
theorem rows_step (sf f0 : Nat → B8) (r : Nat) (l l' : List B8) (h : ∀ i, i < 16 → rows sf f0 r i = lf l i) (hs : ∀ i : Fin 16, nx sf (lf l) (tn r) i.1 = lf l' i.1) : ∀ i, i < 16 → rows sf f0 (r + 1) i = lf l' i := by
  intro i hi
  show nx sf (rows sf f0 r) (tn r) i = _
  rw [nx_congr sf _ _ _ h i hi]
  exact hs ⟨i, hi⟩
theorem er_step (wf sf f : Nat → B8) (r : Nat) (l l' k : List B8) (h : ∀ i, i < 16 → er wf sf f r i = lf l i) (hk : ∀ i, i < 16 → rowOf wf (r + 1) i = lf k i) (hs : ∀ i : Fin 16, xo (if r + 1 < 10 then mx (tu sf (lf l)) else tu sf (lf l)) (lf k) i.1 = lf l' i.1) : ∀ i, i < 16 → er wf sf f (r + 1) i = lf l' i := by
  intro i hi
  have e : tu sf (er wf sf f r) = tu sf (lf l) := funext (tu_congr sf _ _ h)
  show (if r + 1 < 10 then mx (tu sf (er wf sf f r)) else tu sf (er wf sf f r)) i ^^^ rowOf wf (r + 1) i = _
  rw [e, hk i hi]
  exact hs ⟨i, hi⟩
theorem row_of_rows (sf f0 : Nat → B8) (r : Nat) (l : List B8) (h : ∀ i, i < 16 → rows sf f0 r i = lf l i) : ∀ i, i < 16 → rowOf (wr0 sf f0) r i = lf l i := by
  intro i hi
  unfold rowOf wr0
  rw [show (16 * r + i) / 16 = r by omega, show (16 * r + i) % 16 = i by omega]
  exact h i hi
theorem R0 : ∀ i, i < 16 → rows sT (sb kd) 0 i = lf r0 i := fun i hi => (by decide +kernel : ∀ i : Fin 16, sb kd i.1 = lf r0 i.1) ⟨i, hi⟩
theorem R1 : ∀ i, i < 16 → rows sT (sb kd) 1 i = lf r1 i := rows_step _ _ 0 r0 r1 R0 (by decide +kernel)
theorem R2 : ∀ i, i < 16 → rows sT (sb kd) 2 i = lf r2 i := rows_step _ _ 1 r1 r2 R1 (by decide +kernel)
theorem R3 : ∀ i, i < 16 → rows sT (sb kd) 3 i = lf r3 i := rows_step _ _ 2 r2 r3 R2 (by decide +kernel)
theorem R4 : ∀ i, i < 16 → rows sT (sb kd) 4 i = lf r4 i := rows_step _ _ 3 r3 r4 R3 (by decide +kernel)
theorem R5 : ∀ i, i < 16 → rows sT (sb kd) 5 i = lf r5 i := rows_step _ _ 4 r4 r5 R4 (by decide +kernel)
theorem R6 : ∀ i, i < 16 → rows sT (sb kd) 6 i = lf r6 i := rows_step _ _ 5 r5 r6 R5 (by decide +kernel)
theorem R7 : ∀ i, i < 16 → rows sT (sb kd) 7 i = lf r7 i := rows_step _ _ 6 r6 r7 R6 (by decide +kernel)
theorem R8 : ∀ i, i < 16 → rows sT (sb kd) 8 i = lf r8 i := rows_step _ _ 7 r7 r8 R7 (by decide +kernel)
theorem R9 : ∀ i, i < 16 → rows sT (sb kd) 9 i = lf r9 i := rows_step _ _ 8 r8 r9 R8 (by decide +kernel)
theorem R10 : ∀ i, i < 16 → rows sT (sb kd) 10 i = lf r10 i := rows_step _ _ 9 r9 r10 R9 (by decide +kernel)
theorem S0 : ∀ i, i < 16 → er (wr0 sT (sb kd)) sT bf 0 i = lf s0 i := fun i hi => by
  show bf i ^^^ rowOf (wr0 sT (sb kd)) 0 i = _
  rw [row_of_rows _ _ 0 r0 R0 i hi]
  exact (by decide +kernel : ∀ i : Fin 16, bf i.1 ^^^ lf r0 i.1 = lf s0 i.1) ⟨i, hi⟩
theorem S1 : ∀ i, i < 16 → er (wr0 sT (sb kd)) sT bf 1 i = lf s1 i := er_step _ _ _ 0 s0 s1 r1 S0 (row_of_rows _ _ 1 r1 R1) (by decide +kernel)
theorem S2 : ∀ i, i < 16 → er (wr0 sT (sb kd)) sT bf 2 i = lf s2 i := er_step _ _ _ 1 s1 s2 r2 S1 (row_of_rows _ _ 2 r2 R2) (by decide +kernel)
theorem S3 : ∀ i, i < 16 → er (wr0 sT (sb kd)) sT bf 3 i = lf s3 i := er_step _ _ _ 2 s2 s3 r3 S2 (row_of_rows _ _ 3 r3 R3) (by decide +kernel)
theorem S4 : ∀ i, i < 16 → er (wr0 sT (sb kd)) sT bf 4 i = lf s4 i := er_step _ _ _ 3 s3 s4 r4 S3 (row_of_rows _ _ 4 r4 R4) (by decide +kernel)
theorem S5 : ∀ i, i < 16 → er (wr0 sT (sb kd)) sT bf 5 i = lf s5 i := er_step _ _ _ 4 s4 s5 r5 S4 (row_of_rows _ _ 5 r5 R5) (by decide +kernel)
theorem S6 : ∀ i, i < 16 → er (wr0 sT (sb kd)) sT bf 6 i = lf s6 i := er_step _ _ _ 5 s5 s6 r6 S5 (row_of_rows _ _ 6 r6 R6) (by decide +kernel)
theorem S7 : ∀ i, i < 16 → er (wr0 sT (sb kd)) sT bf 7 i = lf s7 i := er_step _ _ _ 6 s6 s7 r7 S6 (row_of_rows _ _ 7 r7 R7) (by decide +kernel)
theorem S8 : ∀ i, i < 16 → er (wr0 sT (sb kd)) sT bf 8 i = lf s8 i := er_step _ _ _ 7 s7 s8 r8 S7 (row_of_rows _ _ 8 r8 R8) (by decide +kernel)
theorem S9 : ∀ i, i < 16 → er (wr0 sT (sb kd)) sT bf 9 i = lf s9 i := er_step _ _ _ 8 s8 s9 r9 S8 (row_of_rows _ _ 9 r9 R9) (by decide +kernel)
theorem S10 : ∀ i, i < 16 → er (wr0 sT (sb kd)) sT bf 10 i = lf s10 i := er_step _ _ _ 9 s9 s10 r10 S9 (row_of_rows _ _ 10 r10 R10) (by decide +kernel)
theorem example_0 : er (wr0 (outF 255) (sb kd)) (outF 255) bf 10 0 = 105#8 := by rw [box_eq, S10 0 (by omega)]; rfl
theorem example_1 : er (wr0 (outF 255) (sb kd)) (outF 255) bf 10 1 = 196#8 := by rw [box_eq, S10 1 (by omega)]; rfl
theorem example_15 : er (wr0 (outF 255) (sb kd)) (outF 255) bf 10 15 = 90#8 := by rw [box_eq, S10 15 (by omega)]; rfl
end Go.Proofs.Ytiblkbkdfebfbaa.Aes
