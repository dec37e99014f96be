/- The key's schedule; a copy out of a string. No conditions. -/
import Derived.Test.YtiblkbkdfebfbaaMyWhole
import Derived.Laws.CopyRow
namespace Go.Proofs.Ytiblkbkdfebfbaa.Aes
open Go.RowKit Go.Proofs.Ytiblkbkdfebfbaa.Own

/-- The next row of the schedule. -/
def nx (sf last : Nat → B8) (turn : B8) : Nat → B8
  | 0 => (last 0 ^^^ sf (last 13).toNat) ^^^ turn
  | 1 => last 1 ^^^ sf (last 14).toNat
  | 2 => last 2 ^^^ sf (last 15).toNat
  | 3 => last 3 ^^^ sf (last 12).toNat
  | i + 4 => last (i + 4) ^^^ nx sf last turn i
def tn : Nat → B8
  | 0 => 1#8
  | r + 1 => tm (tn r) 2#8
/-- The rows. -/
def rows (sf f0 : Nat → B8) : Nat → Nat → B8
  | 0 => f0
  | r + 1 => nx sf (rows sf f0 r) (tn r)
def wr0 (sf f0 : Nat → B8) : Nat → B8 := fun j => rows sf f0 (j / 16) (j % 16)
/-- The first n bytes of the schedule, and zeros. -/
def pw (sf f0 : Nat → B8) (n : Nat) : Nat → B8 := fun j => if j < n then wr0 sf f0 j else 0#8
theorem pw_step (sf f0 : Nat → B8) (n : Nat) : upd (pw sf f0 n) n (wr0 sf f0 n) = pw sf f0 (n + 1) := by
  funext i
  unfold upd pw
  by_cases e : i = n
  · subst e
    rw [if_pos rfl, if_pos (by omega)]
  · rw [if_neg e]
    by_cases h1 : i < n
    · rw [if_pos h1, if_pos (by omega)]
    · rw [if_neg h1, if_neg (by omega)]
theorem kc_congr (b : Bool) (wf wf' sf : Nat → B8) (h : ∀ i, i < 176 → wf i = wf' i) : kc b wf sf = kc b wf' sf := by
  unfold kc
  rw [ba_congr 176 wf wf' h]
theorem kc_setw (b : Bool) (wf sf : Nat → B8) (i : Nat) (h : i < 176) (v : B8) : (kc b wf sf).setIfInBounds (1 + i) (.int .u8 (v.toNat : Int)) = kc b (upd wf i v) sf := by
  have hz := kc_size b wf sf
  have hz' := kc_size b (upd wf i v) sf
  apply Array.ext_getElem?
  intro j
  rw [Array.getElem?_setIfInBounds]
  by_cases e : 1 + i = j
  · subst e
    rw [if_pos rfl, if_pos (by omega), kc_w _ _ _ i h]
    unfold upd
    rw [if_pos rfl]
  · rw [if_neg e]
    by_cases j0 : j = 0
    · subst j0
      rw [kc_0, kc_0]
    · by_cases j1 : j < 177
      · obtain ⟨m, rfl⟩ : ∃ m, j = 1 + m := ⟨j - 1, by omega⟩
        rw [kc_w _ _ _ m (by omega), kc_w _ _ _ m (by omega)]
        unfold upd
        rw [if_neg (by omega)]
      · by_cases j2 : j < 433
        · obtain ⟨m, rfl⟩ : ∃ m, j = 177 + m := ⟨j - 177, by omega⟩
          rw [kc_s _ _ _ m (by omega), kc_s _ _ _ m (by omega)]
        · rw [Array.getElem?_eq_none (by omega), Array.getElem?_eq_none (by omega)]

/-- The bytes of a string. -/
def sb (d : ByteArray) : Nat → B8 := fun i => (d.data.getD i 0).toBitVec
theorem sb_cells (d : ByteArray) (h : d.size = 16) : (d.data.toList.map (fun b => Value.int .u8 b.toNat)).take 16 = (ba 16 (sb d)).toList := by
  have hs : d.data.size = 16 := h
  apply List.ext_getElem?
  intro j
  rw [show (ba 16 (sb d)).toList[j]? = (ba 16 (sb d))[j]? from Array.getElem?_toList]
  by_cases hj : j < 16
  · rw [ba_get 16 _ j hj, List.getElem?_take, if_pos hj]
    simp [sb, hs, hj]
  · rw [show (ba 16 (sb d))[j]? = none from Array.getElem?_eq_none (by rw [ba_size]; omega), List.getElem?_take, if_neg hj]

theorem run_copy_str (w : World) (dT sT ty elem : TypeId) (g o n dCap : Nat) (s : ByteArray) (cur : Array Value) (t : TypeId) (cs : List Value)
    (hu : Try.prog.underlying dT = some (.slice elem)) (hg : w.heap[g]? = some (.cells cur t (0, 0))) (hn : s.size = n) (hi : (Try.prog.info? elem).map (·.size) = some 1)
    (hcs : (s.data.toList.map (fun b => Value.int .u8 b.toNat)).take n = cs) (hfit : o + cs.length ≤ cur.size) (h1 : ∀ v ∈ cs, v.oneCell' = true) :
    (Builtin.copy_ #[dT, sT] ty #[.slice (some ⟨g, o, none⟩) n dCap, .string s]).run Try.prog w =
      .ok (goInt n) (w.setRow g (cur.toList.take o ++ cs ++ cur.toList.drop (o + cs.length)).toArray) := by
  have hst := run_storeCells_at Try.prog g o t cs 0 cur w hg (by simpa using hfit) h1
  cases hq : Try.prog.info? elem with
  | none => simp [hq] at hi
  | some i =>
    simp [Builtin.copy_, run_underlying hu, Builtin.lenOf, Builtin.firstCells, sizeOf, typeInfo, hq, hn]
    rw [hcs]
    simpa using congrArg (fun r => r.andThen fun _ w' => Result.ok (goInt n) w') hst
end Go.Proofs.Ytiblkbkdfebfbaa.Aes
