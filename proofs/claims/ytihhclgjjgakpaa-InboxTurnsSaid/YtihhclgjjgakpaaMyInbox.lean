/- The contracts of the inbox: New, Put, Take, Len, Dropped, over what a row of texts reads as. No conditions but the bounds that each names. -/
import Derived.Test.YtihhclgjjgakpaaPInboxOrderx1
namespace Go.Proofs.Ytihhclgjjgakpaa.Inbox
open Go.RowKit Go.Proofs.YtihhclgjjgakpaaW.PrintWords Go.Proofs.YtihhclgjjgakpaaW.PrintLast Go.Proofs.YtihhclgjjgakpaaW.PrintMore
def Txt (w : World) (A : Option Addr) (l : List ByteArray) : Prop := ∀ i s, l[i]? = some s → ∃ ad, A = some ad ∧ w.cell? (ad.add i) = some (.string s)
theorem put_full (room d : Int) (A : Option Addr) (n c : Nat) (x : ByteArray) (w : World) (h : room ≤ n) (_ : n ≤ 140737488351232) :
    Calls Try.prog 13 #[.agg #[.int .i64 room, .slice A n c, .int .u64 d], .string x] w fun e w' => e = .returned (.tuple #[.agg #[.int .i64 room, .slice A n c, .int .u64 (IntKind.u64.wrap (d + 1))], .int .i64 12]) ∧ Below w.heap.size w w' := by
  have hu26 := Try.underlying26
  go_enter Try.func13, Try.ntmps13
  go_wp2
  refine bodyPost_ret (v := .tuple #[.agg #[.int .i64 room, .slice A n c, .int .u64 (IntKind.u64.wrap (d + 1))], .int .i64 12]) (by simp [results, Try.results13, go_sem]) rfl ⟨rfl, ?_⟩
  exact ((Below.refl _ _).alloc (Nat.le_refl _) _).alloc (by simp) _

theorem info9' : (Try.prog.info? 9).map (fun i => (i.zero, i.size, i.bytes)) = some (some (.string ⟨#[]⟩), 1, 16) := by kernel_rfl

def PutPost (room d : Int) (l : List ByteArray) (w : World) (e : Ending) (w' : World) : Prop :=
  ∃ A' c', e = .returned (.tuple #[.agg #[.int .i64 room, .slice A' l.length c', .int .u64 d], .int .i64 0]) ∧ l.length ≤ c' ∧ (A' = none → c' = 0) ∧ Txt w' A' l ∧ Below w.heap.size w w' ∧ ∀ ad, A' = some ad → w.heap.size ≤ ad.block

theorem add_block (ad : Addr) (i : Nat) : (ad.add i).block = ad.block := by unfold Addr.add; split <;> rfl

theorem Txt.set {w : World} {A : Option Addr} {l : List ByteArray} (h : Txt w A l) {p : Addr} (hp : ∀ ad, A = some ad → ad.block ≠ p.block) (v : Value) : Txt (w.setCell p v) A l := by
  intro i s hi
  obtain ⟨ad, had, hc⟩ := h i s hi
  refine ⟨ad, had, ?_⟩
  rw [World.cell?_setCell_other]
  · exact hc
  · intro h; have := hp ad had; rw [h, add_block] at this; exact this rfl

theorem Txt.below {w w1 : World} {A : Option Addr} {l : List ByteArray} (h : Txt w A l) (hb : Below w.heap.size w w1) : Txt w1 A l := by
  intro i s hi
  obtain ⟨ad, had, hc⟩ := h i s hi
  exact ⟨ad, had, pw_cell_below hb hc⟩

theorem add_succ (ad : Addr) (i : Nat) : ad.add (i + 1) = (⟨ad.block, ad.off + 1, none⟩ : Addr).add i := by
  unfold Addr.add
  rw [if_neg (by omega)]
  split
  · next h => subst h; rfl
  · simp; omega

theorem Txt.tail {w : World} {ad : Addr} {x : ByteArray} {l : List ByteArray} (h : Txt w (some ad) (x :: l)) : Txt w (some ⟨ad.block, ad.off + 1, none⟩) l := by
  intro i s hi
  obtain ⟨ad', had, hc⟩ := h (i + 1) s (by simpa using hi)
  obtain rfl := Option.some.inj had
  exact ⟨_, rfl, by rw [← add_succ]; exact hc⟩

theorem own_txt {w : World} {base n : Nat} {e : TypeId} {v : Value} {l : List ByteArray} (h : w.ownsRow base e 1 v n (l.map .string)) : ∃ A c, v = .slice A l.length c ∧ l.length ≤ c ∧ Txt w A l ∧ (A = none → c = 0) ∧ ∀ ad, A = some ad → base ≤ ad.block := by
  obtain ⟨hl, h⟩ := h
  have hn : l.length = n := by simpa using hl
  subst hn
  rcases h with ⟨rfl, h0⟩ | ⟨g, cap, cur, rfl, hb, hg, hnc, _, hcs, ht⟩
  · refine ⟨none, 0, by rw [h0], by omega, ?_, fun _ => rfl, by simp⟩
    intro i s hi
    have : l = [] := List.eq_nil_of_length_eq_zero h0
    subst this
    simp at hi
  · refine ⟨_, _, rfl, hnc, ?_, by simp, by intro ad had; obtain rfl := Option.some.inj had; exact hb⟩
    intro i s hi
    refine ⟨_, rfl, ?_⟩
    have hi' : i < l.length := (List.getElem?_eq_some_iff.1 hi).1
    rw [add_plain, blk_cell hg]
    have h1 : (cur.toList.take (l.length * 1))[i]? = (l.map Value.string)[i]? := by rw [ht]
    rw [List.getElem?_take_of_lt (by omega)] at h1
    simpa [hi] using h1

theorem alloc_cell {w : World} (o : Obj) {a : Addr} {v : Value} (h : w.cell? a = some v) : (w.alloc o).cell? a = some v := by
  rw [World.cell?_alloc_lt _ _ _ (World.block_lt_of_cell? w a h)]; exact h

theorem gcell {W w1 : World} (hg : W.grownBy w1 none) : (∀ b o, b < W.heap.size → w1.cell? ⟨b, o, none⟩ = W.cell? ⟨b, o, none⟩) ∧ (∀ b o, b < W.heap.size → w1.frozen? ⟨b, o, none⟩ = W.frozen? ⟨b, o, none⟩) :=
  ⟨fun b o h => World.cell?_of_block (hg.block b h (by simp)), fun b o h => World.frozen?_of_block (hg.block b h (by simp))⟩

theorem put_fits (room d : Int) (A : Option Addr) (l : List ByteArray) (c : Nat) (x : ByteArray) (w : World) (h : l.length < room) (hn : l.length ≤ 1000000) (hc : l.length ≤ c) (hA : A = none → c = 0) (ht : Txt w A l) :
    Calls Try.prog 13 #[.agg #[.int .i64 room, .slice A l.length c, .int .u64 d], .string x] w (PutPost room d (l ++ [x]) w) := by
  have hu26 := Try.underlying26
  obtain ⟨i0, hi, hzz⟩ := Option.map_eq_some_iff.1 info9'
  simp only [Prod.mk.injEq] at hzz
  obtain ⟨hz0, hz1, hz2⟩ := hzz
  have HT := Aside0.mk ht
  clear ht
  have HA := Aside0.mk hA
  clear hA
  go_enter Try.func13, Try.ntmps13
  go_wp2_with (at_builtin; refine wpList_append_grows _ rfl (.tmp 25) (.tmp 27) 22 rfl 9 i0 (.string ⟨#[]⟩) 1 16 Try.underlying22 hi hz0 hz1 hz2 rfl (by decide) A l.length l.length (l.map .string) rfl ?c1 (by simp) ?c2 ⟨w.heap.size + 1 + 1, 0, none⟩ 1 1 [.string x] rfl rfl ?c3 (by simp [Value.oneCell']) (by omega) (by unfold maxLen; omega) (by omega) ?grow)

  case c1 => intro h0; have := HA.out h0; omega
  case c2 =>
    intro b hb j u hu
    simp only [List.getElem?_map, Option.map_eq_some_iff] at hu
    obtain ⟨s, hs, rfl⟩ := hu
    obtain ⟨ad, had, hcell⟩ := HT.out j s hs
    rw [hb] at had
    obtain rfl := Option.some.inj had
    exact alloc_cell _ (alloc_cell _ (alloc_cell _ hcell))
  case c3 =>
    intro j u hu
    have hj : j = 0 := by have := (List.getElem?_eq_some_iff.1 hu).1; simp at this; exact this
    subst hj
    simp at hu
    subst hu
    go_simp
  case grow =>
    intro v1 w1 hown hg
    obtain ⟨hcl, hfr⟩ := gcell hg
    have q0 : w1.cell? ⟨w.heap.size, 0, none⟩ = some (.int .i64 room) := (hcl w.heap.size 0 (by simp; omega)).trans (by go_simp)
    have q1 : w1.cell? ⟨w.heap.size, 1, none⟩ = some (.slice A l.length c) := (hcl w.heap.size 1 (by simp; omega)).trans (by go_simp)
    have q2 : w1.cell? ⟨w.heap.size, 2, none⟩ = some (.int .u64 d) := (hcl w.heap.size 2 (by simp; omega)).trans (by go_simp)
    have p0 : w1.cell? ⟨w.heap.size + 1, 0, none⟩ = some (.int .i64 0) := (hcl (w.heap.size + 1) 0 (by simp)).trans (by go_simp)
    have p1 : w1.cell? ⟨w.heap.size + 1, 1, none⟩ = some (.slice none 0 0) := (hcl (w.heap.size + 1) 1 (by simp)).trans (by go_simp)
    have p2 : w1.cell? ⟨w.heap.size + 1, 2, none⟩ = some (.int .u64 0) := (hcl (w.heap.size + 1) 2 (by simp)).trans (by go_simp)
    have f1 : w1.frozen? ⟨w.heap.size, 1, none⟩ = false := (hfr w.heap.size 1 (by simp; omega)).trans (by go_simp)
    have g0 : w1.frozen? ⟨w.heap.size + 1, 0, none⟩ = false := (hfr (w.heap.size + 1) 0 (by simp)).trans (by go_simp)
    have g1 : w1.frozen? ⟨w.heap.size + 1, 1, none⟩ = false := (hfr (w.heap.size + 1) 1 (by simp)).trans (by go_simp)
    have g2 : w1.frozen? ⟨w.heap.size + 1, 2, none⟩ = false := (hfr (w.heap.size + 1) 2 (by simp)).trans (by go_simp)
    clear hcl hfr
    have hsz := hg.size
    have HG := Aside0.mk hg
    have hown' : w1.ownsRow (w.heap.size + 1 + 1 + 1) 9 1 v1 (l.length + 1) ((l ++ [x]).map .string) := by simpa using hown
    obtain ⟨A', c', rfl, hc', ht', ha', hb'⟩ := own_txt hown'
    have HA' := Aside0.mk ha'
    have HB' := Aside0.mk hb'
    have HT' := Aside0.mk ht'
    have HC' := Aside0.mk hc'
    clear hg hown hown' ht' hc' ha' hb'
    simp at hsz
    simp only [List.length_append, List.length_cons, List.length_nil, Nat.zero_add]
    go_wp2
    refine bodyPost_ret (v := .tuple #[.agg #[.int .i64 room, .slice A' (l.length + 1) c', .int .u64 d], .int .i64 0]) (by simp [results, Try.results13, go_sem, p0, p1, p2]) rfl ?_
    refine ⟨A', c', by simp, HC'.out, HA'.out, ?_, ?_, fun ad h => by have := HB'.out ad h; omega⟩
    · exact (((HT'.out.set (fun ad h => by have := HB'.out ad h; simp; omega) _).set (fun ad h => by have := HB'.out ad h; simp; omega) _).set (fun ad h => by have := HB'.out ad h; simp; omega) _).set (fun ad h => by have := HB'.out ad h; simp; omega) _
    · refine ((((Below.setCell ?_ ?_ _).setCell ?_ _).setCell ?_ _).setCell ?_ _)
      · exact ((((Below.refl _ _).alloc (Nat.le_refl _) _).alloc (by simp) _).alloc (by simp; omega) _).grown HG.out (by simp; omega) (by simp)
      all_goals simp

theorem new_bad (room : Int) (w : World) (h : room < 1 ∨ 64 < room) :
    Calls Try.prog 12 #[.int .i64 room] w fun e w' => e = .returned (.tuple #[.agg #[.int .i64 0, .slice none 0 0, .int .u64 0], .int .i64 7]) ∧ Below w.heap.size w w' := by
  have hu26 := Try.underlying26
  rcases h with h | h
  · go_enter Try.func12, Try.ntmps12
    go_wp2
    refine bodyPost_ret (v := .tuple #[.agg #[.int .i64 0, .slice none 0 0, .int .u64 0], .int .i64 7]) (by simp [results, Try.results12, go_sem]) rfl ⟨rfl, ?_⟩
    exact (Below.refl _ _).alloc (Nat.le_refl _) _
  · have h' : ¬ room < 1 := by omega
    go_enter Try.func12, Try.ntmps12
    go_wp2
    refine bodyPost_ret (v := .tuple #[.agg #[.int .i64 0, .slice none 0 0, .int .u64 0], .int .i64 7]) (by simp [results, Try.results12, go_sem]) rfl ⟨rfl, ?_⟩
    exact (Below.refl _ _).alloc (Nat.le_refl _) _

theorem new_good (room : Int) (w : World) (h1 : 1 ≤ room) (h2 : room ≤ 64) :
    Calls Try.prog 12 #[.int .i64 room] w fun e w' => e = .returned (.tuple #[.agg #[.int .i64 room, .slice none 0 0, .int .u64 0], .int .i64 0]) ∧ Below w.heap.size w w' := by
  have hu26 := Try.underlying26
  go_enter Try.func12, Try.ntmps12
  go_wp2
  refine bodyPost_ret (v := .tuple #[.agg #[.int .i64 room, .slice none 0 0, .int .u64 0], .int .i64 0]) (by simp [results, Try.results12, go_sem]) rfl ⟨rfl, ?_⟩
  exact (Below.refl _ _).alloc (Nat.le_refl _) _

theorem len_any (room d : Int) (A : Option Addr) (n c : Nat) (w : World) :
    Calls Try.prog 15 #[.agg #[.int .i64 room, .slice A n c, .int .u64 d]] w fun e w' => e = .returned (.int .i64 n) ∧ Below w.heap.size w w' := by
  have hu26 := Try.underlying26
  go_enter Try.func15, Try.ntmps15
  go_wp2
  go_ret
  exact ⟨rfl, (Below.refl _ _).alloc (Nat.le_refl _) _⟩

theorem dropped_any (room d : Int) (A : Option Addr) (n c : Nat) (w : World) :
    Calls Try.prog 16 #[.agg #[.int .i64 room, .slice A n c, .int .u64 d]] w fun e w' => e = .returned (.int .u64 d) ∧ Below w.heap.size w w' := by
  have hu26 := Try.underlying26
  go_enter Try.func16, Try.ntmps16
  go_wp2
  go_ret
  exact ⟨rfl, (Below.refl _ _).alloc (Nat.le_refl _) _⟩

theorem take_none (room d : Int) (A : Option Addr) (c : Nat) (w : World) :
    Calls Try.prog 14 #[.agg #[.int .i64 room, .slice A 0 c, .int .u64 d]] w fun e w' => e = .returned (.tuple #[.agg #[.int .i64 room, .slice A 0 c, .int .u64 d], .string ⟨#[]⟩, .bool false]) ∧ Below w.heap.size w w' := by
  have hu26 := Try.underlying26
  go_enter Try.func14, Try.ntmps14
  go_wp2
  refine bodyPost_ret (v := .tuple #[.agg #[.int .i64 room, .slice A 0 c, .int .u64 d], .string ⟨#[]⟩, .bool false]) (by simp [results, Try.results14, go_sem]) rfl ⟨rfl, ?_⟩
  exact ((Below.refl _ _).alloc (Nat.le_refl _) _).alloc (by simp) _

def TakePost (A : Option Addr) (room d : Int) (x : ByteArray) (l : List ByteArray) (w : World) (e : Ending) (w' : World) : Prop :=
  ∃ A' c', e = .returned (.tuple #[.agg #[.int .i64 room, .slice A' l.length c', .int .u64 d], .string x, .bool true]) ∧ l.length ≤ c' ∧ (A' = none → c' = 0) ∧ Txt w' A' l ∧ Below w.heap.size w w' ∧ ∀ ad', A' = some ad' → ∃ ad, A = some ad ∧ ad'.block = ad.block

theorem take_some (room d : Int) (A : Option Addr) (c : Nat) (x : ByteArray) (l : List ByteArray) (w : World) (hl : l.length ≤ 1000000) (hc : l.length + 1 ≤ c) (ht : Txt w A (x :: l)) :
    Calls Try.prog 14 #[.agg #[.int .i64 room, .slice A (l.length + 1) c, .int .u64 d]] w (TakePost A room d x l w) := by
  have hu26 := Try.underlying26
  obtain ⟨ad, rfl, hx0⟩ := ht 0 x rfl
  have hx : w.cell? ad = some (.string x) := hx0
  have hlt := World.block_lt_of_cell? w ad hx
  clear hx0
  have HT := Aside0.mk ht
  clear ht
  go_enter Try.func14, Try.ntmps14
  go_wp2
  · have hl0 : l = [] := List.eq_nil_of_length_eq_zero (by omega)
    subst hl0
    refine bodyPost_ret (v := .tuple #[.agg #[.int .i64 room, .slice (some ad) 0 0, .int .u64 d], .string x, .bool true]) (by simp [results, Try.results14, go_sem]) rfl ?_
    exact ⟨some ad, 0, rfl, Nat.le_refl _, by simp, fun i s hi => by simp at hi, ((Below.refl _ _).alloc (Nat.le_refl _) _).alloc (by simp) _, fun ad' h => ⟨ad', h, rfl⟩⟩
  · refine bodyPost_ret (v := .tuple #[.agg #[.int .i64 room, .slice (some ⟨ad.block, ad.off + 1, none⟩) l.length (c - 1), .int .u64 d], .string x, .bool true]) (by simp [results, Try.results14, go_sem]) rfl ?_
    have hb := ((Below.refl w.heap.size w).alloc (Nat.le_refl _) (Obj.cells #[Value.int IntKind.i64 room, Value.slice (some ⟨ad.block, ad.off + 1, none⟩) l.length (c - 1), Value.int IntKind.u64 d] 26)).alloc (by simp) (Obj.cells #[Value.int IntKind.i64 room, Value.slice (some ⟨ad.block, ad.off + 1, none⟩) l.length (c - 1), Value.int IntKind.u64 d] 26)
    exact ⟨some ⟨ad.block, ad.off + 1, none⟩, c - 1, rfl, by omega, by simp, HT.out.tail.below hb, hb, fun ad' h => ⟨ad, rfl, by obtain rfl := Option.some.inj h; rfl⟩⟩
end Go.Proofs.Ytihhclgjjgakpaa.Inbox
