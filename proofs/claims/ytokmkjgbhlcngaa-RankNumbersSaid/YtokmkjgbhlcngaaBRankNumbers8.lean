/- What leads to RankNumbers: the functions' contracts and the plain laws under them. -/
import Derived.Below
import Derived.BigQuiet
import Derived.Deep.Cut
import Derived.Deep.DrawnRows
import Derived.Deep.LoopGhost
import Derived.Deep.RegionHeld3
import Derived.Great.Walk
import Derived.KernelRfl
import Derived.Laws.AppendOwn
import Derived.Laws.IdiomCopy
import Derived.Lib.Hide
import Derived.Lib.QuietBelow
import Derived.Lib.Walk
import Derived.Outline
import Derived.OwnWalk
import Derived.Sort.Grow
import Derived.Test.YtokmkjgbhlcngaaProg
import Derived.WalkKit
import Derived.Test.YtokmkjgbhlcngaaVRankNumbers0
import Derived.Test.YtokmkjgbhlcngaaVRankNumbers1
import Derived.Test.YtokmkjgbhlcngaaBRankNumbers0
import Derived.Test.YtokmkjgbhlcngaaBRankNumbers1
import Derived.Test.YtokmkjgbhlcngaaBRankNumbers2
import Derived.Test.YtokmkjgbhlcngaaBRankNumbers3
import Derived.Test.YtokmkjgbhlcngaaBRankNumbers4
import Derived.Test.YtokmkjgbhlcngaaBRankNumbers5
import Derived.Test.YtokmkjgbhlcngaaBRankNumbers6
import Derived.Test.YtokmkjgbhlcngaaBRankNumbers7
namespace Go.Proofs.Ytokmkjgbhlcngaa.Ap
open Go.RowKit
set_option linter.all false

/-- v is a slice of n elements (K cells each, type e) whose cells are xs; it lies at the head of a block from B on, that has room for its capacity at least. -/
def ownW (w : World) (B : Nat) (e : TypeId) (K : Nat) (v : Value) (n : Nat) (xs : List Value) : Prop :=
  xs.length = n * K ∧
  ((v = .slice none 0 0 ∧ n = 0) ∨
   ∃ g cap cur, v = .slice (some ⟨g, 0, none⟩) n cap ∧ B ≤ g ∧ w.heap[g]? = some (.cells cur e (0, 0)) ∧ n ≤ cap ∧ cap ≤ maxLen ∧ cap * K ≤ cur.size ∧ cur.toList.take (n * K) = xs)
theorem ownW_of {w : World} {B : Nat} {e : TypeId} {K : Nat} {v : Value} {n : Nat} {xs : List Value} (h : w.ownsRow B e K v n xs) : ownW w B e K v n xs := by
  refine ⟨h.1, ?_⟩
  rcases h.2 with h | ⟨g, cap, cur, h1, h2, h3, h4, h5, h6, h7⟩
  · exact .inl h
  · exact .inr ⟨g, cap, cur, h1, h2, h3, h4, h5, Nat.le_of_eq h6.symm, h7⟩
section
variable {w w' : World} {B : Nat} {e : TypeId} {K : Nat} {v v' : Value} {n n' : Nat} {xs xs' : List Value}
theorem ownW.lt (h : ownW w B e K v n xs) : ∀ k, v.ownBlock = some k → B ≤ k ∧ k < w.heap.size := by
  intro k hk
  rcases h.2 with ⟨rfl, _⟩ | ⟨g, cap, cur, rfl, hb, hg, _⟩
  · simp [Value.ownBlock] at hk
  · simp [Value.ownBlock] at hk
    subst hk
    exact ⟨hb, (Array.getElem?_eq_some_iff.1 hg).1⟩
theorem ownW.typed (h : ownW w B e K v n xs) {g : Nat} (hg : v.ownBlock = some g) : ∃ cur, w.heap[g]? = some (.cells cur e (0, 0)) := by
  rcases h.2 with ⟨rfl, _⟩ | ⟨g', cap, cur, rfl, hb, hgg, _⟩
  · simp [Value.ownBlock] at hg
  · simp [Value.ownBlock] at hg
    subst hg
    exact ⟨cur, hgg⟩
theorem ownW.keep (h : ownW w B e K v n xs) (hm : ∀ k, v.ownBlock = some k → w'.heap[k]? = w.heap[k]?) : ownW w' B e K v n xs := by
  refine ⟨h.1, ?_⟩
  rcases h.2 with hn | ⟨g, cap, cur, rfl, hb, hgg, rest⟩
  · exact .inl hn
  · exact .inr ⟨g, cap, cur, rfl, hb, (hm g (by simp [Value.ownBlock])).trans hgg, rest⟩
theorem ownW.kept {row : Option Nat} (h : ownW w B e K v n xs) (hg : w.grownBy w' row) (hne : ∀ k, v.ownBlock = some k → some k ≠ row) : ownW w' B e K v n xs :=
  h.keep (fun k hk => hg.block k (h.lt k hk).2 (hne k hk))
theorem ownW.below (h : ownW w B e K v n xs) (hb : Below w.heap.size w w') : ownW w' B e K v n xs := h.keep (fun k hk => hb.block k (h.lt k hk).2)
theorem ownW.slice (h : ownW w B e K v n xs) : ∃ A c, v = .slice A n c ∧ n ≤ c ∧ (0 < n → ∃ g, A = some ⟨g, 0, none⟩) := by
  rcases h.2 with ⟨rfl, rfl⟩ | ⟨g, cap, cur, rfl, -, -, h1, -⟩
  · exact ⟨none, 0, rfl, Nat.le_refl _, fun h => by omega⟩
  · exact ⟨_, cap, rfl, h1, fun _ => ⟨g, rfl⟩⟩
theorem ownW.cells (h : ownW w B e K v n xs) {g : Nat} (hg : v.ownBlock = some g) : ∀ j u, xs[j]? = some u → w.cell? ⟨g, j, none⟩ = some u := by
  intro j u hu
  rcases h.2 with ⟨rfl, _⟩ | ⟨g', cap, cur, rfl, _, hgg, _, _, _, htake⟩
  · simp [Value.ownBlock] at hg
  · simp [Value.ownBlock] at hg
    subst hg
    rw [cell_of_row w g' j cur e (0, 0) hgg]
    rw [← htake, List.getElem?_take] at hu
    split at hu
    · simpa using hu
    · cases hu
theorem ownW.frozen (h : ownW w B e K v n xs) {g : Nat} (hg : v.ownBlock = some g) (j : Nat) : w.frozen? ⟨g, j, none⟩ = false := by
  obtain ⟨cur, hc⟩ := h.typed hg
  simp [World.frozen?, hc]
end

theorem grown_refl (w : World) (row : Option Nat) : w.grownBy w row := ⟨rfl, rfl, rfl, Nat.le_refl _, fun _ _ _ => rfl⟩
theorem grown_trans {w w1 w2 : World} {row : Option Nat} (h : w.grownBy w1 row) (k : w1.grownBy w2 row) : w.grownBy w2 row :=
  ⟨k.os.trans h.os, k.tape.trans h.tape, k.output.trans h.output, Nat.le_trans h.size k.size, fun i hi hne => (k.block i (Nat.lt_of_lt_of_le hi h.size) hne).trans (h.block i hi hne)⟩
theorem grown_below {w w1 : World} (h : Below w.heap.size w w1) (row : Option Nat) : w.grownBy w1 row := ⟨h.os, h.tape, h.output, h.size, fun i hi _ => h.block i hi⟩
theorem below_grown {B : Nat} {w0 w w1 : World} {row : Option Nat} (hb : Below B w0 w) (hg : w.grownBy w1 row) (hs : B ≤ w.heap.size) (hr : ∀ k, row = some k → B ≤ k) : Below B w0 w1 :=
  ⟨hg.os.trans hb.os, hg.tape.trans hb.tape, hg.output.trans hb.output, Nat.le_trans hb.size hg.size, fun i hi => (hg.block i (Nat.lt_of_lt_of_le hi hs) (fun e => by have := hr i e.symm; omega)).trans (hb.block i hi)⟩

theorem setCells_block (w : World) (g : Nat) (e : TypeId) : ∀ (cs : List Value) (o : Nat) (cur : Array Value), w.heap[g]? = some (.cells cur e (0, 0)) → o + cs.length ≤ cur.size →
    ∃ cur', (w.setCells g o cs).heap[g]? = some (.cells cur' e (0, 0)) ∧ cur'.size = cur.size ∧ ∀ j, cur'[j]? = if o ≤ j ∧ j < o + cs.length then cs[j - o]? else cur[j]? := by
  intro cs
  induction cs generalizing w with
  | nil =>
    intro o cur h _
    refine ⟨cur, h, rfl, fun j => ?_⟩
    rw [if_neg (by simp)]
  | cons c r ih =>
    intro o cur h hl
    rw [List.length_cons] at hl
    have h1 : (w.setCell ⟨g, o, none⟩ c).heap[g]? = some (.cells (cur.setIfInBounds o c) e (0, 0)) := by
      simp [World.setCell, Array.getElem?_modify, h]
    obtain ⟨cur', a, b, d⟩ := ih (w.setCell ⟨g, o, none⟩ c) (o + 1) (cur.setIfInBounds o c) h1 (by rw [Array.size_setIfInBounds]; omega)
    refine ⟨cur', by unfold World.setCells; exact a, by rw [b, Array.size_setIfInBounds], fun j => ?_⟩
    rw [d j, List.length_cons]
    by_cases c1 : o + 1 ≤ j ∧ j < o + 1 + r.length
    · rw [if_pos c1, if_pos (by omega), show j - o = (j - (o + 1)) + 1 by omega, List.getElem?_cons_succ]
    · rw [if_neg c1, Array.getElem?_setIfInBounds]
      by_cases c2 : o = j
      · subst c2
        rw [if_pos rfl, if_pos (by omega), if_pos (by omega), Nat.sub_self, List.getElem?_cons_zero]
      · rw [if_neg c2, if_neg (by omega)]
theorem setCells_other (w : World) (g : Nat) : ∀ (cs : List Value) (o k : Nat), k ≠ g → (w.setCells g o cs).heap[k]? = w.heap[k]? := by
  intro cs
  induction cs generalizing w with
  | nil => intro o k _; rfl
  | cons c r ih =>
    intro o k hk
    unfold World.setCells
    rw [ih _ (o + 1) k hk]
    exact Below.heap_setCell w ⟨g, o, none⟩ c k hk
theorem setCells_grown (w : World) (g : Nat) (cs : List Value) (o : Nat) : w.grownBy (w.setCells g o cs) (some g) := by
  have : ∀ (cs : List Value) (w : World) (o : Nat), (w.setCells g o cs).os = w.os ∧ (w.setCells g o cs).tape = w.tape ∧ (w.setCells g o cs).output = w.output ∧ (w.setCells g o cs).heap.size = w.heap.size := by
    intro cs
    induction cs with
    | nil => intro w o; exact ⟨rfl, rfl, rfl, rfl⟩
    | cons c r ih =>
      intro w o
      unfold World.setCells
      obtain ⟨a, b, d, f⟩ := ih (w.setCell ⟨g, o, none⟩ c) (o + 1)
      exact ⟨a.trans rfl, b.trans rfl, d.trans rfl, f.trans (by simp)⟩
  obtain ⟨a, b, d, f⟩ := this cs w o
  exact ⟨a, b, d, Nat.le_of_eq f.symm, fun k hk hne => setCells_other w g cs o k (fun h => hne (by rw [h]))⟩
/-- The row's list with some cells laid over. -/
def over (xs : List Value) (o : Nat) (cs : List Value) : List Value := xs.take o ++ cs ++ xs.drop (o + cs.length)
theorem over_get (xs cs : List Value) (o j : Nat) (ho : o + cs.length ≤ xs.length) : (over xs o cs)[j]? = if o ≤ j ∧ j < o + cs.length then cs[j - o]? else xs[j]? := by
  unfold over
  by_cases c1 : j < o
  · rw [List.getElem?_append_left (by rw [List.length_append, List.length_take]; omega), List.getElem?_append_left (by rw [List.length_take]; omega), List.getElem?_take, if_pos c1, if_neg (by omega)]
  · by_cases c2 : j < o + cs.length
    · rw [List.getElem?_append_left (by rw [List.length_append, List.length_take]; omega), List.getElem?_append_right (by rw [List.length_take]; omega), if_pos (by omega), List.length_take, Nat.min_eq_left (by omega)]
    · rw [List.getElem?_append_right (by rw [List.length_append, List.length_take]; omega), List.getElem?_drop, if_neg (by omega), List.length_append, List.length_take, Nat.min_eq_left (by omega), show o + cs.length + (j - (o + cs.length)) = j by omega]
theorem ownW_store {w : World} {B : Nat} {e : TypeId} {K : Nat} {g n cap : Nat} {xs : List Value} (h : ownW w B e K (.slice (some ⟨g, 0, none⟩) n cap) n xs) (i : Nat) (hi : i < n) (cs : List Value) (hc : cs.length = K) :
    ownW (w.setCells g (i * K) cs) B e K (.slice (some ⟨g, 0, none⟩) n cap) n (over xs (i * K) cs) := by
  have hik : i * K + K ≤ n * K := by rw [← Nat.succ_mul]; exact Nat.mul_le_mul_right K hi
  rcases h.2 with ⟨hv, _⟩ | ⟨g', cap', cur, hv, hb, hg, h1, h2, h3, h4⟩
  · cases hv
  · simp only [Value.slice.injEq, Option.some.injEq, Addr.mk.injEq] at hv
    obtain ⟨⟨rfl, -, -⟩, -, rfl⟩ := hv
    have hnc : n * K ≤ cap * K := Nat.mul_le_mul_right K h1
    obtain ⟨cur', a, b, d⟩ := setCells_block w g e cs (i * K) cur hg (by rw [hc]; omega)
    have hxl := h.1
    refine ⟨?_, .inr ⟨g, cap, cur', rfl, hb, a, h1, h2, by rw [b]; exact h3, ?_⟩⟩
    · unfold over
      rw [List.length_append, List.length_append, List.length_take, List.length_drop, hc, hxl]
      omega
    · apply List.ext_getElem?
      intro j
      rw [over_get xs cs (i * K) j (by rw [hc, hxl]; exact hik), List.getElem?_take, Array.getElem?_toList, d j, ← h4, List.getElem?_take, Array.getElem?_toList]
      by_cases c2 : i * K ≤ j ∧ j < i * K + cs.length
      · rw [if_pos c2, if_pos c2, if_pos (by rw [hc] at c2; omega)]
      · rw [if_neg c2, if_neg c2, Array.getElem?_toList]

section
variable {P : Program}
theorem run_append_ownW (w : World) (B : Nat) (t ty e : TypeId) (i : TypeInfo) (z : Value) (K bytes : Nat) (ht : P.underlying t = some (.slice e)) (hi : P.info? e = some i) (hz : i.zero = some z)
    (hsize : i.size = K) (hby : i.bytes = bytes) (hzs : z.cells.size = K) (hsz : 0 < K)
    (v : Value) (n : Nat) (xs : List Value) (hown : ownW w B e K v n xs)
    (a : Addr) (m c : Nat) (news : List Value) (hl : news.length = m * K) (hnews : ∀ j u, news[j]? = some u → w.cell? (a.add j) = some u) (h1 : ∀ u ∈ news, u.oneCell' = true) (hm : 0 < m)
    (h63 : n + m ≤ maxLen) (hbytes : (n + m) * bytes ≤ 140737488355328) (hbase : B ≤ w.heap.size) :
    ∃ v' w', (Builtin.append_ #[t, t] ty #[v, .slice (some a) m c]).run P w = .ok v' w' ∧ ownW w' B e K v' (n + m) (xs ++ news) ∧ w.grownBy w' v.ownBlock ∧
      ((∃ g, v.ownBlock = some g ∧ v'.ownBlock = some g) ∨ (v'.ownBlock = some w.heap.size ∧ w.grownBy w' none)) ∧
      (∀ u nu us, u.ownBlock = v.ownBlock → nu ≤ n → ownW w B e K u nu us → ownW w' B e K u nu us) := by
  subst hsize
  subst hby
  have hsmall : n + m ≤ 9223372036854775807 := by simp only [maxLen] at h63; omega
  have hlen : (xs ++ news).length = (n + m) * i.size := by rw [List.length_append, hown.1, hl, Nat.add_mul]
  have grown : ∀ (old : Nat), old < n + m →
      ownW (w.drew.alloc (.cells (xs.toArray ++ news.toArray ++ Builtin.zeroCells z.cells (grownCap w (n + m) old e - (n + m))) e)) B e i.size
        (.slice (some ⟨w.heap.size, 0, none⟩) (n + m) (grownCap w (n + m) old e)) (n + m) (xs ++ news) ∧
      ∀ row, w.grownBy (w.drew.alloc (.cells (xs.toArray ++ news.toArray ++ Builtin.zeroCells z.cells (grownCap w (n + m) old e - (n + m))) e)) row := by
    intro old ho
    have hge := grownCap_ge w (n + m) old e
    have hcm : grownCap w (n + m) old e ≤ maxLen := grownCap_le_maxLen w (n + m) old e h63
    refine ⟨⟨hlen, .inr ⟨w.heap.size, _, _, rfl, hbase, heap_alloc_new w.drew _, hge, hcm, ?_, ?_⟩⟩, fun row => ⟨rfl, rfl, rfl, by simp, fun k hk _ => Below.heap_alloc w.drew _ k hk⟩⟩
    · apply Nat.le_of_eq
      simp only [Array.size_append, List.size_toArray, size_zeroCells, hzs, hown.1, hl, ← Nat.add_mul]
      congr 1
      omega
    · simp only [Array.toList_append, List.append_assoc]
      rw [← List.append_assoc, ← hlen]
      exact List.take_left
  have keepAll : ∀ {w' : World}, w.grownBy w' none → ∀ u nu us, u.ownBlock = v.ownBlock → nu ≤ n → ownW w B e i.size u nu us → ownW w' B e i.size u nu us :=
    fun hg u nu us _ _ hu => hu.kept hg (fun k _ => by simp)
  rcases hown.2 with ⟨rfl, rfl⟩ | ⟨g, cap, cur, rfl, hbg, hg, hnc, hcm, hcs, htake⟩
  · have hx : xs = [] := List.eq_nil_of_length_eq_zero (by simpa using hown.1)
    subst hx
    have hr := run_append_nil (P := P) w t ty e i z ht hi hz a m c news hl hnews hm (by omega) (by have hb := hbytes; simp only [Nat.zero_add] at hb; omega)
    have hgr := grown 0 (by omega)
    simp only [Nat.zero_add, List.nil_append, Array.empty_append] at hgr ⊢
    exact ⟨_, _, hr, hgr.1, hgr.2 _, .inr ⟨by simp [Value.ownBlock], hgr.2 none⟩, fun u nu us hu hnu how => how.kept (hgr.2 none) (fun k _ => by simp)⟩
  · by_cases hroom : n + m ≤ cap
    · have hmul : (n + m) * i.size ≤ cap * i.size := Nat.mul_le_mul_right _ hroom
      have hfit : n * i.size + news.length ≤ cur.size := by rw [hl, ← Nat.add_mul]; omega
      have hr := run_append_room (P := P) w t ty e i ht hi g n cap cur hg a m c news hl hnews h1 hroom hfit
      refine ⟨_, _, hr, ⟨hlen, .inr ⟨g, cap, _, rfl, hbg, setRow_heap w g cur _ e _ hg, hroom, hcm, ?_, ?_⟩⟩, ⟨rfl, rfl, rfl, by simp, fun k _ hk => setRow_other w g k _ (fun e => hk (by simp [Value.ownBlock, e]))⟩, .inl ⟨g, by simp [Value.ownBlock], by simp [Value.ownBlock]⟩, ?_⟩
      · simp only [List.size_toArray, List.length_append, List.length_take, List.length_drop, Array.length_toList]
        omega
      · rw [htake, ← hlen]
        exact List.take_left
      · intro u nu us hu hnu how
        refine ⟨how.1, ?_⟩
        rcases how.2 with hz' | ⟨g2, cap2, cur2, rfl, hb2, hg2, h2a, h2b, h2c, h2d⟩
        · exact .inl hz'
        · have e2 : g2 = g := by simpa [Value.ownBlock] using hu
          subst e2
          rw [hg] at hg2
          have e3 : cur = cur2 := by simpa using hg2
          subst e3
          refine .inr ⟨g2, cap2, _, rfl, hb2, setRow_heap w g2 cur _ e _ hg, h2a, h2b, ?_, ?_⟩
          · simp only [List.size_toArray, List.length_append, List.length_take, List.length_drop, Array.length_toList]
            omega
          · have hnk : nu * i.size ≤ n * i.size := Nat.mul_le_mul_right _ hnu
            rw [← h2d, List.append_assoc, List.take_append_of_le_length (by rw [List.length_take, Array.length_toList]; omega), List.take_take, Nat.min_eq_left hnk]
    · have holds : ∀ j u, xs[j]? = some u → w.cell? ((⟨g, 0, none⟩ : Addr).add j) = some u := by
        intro j u hu
        have hadd : (⟨g, 0, none⟩ : Addr).add j = ⟨g, j, none⟩ := by unfold Addr.add; split <;> simp_all
        rw [hadd]
        exact hown.cells (g := g) (by simp [Value.ownBlock]) j u hu
      have hr := run_append_grow (P := P) w t ty e i z ht hi hz ⟨g, 0, none⟩ n cap xs hown.1 holds a m c news hl hnews (by omega) (by omega) (growslice_fits (by omega) hbytes)
      have hgr := grown cap (by omega)
      exact ⟨_, _, hr, hgr.1, hgr.2 _, .inr ⟨by simp [Value.ownBlock], hgr.2 none⟩, keepAll (hgr.2 none)⟩
theorem wp_append_ownW {o : Oper} {a : Act} {K : Act → World → Prop} {Q : Exit → Act → World → Prop} (w : World) (s x : Operand) (t : TypeId)
    (ho : o.op = .call { callee := .builtin .append, args := #[s, x], argTypes := #[t, t] })
    (B : Nat) (e : TypeId) (z : Value) (size bytes : Nat) (ht : P.underlying t = some (.slice e)) (hinfo : (P.info? e).map (fun i => (i.zero, i.size, i.bytes)) = some (some z, size, bytes)) (hzs : z.cells.size = size) (hsz : 0 < size)
    (v : Value) (n : Nat) (xs : List Value) (hs : a.eval s = v) (hown : ownW w B e size v n xs)
    (ad : Addr) (m c : Nat) (news : List Value) (hx : a.eval x = .slice (some ad) m c) (hl : news.length = m * size) (hnews : ∀ j u, news[j]? = some u → w.cell? (ad.add j) = some u) (h1 : ∀ u ∈ news, u.oneCell' = true) (hm : 0 < m)
    (h63 : n + m ≤ maxLen) (hbytes : (n + m) * bytes ≤ 140737488355328) (hbase : B ≤ w.heap.size)
    (h : ∀ v' w', ownW w' B e size v' (n + m) (xs ++ news) → w.grownBy w' v.ownBlock → ((∃ g, v.ownBlock = some g ∧ v'.ownBlock = some g) ∨ (v'.ownBlock = some w.heap.size ∧ w.grownBy w' none)) →
      (∀ u nu us, u.ownBlock = v.ownBlock → nu ≤ n → ownW w B e size u nu us → ownW w' B e size u nu us) → K (a.put o.dst v') w') : o.wp P a w K Q := by
  obtain ⟨i, hi, hzz⟩ := Option.map_eq_some_iff.1 hinfo
  simp only [Prod.mk.injEq] at hzz
  obtain ⟨hz, hsize, hby⟩ := hzz
  obtain ⟨v', w', hr, h2, h3, h4, h5⟩ := run_append_ownW (P := P) w B t o.type e i z size bytes ht hi hz hsize hby hzs hsz v n xs hown ad m c news hl hnews h1 hm h63 hbytes hbase
  unfold Oper.wp execOp
  simp only [ho, resolve, invoke, builtin, Sem.run_bind, Sem.run_pure, Result.andThen_ok, List.map_toArray, List.map_cons, List.map_nil, hs, hx, hr]
  exact h v' w' h2 h3 h4 h5
theorem wpList_append_ownW {ops : Array Oper} {rest : List Oper} {o : Oper} {a : Act} {Q : Exit → Act → World → Prop} (w : World) (hgd : o.guard = none) (s x : Operand) (t : TypeId)
    (ho : o.op = .call { callee := .builtin .append, args := #[s, x], argTypes := #[t, t] })
    (B : Nat) (e : TypeId) (z : Value) (size bytes : Nat) (ht : P.underlying t = some (.slice e)) (hinfo : (P.info? e).map (fun i => (i.zero, i.size, i.bytes)) = some (some z, size, bytes)) (hzs : z.cells.size = size) (hsz : 0 < size)
    (v : Value) (n : Nat) (xs : List Value) (hs : a.eval s = v) (hown : ownW w B e size v n xs)
    (ad : Addr) (m c : Nat) (news : List Value) (hx : a.eval x = .slice (some ad) m c) (hl : news.length = m * size) (hnews : ∀ j u, news[j]? = some u → w.cell? (ad.add j) = some u) (h1 : ∀ u ∈ news, u.oneCell' = true) (hm : 0 < m)
    (h63 : n + m ≤ maxLen) (hbytes : (n + m) * bytes ≤ 140737488355328) (hbase : B ≤ w.heap.size)
    (h : ∀ v' w', ownW w' B e size v' (n + m) (xs ++ news) → w.grownBy w' v.ownBlock → ((∃ g, v.ownBlock = some g ∧ v'.ownBlock = some g) ∨ (v'.ownBlock = some w.heap.size ∧ w.grownBy w' none)) →
      (∀ u nu us, u.ownBlock = v.ownBlock → nu ≤ n → ownW w B e size u nu us → ownW w' B e size u nu us) → wpList P ops Q rest (a.put o.dst v') w') : wpList P ops Q (o :: rest) a w :=
  wpList_plain hgd fun _ hK => wp_append_ownW w s x t ho B e z size bytes ht hinfo hzs hsz v n xs hs hown ad m c news hx hl hnews h1 hm h63 hbytes hbase fun v' w' h2 h3 h4 h5 => hK _ _ (h v' w' h2 h3 h4 h5)
end
end Go.Proofs.Ytokmkjgbhlcngaa.Ap
namespace Go.Proofs.Ytokmkjgbhlcngaa.Ap
open Go.RowKit Go.Proofs.YtokmkjgbhlcngaaW.PrintWords Go.Proofs.YtokmkjgbhlcngaaW.PrintLast Go.Proofs.YtokmkjgbhlcngaaW.PrintMore
theorem ownW.base {w : World} {B B' : Nat} {e : TypeId} {K : Nat} {v : Value} {n : Nat} {xs : List Value} (h : ownW w B e K v n xs) (hB : B' ≤ B) : ownW w B' e K v n xs := by
  refine ⟨h.1, ?_⟩
  rcases h.2 with h | ⟨g, cap, cur, h1, h2, h3⟩
  · exact .inl h
  · exact .inr ⟨g, cap, cur, h1, Nat.le_trans hB h2, h3⟩
theorem ownW.cut {w : World} {B : Nat} {e : TypeId} {K : Nat} {A : Option Addr} {c n i : Nat} {xs : List Value} (h : ownW w B e K (.slice A n c) n xs) (hi : i < n) : ownW w B e K (.slice A i i) i (xs.take (i * K)) := by
  have hik : i * K ≤ n * K := Nat.mul_le_mul_right K (Nat.le_of_lt hi)
  refine ⟨by rw [List.length_take, h.1]; omega, ?_⟩
  rcases h.2 with ⟨-, h⟩ | ⟨g, cap, cur, h1, h2, h3, h4, h5, h6, h7⟩
  · omega
  · simp only [Value.slice.injEq] at h1
    obtain ⟨rfl, -, rfl⟩ := h1
    refine .inr ⟨g, i, cur, rfl, h2, h3, Nat.le_refl _, by omega, Nat.le_trans (Nat.mul_le_mul_right K (by omega)) h6, ?_⟩
    rw [← h7, List.take_take, Nat.min_eq_left hik]
theorem own_R {α : Type} {d : Kd α} {e base : Nat} {W : World} {ok : Nat → Prop} {v : Value} {xs : List α} (h : Kd.R d e W base ok v xs) : ∃ ys, ownW W base e d.sz v xs.length ys := by
  obtain ⟨-, ys, hy, -⟩ := h
  exact ⟨ys, ownW_of hy⟩
end Go.Proofs.Ytokmkjgbhlcngaa.Ap
namespace Go.Proofs.Ytokmkjgbhlcngaa.Q
open Go.RowKit Go.Sort Go.Proofs Go.Proofs.YtokmkjgbhlcngaaW.PrintWords Go.Proofs.YtokmkjgbhlcngaaW.PrintLast Go.Proofs.YtokmkjgbhlcngaaW.PrintMore Go.Proofs.Ytokmkjgbhlcngaa.G
set_option linter.all false
set_option maxHeartbeats 4000000 in
set_option maxRecDepth 100000 in
theorem rank_Ahead.own (A0 : Option Addr) (c0 : Nat) (l0 : List S24) (id : Int) (r : List S24) (w : World) (hr0 : Kd.C k24 w A0 l0.length l0) (hc0 : l0.length ≤ c0) (h : rank_Ahead.f l0 id = some r) :
    Calls Try.prog 16 #[.slice A0 l0.length c0, .int .i64 id] w fun e w' => ∃ v0_ : Value, e = .returned (v0_) ∧ Kd.V k24 24 w' w.heap.size (fun k_ => w.heap.size ≤ k_) v0_ r ∧ RowKit.Below w.heap.size w w' ∧ ∃ ys, Ap.ownW w' w.heap.size 24 8 v0_ r.length ys := by
  unfold rank_Ahead.f at h
  by_cases hl : l0.length ≤ 1000000
  · rw [if_pos hl] at h
    obtain rfl := Option.some.inj h
    clear h
    have HO : ∀ W : World, RowKit.Below w.heap.size w W → Calls Try.prog 15 #[.slice A0 l0.length c0] W fun e w' => ∃ v0_ : Value, e = .returned (v0_) ∧ Kd.R k24 24 w' W.heap.size (fun _ => True) v0_ (stabl (ltOf lineCmp) (openL l0)) ∧ RowKit.Below W.heap.size W w' := fun W hb =>
      rank_Open.calls A0 c0 l0 _ W (Kd.C_below hr0 hb) hc0 (by unfold rank_Open.f; rw [if_pos hl])
    have HO' := Lib.hid HO
    have hlen : (stabl (ltOf lineCmp) (openL l0)).length ≤ 1000000 := by rw [stabl_length]; exact Nat.le_trans (List.length_filter_le _ _) hl
    clear hr0 hc0 hl HO
    generalize stabl (ltOf lineCmp) (openL l0) = all at HO' hlen
    have hb0 := below_alloc (Below.refl w.heap.size w) (Obj.cells #[.int .i64 id] 3)
    have HC := Lib.hid (HO'.out _ hb0)
    have HB0 := Lib.hid hb0
    have HLN := Lib.hid hlen
    clear HO' hb0 hlen
    go_enter Try.func16, Try.ntmps16
    go_wp2_with fail
    refine HC.out.mono ?_
    rintro e w1 ⟨v, rfl, hR, hb⟩
    obtain ⟨A, c, rfl, hlc, hCC⟩ := Kd.R_reads hR
    have hown : ∃ ys, Ap.ownW w1 w.heap.size 24 8 (.slice A all.length c) all.length ys := (Ap.own_R hR).imp fun ys h => h.base HB0.out.size
    have HOWN := Lib.hid hown
    have hF := Kd.R_F (Kd.R_mono (V_true hR) (ok' := fun k_ => w.heap.size ≤ k_) (fun k hk => Nat.le_trans HB0.out.size hk))
    have hsz : w.heap.size < w1.heap.size := by have := hb.size; simp at this; omega
    have hcell : w1.cell? ⟨w.heap.size, 0, none⟩ = some (.int .i64 id) := by
      rw [hb.cell (p := ⟨w.heap.size, 0, none⟩) (by simp)]; simp
    have hix := index_line (fun x => x.f0 == id) 37 #[.pointer (some ⟨w.heap.size, 0, none⟩)] A c all w1 eg_ahead1 (fun W x hbW => ahead_1.calls id w.heap.size x W (by rw [hbW.cell (p := ⟨w.heap.size, 0, none⟩) hsz]; exact hcell)) hCC HLN.out
    have HIX := Lib.hid hix
    have HF := Lib.hid hF
    have HB1 := Lib.hid (below_then HB0.out HB0.out.size hb)
    clear hR hCC hF hix hb hcell hsz
    by_cases hi : idxP (fun x : S24 => x.f0 == id) all 0 = -1
    · have HA : Hid (aheadL all id = []) := (show _ = _ from by unfold aheadL; rw [if_pos (by rw [hi]; decide)])
      rw [hi] at HIX
      clear hi
      go_wp2_with fail
      refine HIX.out.mono ?_
      rintro e w2 ⟨rfl, hb2⟩
      have HB2 := Lib.hid (below_then HB1.out HB1.out.size hb2)
      clear hb2
      go_wp2_with fail
      go_ret
      exact ⟨_, rfl, by rw [HA.out]; exact Kd.V_nil _ _ _ _ _, HB2.out, ⟨[], by rw [HA.out]; exact ⟨rfl, .inl ⟨rfl, rfl⟩⟩⟩⟩
    · obtain ⟨i, hi1, hi2, -⟩ := idxP_some (fun x : S24 => x.f0 == id) all 0 hi
      rw [Nat.zero_add] at hi2
      have HA : Hid (aheadL all id = all.take i) := (show _ = _ from by unfold aheadL; rw [hi2, if_neg (by omega), Int.toNat_natCast])
      rw [hi2] at HIX
      clear hi hi2
      have hz0 : ¬ (i : Int) < 0 := by omega
      have hz1 : (0 : Int) ≤ (i : Int) := by omega
      have hz2 : (i : Int) ≤ (c : Int) := by omega
      go_wp2_with fail
      refine HIX.out.mono ?_
      rintro e w2 ⟨rfl, hb2⟩
      have HB2 := Lib.hid (below_then HB1.out HB1.out.size hb2)
      have HBQ := Lib.hid hb2
      have HF2 := Lib.hid (Kd.F_take (Kd.F_below HF.out hb2) (m := i) (by omega))
      have HL := Lib.hid (show (all.take i).length = i from by rw [List.length_take]; omega)
      clear hb2
      go_wp2_with fail
      go_ret
      refine ⟨_, rfl, ?_, HB2.out, ?_⟩
      rotate_left
      · obtain ⟨ys, hy⟩ := HOWN.out
        rw [HA.out, HL.out]
        exact ⟨_, ((hy.below HBQ.out).cut (by omega))⟩
      have h1 := HF2.out
      have h2 := HL.out
      rw [HA.out]
      have := Kd.V_mk (c := i) (e := 24) (base := w.heap.size) (by omega) h1
      rw [h2] at this
      exact this
  · rw [if_neg hl] at h; cases h
end Go.Proofs.Ytokmkjgbhlcngaa.Q
namespace Go.Proofs.Ytokmkjgbhlcngaa.Ap
open Go.RowKit Go.Sort Go.Lib Go.Proofs
set_option linter.all false
/-- The mark of a place. -/
def mk (k i : Int) : Int := wrap64 (wrap64 (1000003 * wrap64 (k + 7)) + i)
set_option maxHeartbeats 4000000 in
theorem mark_runs (k i : Int) (W : World) : Calls Try.prog 41 #[.int .i64 k, .int .i64 i] W fun e w' => e = .returned (.int .i64 (mk k i)) ∧ w' = W := by
  go_enter Try.func41, Try.ntmps41
  go_wp2_with fail
  go_ret
  exact ⟨rfl, rfl⟩
end Go.Proofs.Ytokmkjgbhlcngaa.Ap
namespace Go.Proofs.Ytokmkjgbhlcngaa.Ap
open Go.RowKit
set_option linter.all false

section
variable (enc : Int → Int → List Value) (K : Nat)
/-- i marks of row k, one behind the other. -/
def marks (k : Int) (i : Nat) : List Value := (List.range i).flatMap fun (t : Nat) => enc k (t : Int)
theorem marks_succ (k : Int) (i : Nat) : marks enc k (i + 1) = marks enc k i ++ enc k (i : Int) := by
  unfold marks
  rw [List.range_succ, List.flatMap_append]
  simp
theorem marks_length (hK : ∀ k i, (enc k i).length = K) (k : Int) (i : Nat) : (marks enc k i).length = i * K := by
  induction i with
  | zero => simp [marks]
  | succ i ih => rw [marks_succ, List.length_append, ih, hK, Nat.succ_mul]
theorem marks_take (hK : ∀ k i, (enc k i).length = K) (k : Int) (i j : Nat) (h : i ≤ j) : (marks enc k j).take (i * K) = marks enc k i := by
  induction j with
  | zero => obtain rfl : i = 0 := by omega
            simp [marks]
  | succ j ih =>
    rw [marks_succ]
    by_cases hij : i ≤ j
    · rw [List.take_append_of_le_length (by rw [marks_length enc K hK]; exact Nat.mul_le_mul_right K hij)]
      exact ih hij
    · obtain rfl : i = j + 1 := by omega
      rw [List.take_of_length_le (by rw [List.length_append, marks_length enc K hK, hK, Nat.succ_mul]; exact Nat.le_refl _), marks_succ]
theorem marks_get (hK : ∀ k i, (enc k i).length = K) (k : Int) (i t c : Nat) (ht : t < i) (hc : c < K) : (marks enc k i)[t * K + c]? = (enc k (t : Int))[c]? := by
  have h1 := marks_take enc K hK k (t + 1) i ht
  have h2 : (marks enc k (t + 1))[t * K + c]? = (enc k (t : Int))[c]? := by
    rw [marks_succ, List.getElem?_append_right (by rw [marks_length enc K hK]; omega), marks_length enc K hK, Nat.add_sub_cancel_left]
  rw [← h2, ← h1, List.getElem?_take, if_pos (by rw [Nat.succ_mul]; omega)]
end
section
variable {enc : Int → Int → List Value} {K : Nat} {w w' : World} {B : Nat} {e : TypeId}
/-- The row's first i elements are marks of k. -/
def Mk (enc : Int → Int → List Value) (K : Nat) (w : World) (B : Nat) (e : TypeId) (v : Value) (n : Nat) (k : Int) (i : Nat) : Prop := ∃ xs, ownW w B e K v n xs ∧ xs.take (i * K) = marks enc k i
theorem Mk.zero {v : Value} {n : Nat} {xs : List Value} (h : ownW w B e K v n xs) (k : Int) : Mk enc K w B e v n k 0 := ⟨xs, h, by simp [marks]⟩
theorem Mk.keep {v : Value} {n : Nat} {k : Int} {i : Nat} (h : Mk enc K w B e v n k i) (hm : ∀ g, v.ownBlock = some g → w'.heap[g]? = w.heap[g]?) : Mk enc K w' B e v n k i := by
  obtain ⟨xs, a, b⟩ := h
  exact ⟨xs, a.keep hm, b⟩
theorem Mk.kept {v : Value} {n : Nat} {k : Int} {i : Nat} {row : Option Nat} (h : Mk enc K w B e v n k i) (hg : w.grownBy w' row) (hne : ∀ g, v.ownBlock = some g → some g ≠ row) : Mk enc K w' B e v n k i := by
  obtain ⟨xs, a, b⟩ := h
  exact ⟨xs, a.kept hg hne, b⟩
theorem Mk.below {v : Value} {n : Nat} {k : Int} {i : Nat} (h : Mk enc K w B e v n k i) (hb : Below w.heap.size w w') : Mk enc K w' B e v n k i := by
  obtain ⟨xs, a, b⟩ := h
  exact ⟨xs, a.below hb, b⟩
theorem Mk.own {v : Value} {n : Nat} {k : Int} {i : Nat} (h : Mk enc K w B e v n k i) : ∃ xs, ownW w B e K v n xs := ⟨_, h.choose_spec.1⟩
theorem Mk.store {g n cap : Nat} {k : Int} {i : Nat} (hK : ∀ k i, (enc k i).length = K) (h : Mk enc K w B e (.slice (some ⟨g, 0, none⟩) n cap) n k i) (hi : i < n) : Mk enc K (w.setCells g (i * K) (enc k i)) B e (.slice (some ⟨g, 0, none⟩) n cap) n k (i + 1) := by
  obtain ⟨xs, a, b⟩ := h
  have hl := a.1
  have hik : i * K + K ≤ n * K := by rw [← Nat.succ_mul]; exact Nat.mul_le_mul_right K hi
  refine ⟨_, ownW_store a i hi (enc k i) (hK k i), ?_⟩
  unfold over
  rw [marks_succ, ← b, List.take_append_of_le_length (by rw [List.length_append, List.length_take, hK, Nat.succ_mul]; omega), List.take_of_length_le (by rw [List.length_append, List.length_take, hK, Nat.succ_mul]; omega)]
theorem Mk.whole {v : Value} {n : Nat} {k : Int} (h : Mk enc K w B e v n k n) : ownW w B e K v n (marks enc k n) := by
  obtain ⟨xs, a, b⟩ := h
  rw [List.take_of_length_le (Nat.le_of_eq a.1)] at b
  rw [← b]; exact a
theorem Mk.less (hK : ∀ k i, (enc k i).length = K) {v : Value} {n : Nat} {k : Int} {i j : Nat} (h : Mk enc K w B e v n k i) (hj : j ≤ i) : Mk enc K w B e v n k j := by
  obtain ⟨xs, a, b⟩ := h
  refine ⟨xs, a, ?_⟩
  rw [← marks_take enc K hK k j i hj, ← b, List.take_take, Nat.min_eq_left (Nat.mul_le_mul_right K hj)]
/-- An element's cells. -/
theorem Mk.cell (hK : ∀ k i, (enc k i).length = K) {g n cap : Nat} {k : Int} {i t c : Nat} {u : Value} (h : Mk enc K w B e (.slice (some ⟨g, 0, none⟩) n cap) n k i) (ht : t < i) (hc : c < K) (hu : (enc k (t : Int))[c]? = some u) : w.cell? ⟨g, t * K + c, none⟩ = some u := by
  obtain ⟨xs, a, b⟩ := h
  refine a.cells (g := g) (by simp [Value.ownBlock]) (t * K + c) u ?_
  rw [← hu, ← marks_get enc K hK k i t c ht hc, ← b, List.getElem?_take, if_pos (by have := Nat.mul_le_mul_right K (show t + 1 ≤ i from ht); rw [Nat.succ_mul] at this; omega)]
theorem ownW.stores {w : World} {B : Nat} {e : TypeId} {K : Nat} (P : Program) {g n cap : Nat} {xs : List Value} (h : ownW w B e K (.slice (some ⟨g, 0, none⟩) n cap) n xs) (i : Nat) (hi : i < n) (cs : List Value) (hc : cs.length = K) (h1 : ∀ u ∈ cs, u.oneCell' = true) :
    Sem.run P (storeCells ⟨g, i * K, none⟩ cs 0) w = .ok () (w.setCells g (i * K) cs) := by
  have hik : i * K + K ≤ n * K := by rw [← Nat.succ_mul]; exact Nat.mul_le_mul_right K hi
  have hst := run_storeCells_cells (P := P) g (i * K) cs 0 w (fun j hj => by
    obtain ⟨u, hu⟩ : ∃ u, xs[i * K + j]? = some u := ⟨xs[i * K + j]'(by rw [h.1]; omega), List.getElem?_eq_getElem _⟩
    have := h.cells (g := g) (by simp [Value.ownBlock]) (i * K + j) u hu
    simp only [Nat.add_zero]
    rw [this]; rfl) (fun j hj => by simpa using h.frozen (g := g) (by simp [Value.ownBlock]) _) h1
  simpa using hst
theorem Mk.stores {k : Int} {i0 : Nat} (P : Program) {g n cap : Nat} (h : Mk enc K w B e (.slice (some ⟨g, 0, none⟩) n cap) n k i0) (i : Nat) (hi : i < n) (cs : List Value) (hc : cs.length = K) (h1 : ∀ u ∈ cs, u.oneCell' = true) :
    Sem.run P (storeCells ⟨g, i * K, none⟩ cs 0) w = .ok () (w.setCells g (i * K) cs) := h.choose_spec.1.stores P i hi cs hc h1
/-- What has been done since, behind what was done before. -/
theorem below_on {B : Nat} {w w1 w2 : World} (h : Below B w w1) (hs : B ≤ w1.heap.size) (hb : Below w1.heap.size w1 w2) : Below B w w2 :=
  ⟨hb.os.trans h.os, hb.tape.trans h.tape, hb.output.trans h.output, Nat.le_trans h.size hb.size, fun i hi => (hb.block i (Nat.lt_of_lt_of_le hi hs)).trans (h.block i hi)⟩
/-- A family of rows, each marked so far: one more mark at row k. -/
theorem fam_store {m k g c i : Nat} {v : Nat → Value} {n : Nat → Nat} {p p' : Nat → Nat} {w1 : World} (hK : ∀ k i, (enc k i).length = K) (HP : ∀ j, j < m → Mk enc K w B e (v j) (n j) (j : Int) (p j))
    (hap : ∀ j k, j < m → k < m → j ≠ k → ∀ b, (v j).ownBlock = some b → (v k).ownBlock ≠ some b) (hk : k < m) (hv : v k = .slice (some ⟨g, 0, none⟩) (n k) c) (hi : i < n k) (hpk : p k = i) (hpk' : p' k = i + 1) (hp : ∀ j, j ≠ k → p' j = p j)
    (hb : Below w.heap.size w w1) : ∀ j, j < m → Mk enc K (w1.setCells g (i * K) (enc (k : Int) (i : Int))) B e (v j) (n j) (j : Int) (p' j) := by
  intro j hj
  by_cases hjk : j = k
  · subst hjk
    have h := (HP j hj).below hb
    rw [hpk, hv] at h
    rw [hpk', hv]
    exact h.store hK hi
  · rw [hp j hjk]
    refine ((HP j hj).below hb).kept (setCells_grown w1 g _ _) (fun b hb2 e2 => ?_)
    have := hap j k hj hk hjk b hb2
    rw [hv] at this
    simp only [Value.ownBlock, ne_eq, Option.some.injEq] at this
    simp only [Option.some.injEq] at e2
    exact this e2.symm
end
end Go.Proofs.Ytokmkjgbhlcngaa.Ap
namespace Go.Proofs.Ytokmkjgbhlcngaa.Ap
open Go.RowKit
set_option linter.all false

/-- How far the marking is: the rows ahead of k whole, i of row k. -/
def pr (n : Nat → Nat) (k i j : Nat) : Nat := if j < k then n j else if j = k then i else 0
theorem pr_lt {n : Nat → Nat} {k i j : Nat} (h : j < k) : pr n k i j = n j := by unfold pr; rw [if_pos h]
theorem pr_at (n : Nat → Nat) (k i : Nat) : pr n k i k = i := by unfold pr; rw [if_neg (Nat.lt_irrefl _), if_pos rfl]
theorem pr_ne {n : Nat → Nat} {k i i' j : Nat} (h : j ≠ k) : pr n k i j = pr n k i' j := by unfold pr; rw [if_neg h, if_neg h]
theorem pr_next (n : Nat → Nat) (k j : Nat) : pr n (k + 1) 0 j = pr n k (n k) j := by
  unfold pr
  by_cases h : j < k
  · rw [if_pos (by omega), if_pos h]
  · by_cases e : j = k
    · subst e; rw [if_pos (by omega), if_neg h, if_pos rfl]
    · rw [if_neg (by omega), if_neg h, if_neg e]; split <;> rfl
theorem pr_zero (n : Nat → Nat) (j : Nat) : pr n 0 0 j = 0 := by unfold pr; rw [if_neg (by omega)]; split <;> rfl
theorem cell_hd {w : World} {G e : Nat} {cG : Array Value} {k : Nat} {u : Value} (h : w.heap[G]? = some (.cells cG e (0, 0))) (hu : cG[k]? = some u) : w.cell? ⟨G, k, none⟩ = some u := (cell_of_row w G k cG e (0, 0) h).trans hu

section
variable {enc : Int → Int → List Value} {K : Nat} {w w1 w' : World} {B : Nat} {e : TypeId} {m : Nat} {v : Nat → Value} {n : Nat → Nat} {u : Nat → Value} {l q : Nat → Nat}
structure Fam (enc : Int → Int → List Value) (K : Nat) (w : World) (B : Nat) (e : TypeId) (m : Nat) (v : Nat → Value) (n : Nat → Nat) (u : Nat → Value) (l q : Nat → Nat) : Prop where
  rows : ∀ j, j < m → Mk enc K w B e (v j) (n j) (j : Int) (n j)
  own : ∀ j, j < m → Mk enc K w B e (u j) (l j) (j : Int) (q j)
  ap : ∀ i j, i < m → j < m → i ≠ j → ∀ b, (u i).ownBlock = some b → (u j).ownBlock ≠ some b ∧ (v j).ownBlock ≠ some b
theorem Fam.start (h : ∀ j, j < m → Mk enc K w B e (v j) (n j) (j : Int) (n j)) (hap : ∀ j k, j < m → k < m → j ≠ k → ∀ b, (v j).ownBlock = some b → (v k).ownBlock ≠ some b) : Fam enc K w B e m v n v n n :=
  ⟨h, h, fun i j hi hj hij b hb => ⟨hap i j hi hj hij b hb, hap i j hi hj hij b hb⟩⟩
theorem Fam.congr {l' q' : Nat → Nat} (h : Fam enc K w B e m v n u l q) (hl : ∀ j, l' j = l j) (hq : ∀ j, q' j = q j) : Fam enc K w B e m v n u l' q' := by
  obtain rfl : l' = l := funext hl
  obtain rfl : q' = q := funext hq
  exact h
theorem Fam.less {q' : Nat → Nat} (hK : ∀ k i, (enc k i).length = K) (h : Fam enc K w B e m v n u l q) (hq : ∀ j, j < m → q' j ≤ q j) : Fam enc K w B e m v n u l q' :=
  ⟨h.rows, fun j hj => (h.own j hj).less hK (hq j hj), h.ap⟩
theorem Fam.below (h : Fam enc K w B e m v n u l q) (hb : Below w.heap.size w w1) : Fam enc K w1 B e m v n u l q :=
  ⟨fun j hj => (h.rows j hj).below hb, fun j hj => (h.own j hj).below hb, h.ap⟩
theorem Fam.none (h : Fam enc K w B e m v n u l q) (hg : w.grownBy w1 Option.none) : Fam enc K w1 B e m v n u l q :=
  ⟨fun j hj => (h.rows j hj).kept hg (fun _ _ => by simp), fun j hj => (h.own j hj).kept hg (fun _ _ => by simp), h.ap⟩
theorem Mk.typed {v : Value} {n : Nat} {k : Int} {i : Nat} (h : Mk enc K w B e v n k i) {g : Nat} (hg : v.ownBlock = some g) : ∃ cur, w.heap[g]? = some (.cells cur e (0, 0)) := by
  obtain ⟨xs, a, b⟩ := h
  exact a.typed hg
theorem Mk.lt {v : Value} {n : Nat} {k : Int} {i : Nat} (h : Mk enc K w B e v n k i) {g : Nat} (hg : v.ownBlock = some g) : B ≤ g ∧ g < w.heap.size := by
  obtain ⟨xs, a, b⟩ := h
  exact a.lt g hg
/-- A store into a block of another type. -/
theorem Fam.aside {H : Nat} {e' : TypeId} {cur : Array Value} (h : Fam enc K w B e m v n u l q) (hH : w.heap[H]? = some (.cells cur e' (0, 0))) (hne : e ≠ e') (hg : w.grownBy w1 (some H)) : Fam enc K w1 B e m v n u l q := by
  have key : ∀ {x : Value} {n : Nat} {k : Int} {i : Nat}, Mk enc K w B e x n k i → Mk enc K w1 B e x n k i := fun hx => hx.kept hg (fun g hg2 hgH => by
    obtain ⟨cur2, h2⟩ := hx.typed hg2
    obtain rfl : g = H := by simpa using hgH
    rw [hH] at h2
    simp only [Option.some.injEq, Obj.cells.injEq] at h2
    exact hne h2.2.1.symm)
  exact ⟨fun j hj => key (h.rows j hj), fun j hj => key (h.own j hj), h.ap⟩
/-- A row is grown. -/
theorem Fam.append {x v' : Value} {xs news : List Value} {lx cnt qx k : Nat} (h : Fam enc K w B e m v n u l q)
    (hap : ∀ j k, j < m → k < m → j ≠ k → ∀ b, (v j).ownBlock = some b → (v k).ownBlock ≠ some b) (hk : k < m) (hx : x = u k ∨ x = v k) (hlx : n k ≤ lx) (hb : Below w.heap.size w w1)
    (ho : ownW w' B e K v' (lx + cnt) (xs ++ news)) (hg : w1.grownBy w' x.ownBlock) (hs : (∃ g, x.ownBlock = some g ∧ v'.ownBlock = some g) ∨ (v'.ownBlock = some w1.heap.size ∧ w1.grownBy w' Option.none))
    (hkeep : ∀ uu nu us, uu.ownBlock = x.ownBlock → nu ≤ lx → ownW w1 B e K uu nu us → ownW w' B e K uu nu us) (hq : (xs ++ news).take (qx * K) = marks enc (k : Int) qx) :
    Fam enc K w' B e m v n (fun j => if j = k then v' else u j) (fun j => if j = k then lx + cnt else l j) (fun j => if j = k then qx else q j) := by
  have hone : ∀ j, j < m → j ≠ k → ∀ b, x.ownBlock = some b → (u j).ownBlock ≠ some b ∧ (v j).ownBlock ≠ some b := by
    intro j hj hjk b hxb
    rcases hx with rfl | rfl
    · exact h.ap k j hk hj (fun e => hjk e.symm) b hxb
    · exact ⟨fun e2 => (h.ap j k hj hk hjk b e2).2 hxb, hap k j hk hj (fun e => hjk e.symm) b hxb⟩
  have hsz : ∀ j, j < m → (u j).ownBlock ≠ some w1.heap.size ∧ (v j).ownBlock ≠ some w1.heap.size := by
    intro j hj
    have := hb.size
    exact ⟨fun e2 => by have := ((h.own j hj).lt e2).2; omega, fun e2 => by have := ((h.rows j hj).lt e2).2; omega⟩
  refine ⟨fun j hj => ?_, fun j hj => ?_, fun i j hi hj hij b hbb => ?_⟩
  · have hr := (h.rows j hj).below hb
    by_cases hjk : j = k
    · subst hjk
      by_cases he : (v j).ownBlock = x.ownBlock
      · obtain ⟨ys, a, b⟩ := hr
        exact ⟨ys, hkeep _ _ _ he hlx a, b⟩
      · exact hr.kept hg (fun g hg2 e2 => he (hg2.trans e2))
    · exact hr.kept hg (fun g hg2 e2 => (hone j hj hjk g e2.symm).2 hg2)
  · by_cases hjk : j = k
    · subst hjk
      simp only [if_true]
      exact ⟨_, ho, hq⟩
    · simp only [if_neg hjk]
      exact ((h.own j hj).below hb).kept hg (fun g hg2 e2 => (hone j hj hjk g e2.symm).1 hg2)
  · by_cases hik : i = k
    · subst hik
      have hji : j ≠ i := fun e => hij e.symm
      simp only [if_true, if_neg hji] at hbb ⊢
      rcases hs with ⟨g, h1, h2⟩ | ⟨h1, h2⟩
      · rw [h2] at hbb; rw [hbb] at h1; exact hone j hj hji b h1
      · rw [h1] at hbb; rw [← hbb]; exact hsz j hj
    · simp only [if_neg hik] at hbb
      by_cases hjk : j = k
      · subst hjk
        simp only [if_true]
        refine ⟨fun e2 => ?_, (h.ap i j hi hj hij b hbb).2⟩
        rcases hs with ⟨g, h1, h2⟩ | ⟨h1, h2⟩
        · rw [h2] at e2; rw [e2] at h1; exact (hone i hi hik b h1).1 hbb
        · rw [h1] at e2; rw [← e2] at hbb; exact (hsz i hi).1 hbb
      · simp only [if_neg hjk]
        exact h.ap i j hi hj hij b hbb
end
/-- The row of headers. -/
def Hd (w : World) (B : Nat) (e : TypeId) (H m : Nat) (u : Nat → Value) (k : Nat) : Prop := ∃ hs, ownW w B e 1 (.slice (some ⟨H, 0, none⟩) m m) m hs ∧ ∀ j, j < k → hs[j]? = some (u j)
section
variable {w w' : World} {B : Nat} {e : TypeId} {H m : Nat} {u : Nat → Value} {k : Nat}
theorem Hd.cell {j : Nat} (h : Hd w B e H m u k) (hj : j < k) : w.cell? ⟨H, j, none⟩ = some (u j) := by
  obtain ⟨hs, a, b⟩ := h
  exact a.cells (g := H) (by simp [Value.ownBlock]) j (u j) (b j hj)
theorem Hd.typed (h : Hd w B e H m u k) : ∃ cur, w.heap[H]? = some (.cells cur e (0, 0)) := by
  obtain ⟨hs, a, b⟩ := h
  exact a.typed (by simp [Value.ownBlock])
theorem Hd.lt (h : Hd w B e H m u k) : B ≤ H ∧ H < w.heap.size := by
  obtain ⟨hs, a, b⟩ := h
  exact a.lt H (by simp [Value.ownBlock])
theorem Hd.congr {u' : Nat → Value} (h : Hd w B e H m u k) (hu : ∀ j, j < k → u' j = u j) : Hd w B e H m u' k := by
  obtain ⟨hs, a, b⟩ := h
  exact ⟨hs, a, fun j hj => (b j hj).trans (congrArg some (hu j hj).symm)⟩
theorem Hd.below (h : Hd w B e H m u k) (hb : Below w.heap.size w w') : Hd w' B e H m u k := by
  obtain ⟨hs, a, b⟩ := h
  exact ⟨hs, a.below hb, b⟩
theorem Hd.kept {row : Option Nat} (h : Hd w B e H m u k) (hg : w.grownBy w' row) (hne : some H ≠ row) : Hd w' B e H m u k := by
  obtain ⟨hs, a, b⟩ := h
  exact ⟨hs, a.kept hg (fun g hg2 => by simp only [Value.ownBlock, Option.some.injEq] at hg2; subst hg2; exact hne), b⟩
theorem Hd.old {j : Nat} (h : Hd w B e H m u k) (hj : j < m) : ∃ x, w.cell? ⟨H, j, none⟩ = some x ∧ w.frozen? ⟨H, j, none⟩ = false := by
  obtain ⟨hs, a, b⟩ := h
  obtain ⟨x, hx⟩ : ∃ x, hs[j]? = some x := ⟨hs[j]'(by rw [a.1]; omega), List.getElem?_eq_getElem _⟩
  exact ⟨x, a.cells (g := H) (by simp [Value.ownBlock]) j x hx, a.frozen (g := H) (by simp [Value.ownBlock]) j⟩
theorem Hd.store {i : Nat} {x : Value} {k' : Nat} {u' : Nat → Value} (h : Hd w B e H m u k) (hi : i < m) (hx : u' i = x) (hu : ∀ j, j < k' → j ≠ i → j < k ∧ u' j = u j) : Hd (w.setCells H (i * 1) [x]) B e H m u' k' := by
  obtain ⟨hs, a, b⟩ := h
  refine ⟨_, ownW_store a i hi [x] rfl, fun j hj => ?_⟩
  rw [over_get hs [x] (i * 1) j (by rw [a.1]; simp; omega)]
  by_cases hji : j = i
  · subst hji
    rw [if_pos (by simp), Nat.mul_one, Nat.sub_self, hx]; rfl
  · rw [if_neg (by simp only [List.length_singleton]; omega), b j (hu j hj hji).1, (hu j hj hji).2]
end
theorem Hd.same {w w' : World} {B : Nat} {e : TypeId} {H m : Nat} {u : Nat → Value} {k : Nat} (h : Hd w B e H m u k) (hb : w'.heap[H]? = w.heap[H]?) : Hd w' B e H m u k := by
  obtain ⟨hs, a, b⟩ := h
  exact ⟨hs, a.keep (fun g hg => by simp only [Value.ownBlock, Option.some.injEq] at hg; subst hg; exact hb), b⟩
section
variable {P : Program} {ops : Array Oper} {rest : List Oper} {o : Oper} {a : Act} {Q : Exit → Act → World → Prop} {w : World}
theorem gate_bs (t : TypeId) (len : Nat) (parts : Array (Nat × Operand)) (_ho : o.op = .buildSlice t len parts) (h : wpList P ops Q (o :: rest) a w) : wpList P ops Q (o :: rest) a w := h
theorem gate_ap (xs : Array Operand) (ts : Array TypeId) (_ho : o.op = .call { callee := .builtin .append, args := xs, argTypes := ts }) (h : wpList P ops Q (o :: rest) a w) : wpList P ops Q (o :: rest) a w := h
theorem wpList_build1 (hg : o.guard = none) (t e : TypeId) (x : Operand) (ho : o.op = .buildSlice t 1 #[(0, x)]) (hu : P.underlying t = some (.slice e)) (N : Nat) (hN : w.heap.size = N) (cs : List Value) (hx : a.eval x = .agg cs.toArray)
    (hbt : P.builtSlice e 1 [(0, .agg cs.toArray)] = some cs.toArray) (h : wpList P ops Q rest (a.put o.dst (.slice (some ⟨N, 0, none⟩) 1 1)) (w.alloc (.cells cs.toArray e))) : wpList P ops Q (o :: rest) a w :=
  Great.wpList_buildSliceTo hg t e 1 #[(0, x)] ho N hN _ rfl hu cs.toArray (by simpa [hx] using hbt) h
theorem wpList_buildV (hg : o.guard = none) (t e : TypeId) (x : Operand) (ho : o.op = .buildSlice t 1 #[(0, x)]) (hu : P.underlying t = some (.slice e)) (N : Nat) (hN : w.heap.size = N) (val : Value) (cs : List Value) (hx : a.eval x = val)
    (hbt : P.builtSlice e 1 [(0, val)] = some cs.toArray) (h : wpList P ops Q rest (a.put o.dst (.slice (some ⟨N, 0, none⟩) 1 1)) (w.alloc (.cells cs.toArray e))) : wpList P ops Q (o :: rest) a w :=
  Great.wpList_buildSliceTo hg t e 1 #[(0, x)] ho N hN _ rfl hu cs.toArray (by simpa [hx] using hbt) h
/-- A row of a family is grown by 'append'. -/
theorem wpList_grow_fam {enc : Int → Int → List Value} {K : Nat} {w0 : World} {B : Nat} {e : TypeId} {m : Nat} {v : Nat → Value} {n : Nat → Nat} {u : Nat → Value} {l q : Nat → Nat} {k : Nat}
    (w : World) (hgd : o.guard = none) (s xo : Operand) (t : TypeId) (ho : o.op = .call { callee := .builtin .append, args := #[s, xo], argTypes := #[t, t] })
    (ht : P.underlying t = some (.slice e)) (z : Value) (bytes : Nat) (hinfo : (P.info? e).map (fun i => (i.zero, i.size, i.bytes)) = some (some z, K, bytes)) (hzs : z.cells.size = K) (hsz : 0 < K)
    (hF : Fam enc K w0 B e m v n u l q) (hap : ∀ j k, j < m → k < m → j ≠ k → ∀ b, (v j).ownBlock = some b → (v k).ownBlock ≠ some b) (hk : k < m)
    (x : Value) (hx : x = u k ∨ x = v k) (lx : Nat) (hlx : n k ≤ lx) (xs : List Value) (hs : a.eval s = x) (hown : ownW w0 B e K x lx xs) (hb : Below w0.heap.size w0 w)
    (ad : Addr) (cnt c : Nat) (news : List Value) (hxo : a.eval xo = .slice (some ad) cnt c) (hl : news.length = cnt * K) (hnews : ∀ j u, news[j]? = some u → w.cell? (ad.add j) = some u) (h1 : ∀ u ∈ news, u.oneCell' = true) (hm : 0 < cnt)
    (h63 : lx + cnt ≤ maxLen) (hbytes : (lx + cnt) * bytes ≤ 140737488355328) (hbase : B ≤ w0.heap.size) (qx : Nat) (hq : (xs ++ news).take (qx * K) = marks enc (k : Int) qx)
    (h : ∀ v' w', Fam enc K w' B e m v n (fun j => if j = k then v' else u j) (fun j => if j = k then lx + cnt else l j) (fun j => if j = k then qx else q j) → Below B w0 w' → B ≤ w'.heap.size →
      (∀ (H : Nat) (e' : TypeId) (cur : Array Value), e ≠ e' → w0.heap[H]? = some (Obj.cells cur e' (0, 0)) → w'.heap[H]? = w0.heap[H]?) → wpList P ops Q rest (a.put o.dst v') w') : wpList P ops Q (o :: rest) a w := by
  have hB' : B ≤ w.heap.size := Nat.le_trans hbase hb.size
  refine wpList_append_ownW w hgd s xo t ho B e z K bytes ht hinfo hzs hsz x lx xs hs (hown.below hb) ad cnt c news hxo hl hnews h1 hm h63 hbytes hB' fun v' w' ho2 hg hs2 hkeep => ?_
  refine h v' w' (hF.append hap hk hx hlx hb ho2 hg hs2 hkeep hq) (below_grown (below_on (Below.refl B w0) hbase hb) hg hB' (fun b hb2 => (hown.lt b hb2).1)) (Nat.le_trans hB' hg.size) (fun H e' cur hne hH => ?_)
  have hlt := (Array.getElem?_eq_some_iff.1 hH).1
  refine (hg.block H (Nat.lt_of_lt_of_le hlt hb.size) (fun e2 => ?_)).trans (hb.block H hlt)
  obtain ⟨cur2, h2⟩ := hown.typed e2.symm
  rw [hH] at h2
  simp only [Option.some.injEq, Obj.cells.injEq] at h2
  exact hne h2.2.1.symm
end
theorem new_cell (w : World) (cs : List Value) (e : TypeId) : ∀ j u, cs[j]? = some u → (w.alloc (.cells cs.toArray e)).cell? ((⟨w.heap.size, 0, none⟩ : Addr).add j) = some u := by
  intro j u hu
  have hadd : (⟨w.heap.size, 0, none⟩ : Addr).add j = ⟨w.heap.size, j, none⟩ := by unfold Addr.add; split <;> simp_all
  rw [hadd, cell_of_row _ _ j cs.toArray e (0, 0) (heap_alloc_new w _)]
  simpa using hu
theorem marks_take_next {enc : Int → Int → List Value} {K : Nat} (hK : ∀ k i, (enc k i).length = K) (k z : Int) (i : Nat) (hz : z = (i : Int)) : (marks enc k i ++ enc k z).take ((i + 1) * K) = marks enc k (i + 1) := by
  subst hz
  rw [← marks_succ, List.take_of_length_le (by rw [marks_length enc K hK]; exact Nat.le_refl _)]
theorem slots_next (n : Nat → Nat) (k i j : Nat) : n j + pr (fun _ => 64) k (i + 1) j = if j = k then n k + i + 1 else n j + pr (fun _ => 64) k i j := by
  by_cases h : j = k
  · subst h; rw [if_pos rfl, pr_at]; omega
  · rw [if_neg h, pr_ne h]
theorem slots_all {m : Nat} (n : Nat → Nat) (k j : Nat) (hj : j < k) : n j + pr (fun _ => 64) k 0 j = n j + 64 := by rw [pr_lt hj]
theorem slots_step (n : Nat → Nat) (k j : Nat) : n j + pr (fun _ => 64) (k + 1) 0 j = n j + pr (fun _ => 64) k 64 j := by rw [pr_next]
theorem Fam.congrm {enc : Int → Int → List Value} {K : Nat} {w : World} {B : Nat} {e : TypeId} {m : Nat} {v : Nat → Value} {n : Nat → Nat} {u : Nat → Value} {l q l' q' : Nat → Nat} (h : Fam enc K w B e m v n u l q) (hl : ∀ j, j < m → l' j = l j) (hq : ∀ j, j < m → q' j = q j) : Fam enc K w B e m v n u l' q' :=
  ⟨h.rows, fun j hj => by rw [hl j hj, hq j hj]; exact h.own j hj, h.ap⟩
theorem setCell_grown (w : World) (H i : Nat) (x : Value) : w.grownBy (w.setCell ⟨H, i, none⟩ x) (some H) := setCells_grown w H [x] i
theorem Hd.store1 {w : World} {B : Nat} {e : TypeId} {H m : Nat} {u : Nat → Value} {k i : Nat} {x : Value} {k' : Nat} {u' : Nat → Value} (h : Hd w B e H m u k) (hi : i < m) (hx : u' i = x) (hu : ∀ j, j < k' → j ≠ i → j < k ∧ u' j = u j) : Hd (w.setCell ⟨H, i, none⟩ x) B e H m u' k' := by
  have := h.store hi hx hu
  rw [Nat.mul_one] at this
  exact this
theorem Fam.kept {enc : Int → Int → List Value} {K : Nat} {w w1 : World} {B : Nat} {e : TypeId} {m : Nat} {v : Nat → Value} {n : Nat → Nat} {u : Nat → Value} {l q : Nat → Nat} {row : Option Nat} (h : Fam enc K w B e m v n u l q) (hg : w.grownBy w1 row) (hne : ∀ j, j < m → (∀ b, row = some b → (u j).ownBlock ≠ some b ∧ (v j).ownBlock ≠ some b)) : Fam enc K w1 B e m v n u l q :=
  ⟨fun j hj => (h.rows j hj).kept hg (fun b hb hr => (hne j hj b hr.symm).2 hb), fun j hj => (h.own j hj).kept hg (fun b hb hr => (hne j hj b hr.symm).1 hb), h.ap⟩
theorem Fam.old {enc : Int → Int → List Value} {K : Nat} {w : World} {B : Nat} {e : TypeId} {m : Nat} {v : Nat → Value} {n : Nat → Nat} {u : Nat → Value} {l q : Nat → Nat} (h : Fam enc K w B e m v n u l q) : ∀ j, j < m → (u j).ownBlock ≠ some w.heap.size ∧ (v j).ownBlock ≠ some w.heap.size :=
  fun j hj => ⟨fun e => by have := ((h.own j hj).lt e).2; omega, fun e => by have := ((h.rows j hj).lt e).2; omega⟩
theorem over_one {xs cs : List Value} {o : Nat} (h : ∀ u ∈ xs, u.oneCell' = true) (hc : ∀ u ∈ cs, u.oneCell' = true) : ∀ u ∈ over xs o cs, u.oneCell' = true := by
  intro u hu
  unfold over at hu
  rcases List.mem_append.1 hu with hu | hu
  · rcases List.mem_append.1 hu with hu | hu
    · exact h u (List.mem_of_mem_take hu)
    · exact hc u hu
  · exact h u (List.mem_of_mem_drop hu)
theorem made_one {z : Value} (h : z.cells.toList.all Value.oneCell' = true) (k : Nat) : ∀ u ∈ (madeCells z.cells k).toList, u.oneCell' = true := by
  intro u hu
  rw [Array.mem_toList_iff] at hu
  unfold madeCells at hu
  obtain ⟨i, hi, e⟩ := Array.mem_map.1 hu
  rw [← e]
  by_cases hz : z.cells.size = 0
  · rw [hz, Nat.mod_zero, Array.getElem!_eq_getD, Array.getD, dif_neg (by omega)]; rfl
  · have hlt : i % z.cells.size < z.cells.size := Nat.mod_lt _ (by omega)
    rw [Array.getElem!_eq_getD, Array.getD, dif_pos hlt]
    exact List.all_eq_true.1 h _ (by simp)
theorem marks_take_over {enc : Int → Int → List Value} {K : Nat} (hK : ∀ k i, (enc k i).length = K) (k : Int) (i : Nat) (ys : List Value) : (marks enc k i ++ ys).take (i * K) = marks enc k i := by
  rw [← marks_length enc K hK k i]; exact List.take_left
theorem row_cell {w : World} {B : Nat} {e : TypeId} {K M n c : Nat} {xs : List Value} (h : ownW w B e K (.slice (some ⟨M, 0, none⟩) n c) n xs) : ∀ j u, xs[j]? = some u → w.cell? ((⟨M, 0, none⟩ : Addr).add j) = some u := by
  intro j u hu
  have hadd : (⟨M, 0, none⟩ : Addr).add j = ⟨M, j, none⟩ := by unfold Addr.add; split <;> simp_all
  rw [hadd]
  exact h.cells (g := M) (by simp [Value.ownBlock]) j u hu
/-- What a flat leaves: what lay below B, and each block of another type. -/
structure Bt (B : Nat) (T : TypeId) (w w' : World) : Prop where
  below : Below B w w'
  side : ∀ (b : Nat) (e' : TypeId) (cur : Array Value), T ≠ e' → w.heap[b]? = some (Obj.cells cur e' (0, 0)) → w'.heap[b]? = w.heap[b]?
section
variable {B : Nat} {T : TypeId} {w w1 w2 : World}
theorem Bt.refl (B : Nat) (T : TypeId) (w : World) : Bt B T w w := ⟨Below.refl _ _, fun _ _ _ _ _ => rfl⟩
theorem Bt.then (h : Bt B T w w1) (hb : Below B w1 w2) (hs : ∀ (b : Nat) (e' : TypeId) (cur : Array Value), T ≠ e' → b < w.heap.size → w1.heap[b]? = some (Obj.cells cur e' (0, 0)) → w2.heap[b]? = w1.heap[b]?) : Bt B T w w2 :=
  ⟨h.below.trans hb, fun b e' cur hne hw => (hs b e' cur hne (Array.getElem?_eq_some_iff.1 hw).1 ((h.side b e' cur hne hw).trans hw)).trans (h.side b e' cur hne hw)⟩
theorem Bt.on (h : Bt B T w w1) (hs : B ≤ w1.heap.size) (hb : Below w1.heap.size w1 w2) : Bt B T w w2 :=
  h.then (below_on (Below.refl _ _) hs hb) (fun b _ _ _ _ hw => hb.block b (Array.getElem?_eq_some_iff.1 hw).1)
theorem Bt.grown {row : Option Nat} (h : Bt B T w w1) (hg : w1.grownBy w2 row) (hs : B ≤ w1.heap.size) (hr : ∀ k, row = some k → B ≤ k) (ht : ∀ k, row = some k → ∃ cur, w1.heap[k]? = some (.cells cur T (0, 0))) : Bt B T w w2 :=
  h.then (below_grown (Below.refl _ _) hg hs hr) (fun b e' cur hne _ hw => hg.block b (Array.getElem?_eq_some_iff.1 hw).1 (fun e => by
    obtain ⟨cur2, h2⟩ := ht b e.symm
    rw [hw] at h2
    simp only [Option.some.injEq, Obj.cells.injEq] at h2
    exact hne h2.2.1.symm))
theorem Bt.setCell {H i : Nat} (h : Bt B T w w1) (hB : B ≤ H) (hH : w.heap.size ≤ H) (x : Value) : Bt B T w (w1.setCell ⟨H, i, none⟩ x) :=
  h.then (Below.setCell (Below.refl _ _) (p := ⟨H, i, none⟩) hB x) (fun b _ _ _ hb _ => Below.heap_setCell w1 ⟨H, i, none⟩ x b (by simp only [ne_eq]; omega))
theorem Bt.append (h : Bt B T w w1) (hb : Below B w1 w2) (hs : ∀ (b : Nat) (e' : TypeId) (cur : Array Value), T ≠ e' → w1.heap[b]? = some (Obj.cells cur e' (0, 0)) → w2.heap[b]? = w1.heap[b]?) : Bt B T w w2 :=
  h.then hb (fun b e' cur hne _ hw => hs b e' cur hne hw)
end
theorem own_ne2 {w : World} {B : Nat} {e e' : TypeId} {K n Bk : Nat} {v : Value} {xs : List Value} {cur : Array Value} (h : ownW w B e K v n xs) (hb : w.heap[Bk]? = some (Obj.cells cur e' (0, 0))) (hne : e ≠ e') {k : Nat} (hk : v.ownBlock = some k) : k ≠ Bk := by
  rintro rfl
  obtain ⟨cur2, h2⟩ := h.typed hk
  rw [hb] at h2
  simp only [Option.some.injEq, Obj.cells.injEq] at h2
  exact hne h2.2.1.symm
theorem own_ne {w : World} {B : Nat} {e e' : TypeId} {K n Bk : Nat} {v : Value} {xs : List Value} {cur : Array Value} (h : ownW w B e K v n xs) (hb : w.heap[Bk]? = some (Obj.cells cur e' (0, 0))) (hne : e ≠ e') : some Bk ≠ v.ownBlock :=
  fun e => own_ne2 h hb hne e.symm rfl
theorem froz_of {w : World} {Bk : Nat} {e : TypeId} {cur : Array Value} (hb : w.heap[Bk]? = some (Obj.cells cur e (0, 0))) (j : Nat) : w.frozen? ⟨Bk, j, none⟩ = false := by simp [World.frozen?, hb]
theorem setCell_block {w : World} {Bk : Nat} {e : TypeId} {cur : Array Value} (hb : w.heap[Bk]? = some (Obj.cells cur e (0, 0))) (j : Nat) (x : Value) : (w.setCell ⟨Bk, j, none⟩ x).heap[Bk]? = some (Obj.cells (cur.setIfInBounds j x) e (0, 0)) := by
  simp [World.setCell, Array.getElem?_modify, hb]
theorem alloc_le (w : World) (o : Obj) : w.heap.size ≤ (w.alloc o).heap.size := (Below.alloc (Below.refl w.heap.size w) (Nat.le_refl _) o).size
end Go.Proofs.Ytokmkjgbhlcngaa.Ap
namespace Go.Proofs.Ytokmkjgbhlcngaa.Ap
open Go.RowKit Go.Sort Go.Lib Go.Proofs
set_option linter.all false
attribute [local go_sem ↓] Go.wp_at_zero Go.wp_at_succ

noncomputable def zLines : Value := ((Try.prog.info? 24).bind (fun i => i.zero)).getD Go.undef
theorem infoLines : (Try.prog.info? 24).map (fun i => (i.zero, i.size, i.bytes)) = some (some zLines, 8, 80) := by kernel_rfl
theorem zoneLines : zLines.cells.toList.all Value.oneCell' = true := by kernel_rfl
theorem infoSLines : (Try.prog.info? 29).map (fun i => (i.zero, i.size, i.bytes)) = some (some (.slice none 0 0), 1, 24) := by kernel_rfl

set_option maxHeartbeats 4000000 in
set_option maxRecDepth 100000 in
theorem flatLines_any (enc : Int → Int → List Value) (hK : ∀ k i, (enc k i).length = 8) (h1 : ∀ k i, ∀ u ∈ enc k i, u.oneCell' = true)
    (hmark : ∀ (k i : Int) (W : World), Calls Try.prog 31 #[.int .i64 k, .int .i64 i] W fun e w' => e = .returned (.agg (enc k i).toArray) ∧ Below W.heap.size W w')
    (ev : Nat → Int → Int → Value) (hev : ∀ k i, enc k i = [ev 0 k i, ev 1 k i, ev 2 k i, ev 3 k i, ev 4 k i, ev 5 k i, ev 6 k i, ev 7 k i])
    (heq : ∀ (k i : Int) (W : World), (binOp .eql 24 (.agg #[ev 0 k i, ev 1 k i, ev 2 k i, ev 3 k i, ev 4 k i, ev 5 k i, ev 6 k i, ev 7 k i]) (.agg #[ev 0 k i, ev 1 k i, ev 2 k i, ev 3 k i, ev 4 k i, ev 5 k i, ev 6 k i, ev 7 k i])).run Try.prog W = .ok (.bool true) W)
    (hbt : ∀ (k i : Int), Try.prog.builtSlice 24 1 [(0, .agg (enc k i).toArray)] = some (enc k i).toArray)
    (m G capG B : Nat) (cG : Array Value) (v : Nat → Value) (n : Nat → Nat) (w : World)
    (hG : w.heap[G]? = some (.cells cG 29 (0, 0))) (hv : ∀ k, k < m → cG[k]? = some (v k)) (hown : ∀ k, k < m → ∃ xs, ownW w B 24 8 (v k) (n k) xs)
    (hap : ∀ j k, j < m → k < m → j ≠ k → ∀ b, (v j).ownBlock = some b → (v k).ownBlock ≠ some b) (hn : ∀ k, k < m → n k ≤ 1000000000) (hm : m ≤ 1000000000) (hB : B ≤ w.heap.size) :
    Calls Try.prog 54 #[.slice (some ⟨G, 0, none⟩) m capG] w fun e w' => e = .returned (.bool true) ∧ Bt B 24 w w' := by
  have HK := Lib.hid hK
  have H1 := Lib.hid h1
  have HM := Lib.hid hmark
  have HEQ := Lib.hid heq
  have HBT := Lib.hid hbt
  have HEV := Lib.hid hev
  have HV := Lib.hid hv
  have HAP := Lib.hid hap
  have HN := Lib.hid hn
  have HP0 : Hid (∀ j, j < m → Mk enc 8 w B 24 (v j) (n j) (j : Int) (pr n 0 0 j)) := fun j hj => by
    obtain ⟨xs, hx⟩ := hown j hj
    have : pr n 0 0 j = 0 := by unfold pr; rw [if_neg (by omega)]; split <;> rfl
    rw [this]
    exact Mk.zero hx _
  have HG0 := Lib.hid hG
  have HBB := Lib.hid hB
  clear hK h1 hmark heq hbt hev hv hap hn hown hG hB
  go_enter Try.func54, Try.ntmps54
  go_wp2_with fail
  go_loopg [3] m (fun kx s3 wr => ∃ k : Nat, s3 = .int .i64 k ∧ k ≤ m ∧ Hid (m ≤ k + kx) ∧ Hid (∀ j, j < m → Mk enc 8 wr B 24 (v j) (n j) (j : Int) (pr n k 0 j)) ∧ Hid (wr.heap[G]? = some (.cells cG 29 (0, 0))) ∧ Hid (Bt B 24 w wr) ∧ Hid (B ≤ wr.heap.size))
  case atStart => exact ⟨0, rfl, Nat.zero_le _, Lib.hid (by omega), HP0, HG0, Lib.hid (Bt.refl _ _ _), HBB⟩
  case round =>
    obtain ⟨k, rfl, hkm, HKX, HP, HGr, HBr, HBs⟩ := hrel
    by_cases hk : k < m
    · have hkz : (k : Int) < (m : Int) := by omega
      have HKK := Lib.hid hk
      have hnk := HN.out k hk
      obtain ⟨A, c, hvk, hnc, hA⟩ := (HP.out k hk).own.choose_spec.slice
      have HVK := Lib.hid hvk
      have HA := Lib.hid hA
      clear hk hvk hA
      go_wp2_with fail
      go_loopg [4] (n k) (fun kx s4 wi => ∃ i : Nat, s4 = .int .i64 i ∧ i ≤ n k ∧ Hid (n k ≤ i + kx) ∧ Hid (∀ j, j < m → Mk enc 8 wi B 24 (v j) (n j) (j : Int) (pr n k i j)) ∧ Hid (wi.heap[G]? = some (.cells cG 29 (0, 0))) ∧ Hid (Bt B 24 w wi) ∧ Hid (B ≤ wi.heap.size))
      case atStart => exact ⟨0, rfl, Nat.zero_le _, Lib.hid (by omega), HP, HGr, HBr, HBs⟩
      case round =>
        clear HP HGr HBr HBs
        obtain ⟨i, rfl, hin, HIX, HP, HGr, HBr, HBs⟩ := hrel
        have hcell : wr.cell? ⟨G, k, none⟩ = some (.slice A (n k) c) := cell_hd HGr.out ((HV.out k HKK.out).trans (congrArg some HVK.out))
        by_cases hi : i < n k
        · have hiz : (i : Int) < (n k : Int) := by omega
          obtain ⟨g, hg⟩ := HA.out (by omega)
          subst hg
          have HII := Lib.hid hi
          clear hi
          have hi0 : (0 : Int) ≤ (i : Int) := by omega
          have hlE : (enc (k : Int) (i : Int)).length = 8 := HK.out _ _
          have hGg : G ≠ g := by
            rintro rfl
            obtain ⟨xs, hx⟩ := (HP.out k HKK.out).own
            obtain ⟨cur, hcur⟩ := hx.typed (g := G) (by rw [HVK.out]; simp [Value.ownBlock])
            rw [HGr.out] at hcur
            simp at hcur
          have hMk := HP.out k HKK.out
          rw [pr_at, HVK.out] at hMk
          have HMK := Lib.hid hMk
          clear hMk
          go_wp2_with fail
          go_region_held3 (fun w' => w'.cell? ⟨G, k, none⟩ = some (.slice (some ⟨g, 0, none⟩) (n k) c)) (first | go_keep | (rw [hb.cell (p := ⟨G, k, none⟩) (World.block_lt_of_cell? _ _ hcell)]; exact hcell) | (rw [World.cell?_setCells_out _ _ _ _ _ (fun e => absurd e hGg)]; go_keep)) ((go_at_call 31; refine (HM.out (k : Int) (i : Int) _).mono ?_; rintro e w' ⟨rfl, hb0⟩; have hb : Below wr.heap.size wr w' := ⟨hb0.os, hb0.tape, hb0.output, hb0.size, hb0.block⟩; clear hb0; have hst := (HMK.out.below (w' := w') hb).stores Try.prog i HII.out (enc (k : Int) (i : Int)) (HK.out _ _) (H1.out _ _)))
          have HP2 := Lib.hid (fam_store (w1 := w') (p' := pr n k (i + 1)) HK.out HP.out HAP.out HKK.out HVK.out HII.out (pr_at n k i) (pr_at n k (i + 1)) (fun j hj => pr_ne hj) hb)
          have HG2 := Lib.hid ((setCells_other w' g (enc (k : Int) (i : Int)) (i * 8) G hGg).trans ((hb.block G (Array.getElem?_eq_some_iff.1 HGr.out).1).trans HGr.out))
          have hgB : B ≤ g := ((HMK.out.own.choose_spec).lt g (by simp [Value.ownBlock])).1
          have HB2 := Lib.hid (Bt.grown (Bt.on HBr.out HBs.out hb) (setCells_grown w' g (enc (k : Int) (i : Int)) (i * 8)) (Nat.le_trans HBs.out hb.size) (fun b hb2 => by simp only [Option.some.injEq] at hb2; omega) (fun b hb2 => by simp only [Option.some.injEq] at hb2; subst hb2; exact (HMK.out.below hb).typed (by simp [Value.ownBlock])))
          have HS2 := Lib.hid (Nat.le_trans (Nat.le_trans HBs.out hb.size) (setCells_grown w' g (enc (k : Int) (i : Int)) (i * 8)).size)
          generalize w'.setCells g (i * 8) (enc (k : Int) (i : Int)) = w2 at HP2 HG2 HB2 HS2 ⊢
          clear hst hb hgB hcell hlE hGg HMK
          go_wp2_with fail
          go_roundg (n k - (i + 1))
          case measure => have := HIX.out; have := HII.out; omega
          case rel => exact ⟨i + 1, by go_num, HII.out, Lib.hid (by have := HII.out; omega), HP2, HG2, HB2, HS2⟩
        · have hiz : ¬ (i : Int) < (n k : Int) := by omega
          obtain rfl : i = n k := by omega
          clear hi
          go_wp2_with fail
          go_roundg (m - (k + 1))
          case measure => have := HKX.out; have := HKK.out; omega
          case rel => exact ⟨k + 1, by go_num, HKK.out, Lib.hid (by have := HKK.out; omega), Lib.hid (fun j hj => by rw [pr_next]; exact HP.out j hj), HGr, HBr, HBs⟩
    · have hkz : ¬ (k : Int) < (m : Int) := by omega
      obtain rfl : m = k := by omega
      clear hk
      have HF : Hid (∀ j, j < m → Mk enc 8 wr B 24 (v j) (n j) (j : Int) (n j)) := Lib.hid fun j hj => by have := HP.out j hj; rwa [pr_lt hj] at this
      clear HP HKX HG0 HBB HP0 hkz hkm
      obtain ⟨iS, hiS, hzS, hsS, hbS⟩ := info_parts infoSLines
      go_wp2_with (first | (at_make; refine wpList_make_full _ rfl _ _ 36 rfl B 29 iS _ 1 Try.underlying36 hiS hzS hsS .i64 .i64 _ _ m rfl rfl rfl rfl (by rw [hbS]; omega) (by simp only [maxLen]; omega) HBs.out ?_))
      intro w1 hH hg1
      have HH1 : Hid (Hd w1 B 29 wr.heap.size m v 0) := Lib.hid ⟨_, ownW_of hH, fun j hj => by omega⟩
      have HF1 : Hid (Fam enc 8 w1 B 24 m v n v (fun j => n j + pr (fun _ => 64) 0 0 j) (fun j => n j + pr (fun _ => 64) 0 0 j)) := Lib.hid (((Fam.start HF.out HAP.out).none hg1).congr (fun j => by rw [pr_zero]; rfl) (fun j => by rw [pr_zero]; rfl))
      have HG1 : Hid (w1.heap[G]? = some (.cells cG 29 (0, 0))) := Lib.hid ((hg1.block G (Array.getElem?_eq_some_iff.1 HGr.out).1 (by simp)).trans HGr.out)
      have HB1 := Lib.hid (Bt.grown HBr.out hg1 HBs.out (fun _ h => by cases h) (fun _ h => by cases h))
      have HS1 := Lib.hid (Nat.le_trans HBs.out hg1.size)
      have HGH : Hid (G ≠ wr.heap.size) := Lib.hid (fun e => by have := (Array.getElem?_eq_some_iff.1 HGr.out).1; omega)
      have HWH : Hid (w.heap.size ≤ wr.heap.size) := Lib.hid HBr.out.below.size
      clear hH hg1 hiS hzS hsS hbS HF HGr HBr HBs
      generalize wr.heap.size = H at HH1 HGH HWH ⊢
      go_wp2_with fail
      go_loopg [6] m (fun kx s6 wr => ∃ (k : Nat) (u : Nat → Value), s6 = .int .i64 k ∧ k ≤ m ∧ Hid (m ≤ k + kx) ∧ Hid (Fam enc 8 wr B 24 m v n u (fun j => n j + pr (fun _ => 64) k 0 j) (fun j => n j + pr (fun _ => 64) k 0 j)) ∧ Hid (∀ j, k ≤ j → j < m → u j = v j) ∧ Hid (wr.heap[G]? = some (.cells cG 29 (0, 0))) ∧ Hid (Hd wr B 29 H m u k) ∧ Hid (Bt B 24 w wr) ∧ Hid (B ≤ wr.heap.size))
      case atStart => exact ⟨0, v, rfl, Nat.zero_le _, Lib.hid (by omega), HF1, Lib.hid (fun _ _ _ => rfl), HG1, HH1, HB1, HS1⟩
      case round =>
        clear HF1 HG1 HH1 HB1 HS1
        obtain ⟨k, u, rfl, hkm, HKX, HP, HUV, HGr, HHr, HBr, HBs⟩ := hrel
        by_cases hk : k < m
        · have hkz : (k : Int) < (m : Int) := by omega
          have HKK := Lib.hid hk
          have hnk := HN.out k hk
          obtain ⟨A, c, hvk, hnc, hA⟩ := (HP.out.rows k hk).own.choose_spec.slice
          have HVK := Lib.hid hvk
          have hcell : wr.cell? ⟨G, k, none⟩ = some (v k) := cell_hd HGr.out (HV.out k hk)
          clear hk hvk hA
          go_wp2_with fail
          go_loopg [7, 8] 64 (fun kx s7 s8 wi => ∃ (i : Nat) (u : Nat → Value), s7 = u k ∧ s8 = .int .i64 i ∧ i ≤ 64 ∧ Hid (64 ≤ i + kx) ∧ Hid (Fam enc 8 wi B 24 m v n u (fun j => n j + pr (fun _ => 64) k i j) (fun j => n j + pr (fun _ => 64) k i j)) ∧ Hid (∀ j, k < j → j < m → u j = v j) ∧ Hid (wi.heap[G]? = some (.cells cG 29 (0, 0))) ∧ Hid (Hd wi B 29 H m u k) ∧ Hid (Bt B 24 w wi) ∧ Hid (B ≤ wi.heap.size))
          case atStart => exact ⟨0, u, (HUV.out k (Nat.le_refl _) HKK.out).symm, rfl, Nat.zero_le _, Lib.hid (by omega), HP, Lib.hid (fun j hj hjm => HUV.out j (by omega) hjm), HGr, HHr, HBr, HBs⟩
          case round =>
            clear HP HUV HGr HHr HBr HBs hcell
            obtain ⟨i, u, rfl, rfl, hin, HIX, HP, HUV, HGr, HHr, HBr, HBs⟩ := hrel
            by_cases hi : i < 64
            · have hiz : (i : Int) < 64 := by omega
              have hcell : wr.cell? ⟨G, k, none⟩ = some (.slice A (n k) c) := cell_hd HGr.out ((HV.out k HKK.out).trans (congrArg some HVK.out))
              have hcast : ((n k + i : Nat) : Int) = (n k : Int) + (i : Int) := Int.natCast_add _ _
              have hown := (HP.out.own k HKK.out)
              simp only [pr_at] at hown
              have hown := hown.whole
              have HOW := Lib.hid hown
              clear hown
              go_wp2_with (first | (go_at_call 31; refine (HM.out _ _ _).mono ?_; rintro e w' ⟨rfl, hb0⟩) | ((with_reducible refine gate_bs _ _ #[(0, .tmp 66)] rfl ?_); go_loud (refine wpList_build1 rfl 29 24 (.tmp 66) rfl Try.underlying29 w'.heap.size rfl (enc _ _) rfl (HBT.out _ _) ?_)) | ((with_reducible refine gate_ap #[.tmp 57, .tmp 67] _ rfl ?_); go_loud (refine wpList_grow_fam _ rfl (.tmp 57) (.tmp 67) 29 rfl Try.underlying29 zLines 80 infoLines (by kernel_rfl) (by decide) HP.out HAP.out HKK.out (u k) (.inl rfl) (n k + i) (Nat.le_add_right _ _) (marks enc (k : Int) (n k + i)) rfl HOW.out (Below.alloc hb0 hb0.size _) ⟨w'.heap.size, 0, none⟩ 1 1 (enc (k : Int) ((n k : Int) + (i : Int))) rfl (by rw [HK.out, Nat.one_mul]) (new_cell _ _ _) (H1.out _ _) (by decide) (by simp only [maxLen]; omega) (by omega) HBs.out (n k + i + 1) (marks_take_next HK.out _ _ _ hcast.symm) ?_)))
              intro v' w2 hF2 hb2 hs2 hsame
              have HF2 := Lib.hid (hF2.congr (l' := fun j => n j + pr (fun _ => 64) k (i + 1) j) (q' := fun j => n j + pr (fun _ => 64) k (i + 1) j) (slots_next n k i) (slots_next n k i))
              have HG2 := Lib.hid ((hsame G 29 cG (by decide) HGr.out).trans HGr.out)
              obtain ⟨cH, hcH⟩ := HHr.out.typed
              have HH2 := Lib.hid ((HHr.out.same (hsame H 29 cH (by decide) hcH)).congr (u' := fun j => if j = k then v' else u j) (fun j hj => if_neg (by omega)))
              have HB2 := Lib.hid (Bt.append HBr.out hb2 hsame)
              have HS2 := Lib.hid hs2
              have HU2 : Hid (∀ j, k < j → j < m → (if j = k then v' else u j) = v j) := Lib.hid (fun j hj hjm => (if_neg (by omega)).trans (HUV.out j hj hjm))
              clear hF2 hb2 hs2 hsame hcH hb0 HOW hcast hcell
              go_wp2_with fail
              go_roundg (64 - (i + 1))
              case measure => have := HIX.out; omega
              case rel => exact ⟨i + 1, fun j => if j = k then v' else u j, (if_pos rfl).symm, by go_num, hi, Lib.hid (by omega), HF2, HU2, HG2, HH2, HB2, HS2⟩
            · have hiz : ¬ (i : Int) < 64 := by omega
              obtain rfl : i = 64 := by omega
              have hown := (HP.out.own k HKK.out).own.choose_spec
              obtain ⟨A', c', huk, -, -⟩ := hown.slice
              rw [pr_at] at huk
              rw [huk]
              have HUK := Lib.hid huk
              obtain ⟨x0, hx0, hfz⟩ := HHr.out.old HKK.out
              clear hown huk
              go_wp2_with fail
              obtain ⟨cH, hcH⟩ := HHr.out.typed
              have HF2 := Lib.hid ((HP.out.aside hcH (by decide) (setCell_grown wr H k (.slice A' (n k + 64) c'))).congr (l' := fun j => n j + pr (fun _ => 64) (k + 1) 0 j) (q' := fun j => n j + pr (fun _ => 64) (k + 1) 0 j) (slots_step n k) (slots_step n k))
              have HG2 := Lib.hid ((Below.heap_setCell wr ⟨H, k, none⟩ (.slice A' (n k + 64) c') G HGH.out).trans HGr.out)
              have HH2 := Lib.hid (HHr.out.store1 (k' := k + 1) (u' := u) HKK.out HUK.out (fun j hj hjk => ⟨by omega, rfl⟩))
              have HB2 := Lib.hid (HBr.out.setCell (i := k) HHr.out.lt.1 HWH.out (.slice A' (n k + 64) c'))
              have HS2 := Lib.hid (Nat.le_trans HBs.out (setCell_grown wr H k (.slice A' (n k + 64) c')).size)
              go_roundg (m - (k + 1))
              case measure => have := HKX.out; have := HKK.out; omega
              case rel => exact ⟨k + 1, u, by go_num, HKK.out, Lib.hid (by have := HKK.out; omega), HF2, Lib.hid (fun j hj hjm => HUV.out j (by omega) hjm), HG2, HH2, HB2, HS2⟩
        · have hkz : ¬ (k : Int) < (m : Int) := by omega
          obtain rfl : m = k := by omega
          clear hk hkm HKX hkz HUV
          have HF3 := Lib.hid (HP.out.congrm (l' := fun j => n j + 64) (q' := fun j => n j + 64) (fun j hj => (slots_all (m := m) n m j hj).symm) (fun j hj => (slots_all (m := m) n m j hj).symm))
          clear HP
          go_wp2_with fail
          go_loopg [9] m (fun kx s9 wr => ∃ (k : Nat), s9 = .int .i64 k ∧ k ≤ m ∧ Hid (m ≤ k + kx) ∧ Hid (Fam enc 8 wr B 24 m v n u (fun j => n j + 64) (fun j => n j + 64)) ∧ Hid (wr.heap[G]? = some (.cells cG 29 (0, 0))) ∧ Hid (Hd wr B 29 H m u m) ∧ Hid (Bt B 24 w wr) ∧ Hid (B ≤ wr.heap.size))
          case atStart => exact ⟨0, rfl, Nat.zero_le _, Lib.hid (by omega), HF3, HGr, HHr, HBr, HBs⟩
          case round =>
            clear HF3 HGr HHr HBr HBs
            obtain ⟨k, rfl, hkm, HKX, HP, HGr, HHr, HBr, HBs⟩ := hrel
            by_cases hk : k < m
            · have hkz : (k : Int) < (m : Int) := by omega
              have HKK := Lib.hid hk
              have hnk := HN.out k hk
              obtain ⟨A, c, hvk, hnc, hA⟩ := (HP.out.rows k hk).own.choose_spec.slice
              have HVK := Lib.hid hvk
              have HA := Lib.hid hA
              obtain ⟨A', c', huk, hnc', hA'⟩ := (HP.out.own k hk).own.choose_spec.slice
              obtain ⟨g', rfl⟩ := hA' (by omega)
              have HUK := Lib.hid huk
              clear hk hvk hA huk hA'
              go_wp2_with fail
              go_loopg [10] (n k + 64) (fun kx s10 wr => ∃ (i : Nat), s10 = .int .i64 i ∧ i ≤ n k + 64 ∧ Hid (n k + 64 ≤ i + kx) ∧ Hid (Fam enc 8 wr B 24 m v n u (fun j => n j + 64) (fun j => n j + 64)) ∧ Hid (wr.heap[G]? = some (.cells cG 29 (0, 0))) ∧ Hid (Hd wr B 29 H m u m) ∧ Hid (Bt B 24 w wr) ∧ Hid (B ≤ wr.heap.size))
              case atStart => exact ⟨0, rfl, Nat.zero_le _, Lib.hid (by omega), HP, HGr, HHr, HBr, HBs⟩
              case round =>
                clear HP HGr HHr HBr HBs
                obtain ⟨i, rfl, hin, HIX, HP, HGr, HHr, HBr, HBs⟩ := hrel
                have hcG : wr.cell? ⟨G, k, none⟩ = some (.slice A (n k) c) := cell_hd HGr.out ((HV.out k HKK.out).trans (congrArg some HVK.out))
                have hcH : wr.cell? ⟨H, k, none⟩ = some (.slice (some ⟨g', 0, none⟩) (n k + 64) c') := (HHr.out.cell HKK.out).trans (congrArg some HUK.out)
                by_cases hi : i < n k + 64
                · have hiz : (i : Int) < (n k : Int) + 64 := by omega
                  have hi0 : (0 : Int) ≤ (i : Int) := by omega
                  have hMu := HP.out.own k HKK.out
                  rw [HUK.out] at hMu
                  have p0 : ∀ d os, (grow (redrawn wr d) os).cell? ⟨g', i * 8, none⟩ = some (ev 0 (k : Int) (i : Int)) := fun d os => cell_regrown (hMu.cell HK.out (t := i) (c := 0) (by omega) (by decide) (u := ev 0 (k : Int) (i : Int)) (by rw [HEV.out]; rfl)) d os
                  have p1 : ∀ d os, (grow (redrawn wr d) os).cell? ⟨g', i * 8 + 1, none⟩ = some (ev 1 (k : Int) (i : Int)) := fun d os => cell_regrown (hMu.cell HK.out (t := i) (c := 1) (by omega) (by decide) (u := ev 1 (k : Int) (i : Int)) (by rw [HEV.out]; rfl)) d os
                  have p2 : ∀ d os, (grow (redrawn wr d) os).cell? ⟨g', i * 8 + 2, none⟩ = some (ev 2 (k : Int) (i : Int)) := fun d os => cell_regrown (hMu.cell HK.out (t := i) (c := 2) (by omega) (by decide) (u := ev 2 (k : Int) (i : Int)) (by rw [HEV.out]; rfl)) d os
                  have p3 : ∀ d os, (grow (redrawn wr d) os).cell? ⟨g', i * 8 + 3, none⟩ = some (ev 3 (k : Int) (i : Int)) := fun d os => cell_regrown (hMu.cell HK.out (t := i) (c := 3) (by omega) (by decide) (u := ev 3 (k : Int) (i : Int)) (by rw [HEV.out]; rfl)) d os
                  have p4 : ∀ d os, (grow (redrawn wr d) os).cell? ⟨g', i * 8 + 4, none⟩ = some (ev 4 (k : Int) (i : Int)) := fun d os => cell_regrown (hMu.cell HK.out (t := i) (c := 4) (by omega) (by decide) (u := ev 4 (k : Int) (i : Int)) (by rw [HEV.out]; rfl)) d os
                  have p5 : ∀ d os, (grow (redrawn wr d) os).cell? ⟨g', i * 8 + 5, none⟩ = some (ev 5 (k : Int) (i : Int)) := fun d os => cell_regrown (hMu.cell HK.out (t := i) (c := 5) (by omega) (by decide) (u := ev 5 (k : Int) (i : Int)) (by rw [HEV.out]; rfl)) d os
                  have p6 : ∀ d os, (grow (redrawn wr d) os).cell? ⟨g', i * 8 + 6, none⟩ = some (ev 6 (k : Int) (i : Int)) := fun d os => cell_regrown (hMu.cell HK.out (t := i) (c := 6) (by omega) (by decide) (u := ev 6 (k : Int) (i : Int)) (by rw [HEV.out]; rfl)) d os
                  have p7 : ∀ d os, (grow (redrawn wr d) os).cell? ⟨g', i * 8 + 7, none⟩ = some (ev 7 (k : Int) (i : Int)) := fun d os => cell_regrown (hMu.cell HK.out (t := i) (c := 7) (by omega) (by decide) (u := ev 7 (k : Int) (i : Int)) (by rw [HEV.out]; rfl)) d os
                  have hmk : ∀ d os, Calls Try.prog 31 #[.int .i64 (k : Int), .int .i64 (i : Int)] (grow (redrawn wr d) os) fun e w'' => e = .returned (.agg #[ev 0 (k : Int) (i : Int), ev 1 (k : Int) (i : Int), ev 2 (k : Int) (i : Int), ev 3 (k : Int) (i : Int), ev 4 (k : Int) (i : Int), ev 5 (k : Int) (i : Int), ev 6 (k : Int) (i : Int), ev 7 (k : Int) (i : Int)]) ∧ ∃ q : Regrown, w'' = grow (redrawn wr q.d) q.os := fun d os => Calls.regrown_of ((HM.out (k : Int) (i : Int) _).mono fun e w' hh => ⟨by rw [hh.1, HEV.out], hh.2⟩)
                  have hse := HEQ.out (k : Int) (i : Int)
                  have kG := fun d os => cell_regrown hcG d os
                  have kH := fun d os => cell_regrown hcH d os
                  by_cases hin2 : i < n k
                  · have hd : decide ((i : Int) < (n k : Int)) = true := decide_eq_true (by omega)
                    obtain ⟨g, hg⟩ := HA.out (by omega)
                    subst hg
                    have hMv := HP.out.rows k HKK.out
                    rw [HVK.out] at hMv
                    have q0 : ∀ d os, (grow (redrawn wr d) os).cell? ⟨g, i * 8, none⟩ = some (ev 0 (k : Int) (i : Int)) := fun d os => cell_regrown (hMv.cell HK.out (t := i) (c := 0) (by omega) (by decide) (u := ev 0 (k : Int) (i : Int)) (by rw [HEV.out]; rfl)) d os
                    have q1 : ∀ d os, (grow (redrawn wr d) os).cell? ⟨g, i * 8 + 1, none⟩ = some (ev 1 (k : Int) (i : Int)) := fun d os => cell_regrown (hMv.cell HK.out (t := i) (c := 1) (by omega) (by decide) (u := ev 1 (k : Int) (i : Int)) (by rw [HEV.out]; rfl)) d os
                    have q2 : ∀ d os, (grow (redrawn wr d) os).cell? ⟨g, i * 8 + 2, none⟩ = some (ev 2 (k : Int) (i : Int)) := fun d os => cell_regrown (hMv.cell HK.out (t := i) (c := 2) (by omega) (by decide) (u := ev 2 (k : Int) (i : Int)) (by rw [HEV.out]; rfl)) d os
                    have q3 : ∀ d os, (grow (redrawn wr d) os).cell? ⟨g, i * 8 + 3, none⟩ = some (ev 3 (k : Int) (i : Int)) := fun d os => cell_regrown (hMv.cell HK.out (t := i) (c := 3) (by omega) (by decide) (u := ev 3 (k : Int) (i : Int)) (by rw [HEV.out]; rfl)) d os
                    have q4 : ∀ d os, (grow (redrawn wr d) os).cell? ⟨g, i * 8 + 4, none⟩ = some (ev 4 (k : Int) (i : Int)) := fun d os => cell_regrown (hMv.cell HK.out (t := i) (c := 4) (by omega) (by decide) (u := ev 4 (k : Int) (i : Int)) (by rw [HEV.out]; rfl)) d os
                    have q5 : ∀ d os, (grow (redrawn wr d) os).cell? ⟨g, i * 8 + 5, none⟩ = some (ev 5 (k : Int) (i : Int)) := fun d os => cell_regrown (hMv.cell HK.out (t := i) (c := 5) (by omega) (by decide) (u := ev 5 (k : Int) (i : Int)) (by rw [HEV.out]; rfl)) d os
                    have q6 : ∀ d os, (grow (redrawn wr d) os).cell? ⟨g, i * 8 + 6, none⟩ = some (ev 6 (k : Int) (i : Int)) := fun d os => cell_regrown (hMv.cell HK.out (t := i) (c := 6) (by omega) (by decide) (u := ev 6 (k : Int) (i : Int)) (by rw [HEV.out]; rfl)) d os
                    have q7 : ∀ d os, (grow (redrawn wr d) os).cell? ⟨g, i * 8 + 7, none⟩ = some (ev 7 (k : Int) (i : Int)) := fun d os => cell_regrown (hMv.cell HK.out (t := i) (c := 7) (by omega) (by decide) (u := ev 7 (k : Int) (i : Int)) (by rw [HEV.out]; rfl)) d os
                    go_wp2_with fail
                    refine wp_region_quiet_below (by kernel_rfl) (by kernel_rfl) ?_
                    repeat (first | go_big_quiet_step ((go_at_call 31; (with_reducible exact hmk _ _))) | quiet_step ((go_at_call 31; (with_reducible exact hmk _ _))))
                    refine wpQuiet_nil ?_
                    intro _ hw'
                    obtain ⟨⟨nq, osq⟩, hw''⟩ := hw'
                    subst hw''
                    have HB6 := below_regrown wr nq osq
                    generalize grow (redrawn wr nq) osq = w6 at HB6 ⊢
                    have HP2 := Lib.hid (HP.out.below HB6)
                    have HG2 := Lib.hid ((HB6.block G (Array.getElem?_eq_some_iff.1 HGr.out).1).trans HGr.out)
                    have HH2 := Lib.hid (HHr.out.below HB6)
                    have HB2 := Lib.hid (Bt.on HBr.out HBs.out HB6)
                    have HS2 := Lib.hid (Nat.le_trans HBs.out HB6.size)
                    go_wp2_with fail
                    go_roundg (n k + 64 - (i + 1))
                    case measure => have := HIX.out; omega
                    case rel => exact ⟨i + 1, by go_num, hi, Lib.hid (by omega), HP2, HG2, HH2, HB2, HS2⟩
                  · have hd : decide ((i : Int) < (n k : Int)) = false := decide_eq_false (by omega)
                    go_wp2_with fail
                    refine wp_region_quiet_below (by kernel_rfl) (by kernel_rfl) ?_
                    repeat (first | go_big_quiet_step ((go_at_call 31; (with_reducible exact hmk _ _))) | quiet_step ((go_at_call 31; (with_reducible exact hmk _ _))))
                    refine wpQuiet_nil ?_
                    intro _ hw'
                    obtain ⟨⟨nq, osq⟩, hw''⟩ := hw'
                    subst hw''
                    have HB6 := below_regrown wr nq osq
                    generalize grow (redrawn wr nq) osq = w6 at HB6 ⊢
                    have HP2 := Lib.hid (HP.out.below HB6)
                    have HG2 := Lib.hid ((HB6.block G (Array.getElem?_eq_some_iff.1 HGr.out).1).trans HGr.out)
                    have HH2 := Lib.hid (HHr.out.below HB6)
                    have HB2 := Lib.hid (Bt.on HBr.out HBs.out HB6)
                    have HS2 := Lib.hid (Nat.le_trans HBs.out HB6.size)
                    go_wp2_with fail
                    go_roundg (n k + 64 - (i + 1))
                    case measure => have := HIX.out; omega
                    case rel => exact ⟨i + 1, by go_num, hi, Lib.hid (by omega), HP2, HG2, HH2, HB2, HS2⟩
                · have hiz : ¬ (i : Int) < (n k : Int) + 64 := by omega
                  go_wp2_with fail
                  go_roundg (m - (k + 1))
                  case measure => have := HKX.out; have := HKK.out; omega
                  case rel => exact ⟨k + 1, by go_num, HKK.out, Lib.hid (by have := HKK.out; omega), HP, HGr, HHr, HBr, HBs⟩
            · have hkz : ¬ (k : Int) < (m : Int) := by omega
              obtain rfl : m = k := by omega
              clear hk hkm HKX hkz
              have HF4 := Lib.hid (HP.out.less HK.out (q' := fun j => n j) (fun j _ => Nat.le_add_right _ _))
              clear HP
              go_wp2_with fail
              go_loopg [11] m (fun kx s11 wr => ∃ (k : Nat) (u : Nat → Value), s11 = .int .i64 k ∧ k ≤ m ∧ Hid (m ≤ k + kx) ∧ Hid (Fam enc 8 wr B 24 m v n u (fun j => n j + 64) (fun j => n j)) ∧ Hid (wr.heap[G]? = some (.cells cG 29 (0, 0))) ∧ Hid (Hd wr B 29 H m u m) ∧ Hid (Bt B 24 w wr) ∧ Hid (B ≤ wr.heap.size))
              case atStart => exact ⟨0, u, rfl, Nat.zero_le _, Lib.hid (by omega), HF4, HGr, HHr, HBr, HBs⟩
              case round =>
                clear HF4 HGr HHr HBr HBs
                obtain ⟨k, u, rfl, hkm, HKX, HP, HGr, HHr, HBr, HBs⟩ := hrel
                by_cases hk : k < m
                · have hkz : (k : Int) < (m : Int) := by omega
                  have HKK := Lib.hid hk
                  have hnk := HN.out k hk
                  obtain ⟨A, c, hvk, hnc, hA⟩ := (HP.out.rows k hk).own.choose_spec.slice
                  have HVK := Lib.hid hvk
                  clear hk hvk hA
                  obtain ⟨iE, hiE, hzE, hsE, hbE⟩ := info_parts infoLines
                  go_wp2_with (first | (at_make; refine wpList_make_full _ rfl _ _ 29 rfl B 24 iE _ 8 Try.underlying29 hiE hzE hsE .i64 .i64 _ _ 64 rfl rfl rfl rfl (by rw [hbE]; decide) (by decide) HBs.out ?_; intro w1 hM hg1; have HM1 : Hid (∃ xs, ownW w1 B 24 8 (.slice (some ⟨wr.heap.size, 0, none⟩) 64 64) 64 xs ∧ ∀ x ∈ xs, x.oneCell' = true) := Lib.hid ⟨_, ownW_of hM, made_one zoneLines _⟩; clear hM; have hgate : wr.grownBy w1 none := hg1; clear hg1; fail_if_success done))
                  have hg1 := hgate
                  clear hgate
                  have HF1 := Lib.hid (HP.out.none hg1)
                  have HG1 : Hid (w1.heap[G]? = some (.cells cG 29 (0, 0))) := Lib.hid ((hg1.block G (Array.getElem?_eq_some_iff.1 HGr.out).1 (by simp)).trans HGr.out)
                  have HH1 := Lib.hid (HHr.out.kept hg1 (by simp))
                  have HB1 := Lib.hid (Bt.grown HBr.out hg1 HBs.out (fun _ h => by cases h) (fun _ h => by cases h))
                  have HS1 := Lib.hid (Nat.le_trans HBs.out hg1.size)
                  have HGM : Hid (G ≠ wr.heap.size) := Lib.hid (fun e => by have := (Array.getElem?_eq_some_iff.1 HGr.out).1; omega)
                  have HHM : Hid (H ≠ wr.heap.size) := Lib.hid (fun e => by have := HHr.out.lt.2; omega)
                  have HOM := Lib.hid HP.out.old
                  have HBM := HBs
                  clear hg1 hiE hzE hsE hbE HP HGr HHr HBr HBs
                  generalize wr.heap.size = M at HM1 HGM HHM HOM HBM ⊢
                  go_wp2_with fail
                  go_loopg [13] 64 (fun kx s13 wr => ∃ (i : Nat), s13 = .int .i64 i ∧ i ≤ 64 ∧ Hid (64 ≤ i + kx) ∧ Hid (∃ xs, ownW wr B 24 8 (.slice (some ⟨M, 0, none⟩) 64 64) 64 xs ∧ ∀ x ∈ xs, x.oneCell' = true) ∧ Hid (Fam enc 8 wr B 24 m v n u (fun j => n j + 64) (fun j => n j)) ∧ Hid (wr.heap[G]? = some (.cells cG 29 (0, 0))) ∧ Hid (Hd wr B 29 H m u m) ∧ Hid (Bt B 24 w wr) ∧ Hid (B ≤ wr.heap.size))
                  case atStart => exact ⟨0, rfl, Nat.zero_le _, Lib.hid (by omega), HM1, HF1, HG1, HH1, HB1, HS1⟩
                  case round =>
                    clear HM1 HF1 HG1 HH1 HB1 HS1
                    obtain ⟨i, rfl, hin, HIX, HMs, HP, HGr, HHr, HBr, HBs⟩ := hrel
                    obtain ⟨xs, hxo, hx1⟩ := HMs.out
                    have HXO := Lib.hid hxo
                    have HX1 := Lib.hid hx1
                    clear hxo hx1 HMs
                    by_cases hi : i < 64
                    · have hiz : (i : Int) < 64 := by omega
                      have hi0 : (0 : Int) ≤ (i : Int) := by omega
                      have hlE : (enc ((k : Int) + (m : Int)) (i : Int)).length = 8 := HK.out _ _
                      go_wp2_with (go_at_call 31; refine (HM.out _ _ _).mono ?_; rintro e w' ⟨rfl, hb⟩; have hst := (HXO.out.below hb).stores Try.prog i hi (enc ((k : Int) + (m : Int)) (i : Int)) (HK.out _ _) (H1.out _ _))
                      have HM2 : Hid (∃ xs, ownW (w'.setCells M (i * 8) (enc ((k : Int) + (m : Int)) (i : Int))) B 24 8 (.slice (some ⟨M, 0, none⟩) 64 64) 64 xs ∧ ∀ x ∈ xs, x.oneCell' = true) := Lib.hid ⟨_, ownW_store (HXO.out.below hb) i hi _ (HK.out _ _), over_one HX1.out (H1.out _ _)⟩
                      have hgr := setCells_grown w' M (enc ((k : Int) + (m : Int)) (i : Int)) (i * 8)
                      have HF2 := Lib.hid ((HP.out.below hb).kept hgr (fun j hj b hb2 => by simp only [Option.some.injEq] at hb2; subst hb2; exact HOM.out j hj))
                      have HG2 := Lib.hid ((setCells_other w' M (enc ((k : Int) + (m : Int)) (i : Int)) (i * 8) G HGM.out).trans ((hb.block G (Array.getElem?_eq_some_iff.1 HGr.out).1).trans HGr.out))
                      have HH2 := Lib.hid ((HHr.out.below hb).kept hgr (by simpa using HHM.out))
                      have HB2 := Lib.hid (Bt.grown (Bt.on HBr.out HBs.out hb) hgr (Nat.le_trans HBs.out hb.size) (fun b hb2 => by simp only [Option.some.injEq] at hb2; subst hb2; exact HBM.out) (fun b hb2 => by simp only [Option.some.injEq] at hb2; subst hb2; exact (HXO.out.below hb).typed (by simp [Value.ownBlock])))
                      have HS2 := Lib.hid (Nat.le_trans (Nat.le_trans HBs.out hb.size) hgr.size)
                      go_roundg (64 - (i + 1))
                      case measure => have := HIX.out; omega
                      case rel => exact ⟨i + 1, by go_num, hi, Lib.hid (by omega), HM2, HF2, HG2, HH2, HB2, HS2⟩
                    · have hiz : ¬ (i : Int) < 64 := by omega
                      clear hi hin HIX
                      have hcG : wr.cell? ⟨G, k, none⟩ = some (.slice A (n k) c) := cell_hd HGr.out ((HV.out k HKK.out).trans (congrArg some HVK.out))
                      have HOW := Lib.hid (HP.out.rows k HKK.out).whole
                      go_wp2_with ((with_reducible refine gate_ap #[.tmp 148, .tmp 149] _ rfl ?_); go_loud (refine wpList_grow_fam _ rfl (.tmp 148) (.tmp 149) 29 rfl Try.underlying29 zLines 80 infoLines (by kernel_rfl) (by decide) HP.out HAP.out HKK.out (.slice A (n k) c) (.inr HVK.out.symm) (n k) (Nat.le_refl _) (marks enc (k : Int) (n k)) rfl (HVK.out ▸ HOW.out) (Below.refl _ _) ⟨M, 0, none⟩ 64 64 xs rfl HXO.out.1 (fun j u hu => row_cell HXO.out j u hu) HX1.out (by decide) (by simp only [maxLen]; omega) (by omega) HBs.out (n k) (marks_take_over HK.out _ _ _) ?_; intro v' w2 hF2 hb2 hs2 hsame; obtain ⟨A2, c2, hv2, -, -⟩ := (hF2.own k HKK.out).own.choose_spec.slice; simp only [if_true] at hv2; subst hv2; have HF2 := Lib.hid (hF2.congr (l' := fun j => n j + 64) (q' := fun j => n j) (fun j => by by_cases h : j = k <;> simp [h]) (fun j => by by_cases h : j = k <;> simp [h])); have HSM := Lib.hid hsame; have HB2 := Lib.hid (Bt.append HBr.out hb2 hsame); obtain ⟨cH, hcH⟩ := HHr.out.typed; have HH2 := Lib.hid (HHr.out.same (hsame H 29 cH (by decide) hcH)); obtain ⟨x0, hx0, hfz⟩ := HH2.out.old HKK.out; clear hF2 hb2 hsame))
                      obtain ⟨cH2, hcH2⟩ := HH2.out.typed
                      have HF3 := Lib.hid (HF2.out.aside hcH2 (by decide) (setCell_grown w2 H k (.slice A2 (n k + 64) c2)))
                      have HG3 := Lib.hid ((Below.heap_setCell w2 ⟨H, k, none⟩ (.slice A2 (n k + 64) c2) G HGH.out).trans ((HSM.out G 29 cG (by decide) HGr.out).trans HGr.out))
                      have HH3 := Lib.hid (HH2.out.store1 (k' := m) (u' := fun j => if j = k then (.slice A2 (n k + 64) c2) else u j) HKK.out (if_pos rfl) (fun j hj hjk => ⟨hj, if_neg hjk⟩))
                      have HB3 := Lib.hid (HB2.out.setCell (i := k) HH2.out.lt.1 HWH.out (.slice A2 (n k + 64) c2))
                      have HS3 := Lib.hid (Nat.le_trans hs2 (setCell_grown w2 H k (.slice A2 (n k + 64) c2)).size)
                      go_roundg (m - (k + 1))
                      case measure => have := HKX.out; have := HKK.out; omega
                      case rel => exact ⟨k + 1, fun j => if j = k then (.slice A2 (n k + 64) c2) else u j, by go_num, HKK.out, Lib.hid (by have := HKK.out; omega), HF3, HG3, HH3, HB3, HS3⟩
                · have hkz : ¬ (k : Int) < (m : Int) := by omega
                  obtain rfl : m = k := by omega
                  clear hk hkm HKX hkz
                  go_wp2_with fail
                  go_loopg [14] m (fun kx s14 wr => ∃ (k : Nat), s14 = .int .i64 k ∧ k ≤ m ∧ Hid (m ≤ k + kx) ∧ Hid (Fam enc 8 wr B 24 m v n u (fun j => n j + 64) (fun j => n j)) ∧ Hid (wr.heap[G]? = some (.cells cG 29 (0, 0))) ∧ Hid (Hd wr B 29 H m u m) ∧ Hid (Bt B 24 w wr) ∧ Hid (B ≤ wr.heap.size))
                  case atStart => exact ⟨0, rfl, Nat.zero_le _, Lib.hid (by omega), HP, HGr, HHr, HBr, HBs⟩
                  case round =>
                    clear HP HGr HHr HBr HBs
                    obtain ⟨k, rfl, hkm, HKX, HP, HGr, HHr, HBr, HBs⟩ := hrel
                    by_cases hk : k < m
                    · have hkz : (k : Int) < (m : Int) := by omega
                      have HKK := Lib.hid hk
                      have hnk := HN.out k hk
                      obtain ⟨A, c, hvk, hnc, hA⟩ := (HP.out.rows k hk).own.choose_spec.slice
                      have HVK := Lib.hid hvk
                      have HA := Lib.hid hA
                      obtain ⟨A', c', huk, hnc', hA'⟩ := (HP.out.own k hk).own.choose_spec.slice
                      obtain ⟨g', rfl⟩ := hA' (by omega)
                      have HUK := Lib.hid huk
                      clear hk hvk hA huk hA'
                      go_wp2_with fail
                      go_loopg [15] (n k) (fun kx s15 wr => ∃ (i : Nat), s15 = .int .i64 i ∧ i ≤ n k ∧ Hid (n k ≤ i + kx) ∧ Hid (Fam enc 8 wr B 24 m v n u (fun j => n j + 64) (fun j => n j)) ∧ Hid (wr.heap[G]? = some (.cells cG 29 (0, 0))) ∧ Hid (Hd wr B 29 H m u m) ∧ Hid (Bt B 24 w wr) ∧ Hid (B ≤ wr.heap.size))
                      case atStart => exact ⟨0, rfl, Nat.zero_le _, Lib.hid (by omega), HP, HGr, HHr, HBr, HBs⟩
                      case round =>
                        clear HP HGr HHr HBr HBs
                        obtain ⟨i, rfl, hin, HIX, HP, HGr, HHr, HBr, HBs⟩ := hrel
                        have hcG : wr.cell? ⟨G, k, none⟩ = some (.slice A (n k) c) := cell_hd HGr.out ((HV.out k HKK.out).trans (congrArg some HVK.out))
                        have hcH : wr.cell? ⟨H, k, none⟩ = some (.slice (some ⟨g', 0, none⟩) (n k + 64) c') := (HHr.out.cell HKK.out).trans (congrArg some HUK.out)
                        by_cases hi : i < n k
                        · have hiz : (i : Int) < (n k : Int) := by omega
                          have hi0 : (0 : Int) ≤ (i : Int) := by omega
                          have hMu := HP.out.own k HKK.out
                          rw [HUK.out] at hMu
                          have p0 : ∀ d os, (grow (redrawn wr d) os).cell? ⟨g', i * 8, none⟩ = some (ev 0 (k : Int) (i : Int)) := fun d os => cell_regrown (hMu.cell HK.out (t := i) (c := 0) (by omega) (by decide) (u := ev 0 (k : Int) (i : Int)) (by rw [HEV.out]; rfl)) d os
                          have p1 : ∀ d os, (grow (redrawn wr d) os).cell? ⟨g', i * 8 + 1, none⟩ = some (ev 1 (k : Int) (i : Int)) := fun d os => cell_regrown (hMu.cell HK.out (t := i) (c := 1) (by omega) (by decide) (u := ev 1 (k : Int) (i : Int)) (by rw [HEV.out]; rfl)) d os
                          have p2 : ∀ d os, (grow (redrawn wr d) os).cell? ⟨g', i * 8 + 2, none⟩ = some (ev 2 (k : Int) (i : Int)) := fun d os => cell_regrown (hMu.cell HK.out (t := i) (c := 2) (by omega) (by decide) (u := ev 2 (k : Int) (i : Int)) (by rw [HEV.out]; rfl)) d os
                          have p3 : ∀ d os, (grow (redrawn wr d) os).cell? ⟨g', i * 8 + 3, none⟩ = some (ev 3 (k : Int) (i : Int)) := fun d os => cell_regrown (hMu.cell HK.out (t := i) (c := 3) (by omega) (by decide) (u := ev 3 (k : Int) (i : Int)) (by rw [HEV.out]; rfl)) d os
                          have p4 : ∀ d os, (grow (redrawn wr d) os).cell? ⟨g', i * 8 + 4, none⟩ = some (ev 4 (k : Int) (i : Int)) := fun d os => cell_regrown (hMu.cell HK.out (t := i) (c := 4) (by omega) (by decide) (u := ev 4 (k : Int) (i : Int)) (by rw [HEV.out]; rfl)) d os
                          have p5 : ∀ d os, (grow (redrawn wr d) os).cell? ⟨g', i * 8 + 5, none⟩ = some (ev 5 (k : Int) (i : Int)) := fun d os => cell_regrown (hMu.cell HK.out (t := i) (c := 5) (by omega) (by decide) (u := ev 5 (k : Int) (i : Int)) (by rw [HEV.out]; rfl)) d os
                          have p6 : ∀ d os, (grow (redrawn wr d) os).cell? ⟨g', i * 8 + 6, none⟩ = some (ev 6 (k : Int) (i : Int)) := fun d os => cell_regrown (hMu.cell HK.out (t := i) (c := 6) (by omega) (by decide) (u := ev 6 (k : Int) (i : Int)) (by rw [HEV.out]; rfl)) d os
                          have p7 : ∀ d os, (grow (redrawn wr d) os).cell? ⟨g', i * 8 + 7, none⟩ = some (ev 7 (k : Int) (i : Int)) := fun d os => cell_regrown (hMu.cell HK.out (t := i) (c := 7) (by omega) (by decide) (u := ev 7 (k : Int) (i : Int)) (by rw [HEV.out]; rfl)) d os
                          have hmk : ∀ d os, Calls Try.prog 31 #[.int .i64 (k : Int), .int .i64 (i : Int)] (grow (redrawn wr d) os) fun e w'' => e = .returned (.agg #[ev 0 (k : Int) (i : Int), ev 1 (k : Int) (i : Int), ev 2 (k : Int) (i : Int), ev 3 (k : Int) (i : Int), ev 4 (k : Int) (i : Int), ev 5 (k : Int) (i : Int), ev 6 (k : Int) (i : Int), ev 7 (k : Int) (i : Int)]) ∧ ∃ q : Regrown, w'' = grow (redrawn wr q.d) q.os := fun d os => Calls.regrown_of ((HM.out (k : Int) (i : Int) _).mono fun e w' hh => ⟨by rw [hh.1, HEV.out], hh.2⟩)
                          have hse := HEQ.out (k : Int) (i : Int)
                          have kG := fun d os => cell_regrown hcG d os
                          have kH := fun d os => cell_regrown hcH d os
                          have hi64 : (i : Int) < (n k : Int) + 64 := by omega
                          have hi64n : i < n k + 64 := by omega
                          obtain ⟨g, hg⟩ := HA.out (by omega)
                          subst hg
                          have hMv := HP.out.rows k HKK.out
                          rw [HVK.out] at hMv
                          have q0 : ∀ d os, (grow (redrawn wr d) os).cell? ⟨g, i * 8, none⟩ = some (ev 0 (k : Int) (i : Int)) := fun d os => cell_regrown (hMv.cell HK.out (t := i) (c := 0) (by omega) (by decide) (u := ev 0 (k : Int) (i : Int)) (by rw [HEV.out]; rfl)) d os
                          have q1 : ∀ d os, (grow (redrawn wr d) os).cell? ⟨g, i * 8 + 1, none⟩ = some (ev 1 (k : Int) (i : Int)) := fun d os => cell_regrown (hMv.cell HK.out (t := i) (c := 1) (by omega) (by decide) (u := ev 1 (k : Int) (i : Int)) (by rw [HEV.out]; rfl)) d os
                          have q2 : ∀ d os, (grow (redrawn wr d) os).cell? ⟨g, i * 8 + 2, none⟩ = some (ev 2 (k : Int) (i : Int)) := fun d os => cell_regrown (hMv.cell HK.out (t := i) (c := 2) (by omega) (by decide) (u := ev 2 (k : Int) (i : Int)) (by rw [HEV.out]; rfl)) d os
                          have q3 : ∀ d os, (grow (redrawn wr d) os).cell? ⟨g, i * 8 + 3, none⟩ = some (ev 3 (k : Int) (i : Int)) := fun d os => cell_regrown (hMv.cell HK.out (t := i) (c := 3) (by omega) (by decide) (u := ev 3 (k : Int) (i : Int)) (by rw [HEV.out]; rfl)) d os
                          have q4 : ∀ d os, (grow (redrawn wr d) os).cell? ⟨g, i * 8 + 4, none⟩ = some (ev 4 (k : Int) (i : Int)) := fun d os => cell_regrown (hMv.cell HK.out (t := i) (c := 4) (by omega) (by decide) (u := ev 4 (k : Int) (i : Int)) (by rw [HEV.out]; rfl)) d os
                          have q5 : ∀ d os, (grow (redrawn wr d) os).cell? ⟨g, i * 8 + 5, none⟩ = some (ev 5 (k : Int) (i : Int)) := fun d os => cell_regrown (hMv.cell HK.out (t := i) (c := 5) (by omega) (by decide) (u := ev 5 (k : Int) (i : Int)) (by rw [HEV.out]; rfl)) d os
                          have q6 : ∀ d os, (grow (redrawn wr d) os).cell? ⟨g, i * 8 + 6, none⟩ = some (ev 6 (k : Int) (i : Int)) := fun d os => cell_regrown (hMv.cell HK.out (t := i) (c := 6) (by omega) (by decide) (u := ev 6 (k : Int) (i : Int)) (by rw [HEV.out]; rfl)) d os
                          have q7 : ∀ d os, (grow (redrawn wr d) os).cell? ⟨g, i * 8 + 7, none⟩ = some (ev 7 (k : Int) (i : Int)) := fun d os => cell_regrown (hMv.cell HK.out (t := i) (c := 7) (by omega) (by decide) (u := ev 7 (k : Int) (i : Int)) (by rw [HEV.out]; rfl)) d os
                          go_wp2_with fail
                          refine wp_region_quiet_below (by kernel_rfl) (by kernel_rfl) ?_
                          repeat (first | go_big_quiet_step ((go_at_call 31; (with_reducible exact hmk _ _))) | quiet_step ((go_at_call 31; (with_reducible exact hmk _ _))))
                          refine wpQuiet_nil ?_
                          intro _ hw'
                          obtain ⟨⟨nq, osq⟩, hw''⟩ := hw'
                          subst hw''
                          have HB6 := below_regrown wr nq osq
                          generalize grow (redrawn wr nq) osq = w6 at HB6 ⊢
                          have HP2 := Lib.hid (HP.out.below HB6)
                          have HG2 := Lib.hid ((HB6.block G (Array.getElem?_eq_some_iff.1 HGr.out).1).trans HGr.out)
                          have HH2 := Lib.hid (HHr.out.below HB6)
                          have HB2 := Lib.hid (Bt.on HBr.out HBs.out HB6)
                          have HS2 := Lib.hid (Nat.le_trans HBs.out HB6.size)
                          go_wp2_with fail
                          go_roundg (n k - (i + 1))
                          case measure => have := HIX.out; omega
                          case rel => exact ⟨i + 1, by go_num, hi, Lib.hid (by omega), HP2, HG2, HH2, HB2, HS2⟩
                        · have hiz : ¬ (i : Int) < (n k : Int) := by omega
                          go_wp2_with fail
                          go_roundg (m - (k + 1))
                          case measure => have := HKX.out; have := HKK.out; omega
                          case rel => exact ⟨k + 1, by go_num, HKK.out, Lib.hid (by have := HKK.out; omega), HP, HGr, HHr, HBr, HBs⟩
                    · have hkz : ¬ (k : Int) < (m : Int) := by omega
                      obtain rfl : m = k := by omega
                      go_wp2_with fail
                      go_ret
                      exact ⟨rfl, HBr.out⟩
end Go.Proofs.Ytokmkjgbhlcngaa.Ap
namespace Go.Proofs.Ytokmkjgbhlcngaa.Ap
open Go.RowKit Go.Sort Go.Lib Go.Proofs Go.Proofs.Ytokmkjgbhlcngaa.Q
set_option linter.all false
/-- The cells of a mark of storeman/api.Line. -/
def evLine (c : Nat) (k i : Int) : Value := match c with
  | 0 => .int .i64 (mk k i) | 1 => .string ⟨#[]⟩ | 5 => .int .u8 0 | 7 => .string ⟨#[]⟩ | _ => .int .i64 0
def encLine (k i : Int) : List Value := [.int .i64 (mk k i), .string ⟨#[]⟩, .int .i64 0, .int .i64 0, .int .i64 0, .int .u8 0, .int .i64 0, .string ⟨#[]⟩]
set_option maxHeartbeats 4000000 in
theorem markLine_runs (k i : Int) (W : World) : Calls Try.prog 31 #[.int .i64 k, .int .i64 i] W fun e w' => e = .returned (.agg (encLine k i).toArray) ∧ Below W.heap.size W w' := by
  have hul := Try.underlying24
  go_enter Try.func31, Try.ntmps31
  go_wp2_with (go_at_call 41; refine (mark_runs _ _ _).mono ?_; rintro e w' ⟨rfl, rfl⟩)
  (try simp only [Exit.inBlock, Exit.then])
  refine bodyPost_ret (results_cell_row rfl _ _ W.heap.size 24 _ (0, 0) _ rfl (heap_alloc_new W _) hul rfl (by kernel_rfl)) rfl ?_
  exact ⟨rfl, Below.alloc (Below.refl _ _) (Nat.le_refl _) _⟩
theorem built_line (k i : Int) : Try.prog.builtSlice 24 1 [(0, .agg (encLine k i).toArray)] = some (encLine k i).toArray := by kernel_rfl
attribute [local go_sem high] eqA24
theorem eq_line (k i : Int) (W : World) : (binOp .eql 24 (.agg #[evLine 0 k i, evLine 1 k i, evLine 2 k i, evLine 3 k i, evLine 4 k i, evLine 5 k i, evLine 6 k i, evLine 7 k i]) (.agg #[evLine 0 k i, evLine 1 k i, evLine 2 k i, evLine 3 k i, evLine 4 k i, evLine 5 k i, evLine 6 k i, evLine 7 k i])).run Try.prog W = .ok (.bool true) W := by
  simp only [evLine]
  go_simp
theorem one_line (k i : Int) : ∀ u ∈ encLine k i, u.oneCell' = true := by
  intro u hu
  simp only [encLine, List.mem_cons, List.not_mem_nil, or_false] at hu
  rcases hu with rfl | rfl | rfl | rfl | rfl | rfl | rfl | rfl <;> rfl
/-- flatLines. -/
theorem flatLines_rows (m G capG B : Nat) (cG : Array Value) (v : Nat → Value) (n : Nat → Nat) (w : World)
    (hG : w.heap[G]? = some (.cells cG 29 (0, 0))) (hv : ∀ k, k < m → cG[k]? = some (v k)) (hown : ∀ k, k < m → ∃ xs, ownW w B 24 8 (v k) (n k) xs)
    (hap : ∀ j k, j < m → k < m → j ≠ k → ∀ b, (v j).ownBlock = some b → (v k).ownBlock ≠ some b) (hn : ∀ k, k < m → n k ≤ 1000000000) (hm : m ≤ 1000000000) (hB : B ≤ w.heap.size) :
    Calls Try.prog 54 #[.slice (some ⟨G, 0, none⟩) m capG] w fun e w' => e = .returned (.bool true) ∧ Bt B 24 w w' :=
  flatLines_any encLine (fun _ _ => rfl) one_line
    markLine_runs evLine (fun _ _ => rfl) eq_line built_line m G capG B cG v n w hG hv hown hap hn hm hB
end Go.Proofs.Ytokmkjgbhlcngaa.Ap
namespace Go.Proofs.Ytokmkjgbhlcngaa.Ap
open Go.RowKit Go.Sort Go.Lib Go.Proofs
set_option linter.all false
theorem owns_below {w w1 : World} {B : Nat} {e : TypeId} {K : Nat} {v : Value} {n : Nat} {xs : List Value} (h : w.ownsRow B e K v n xs) (hb : Below w.heap.size w w1) : w1.ownsRow B e K v n xs := by
  refine ⟨h.1, ?_⟩
  rcases h.2 with h | ⟨g, cap, cur, h1, h2, h3, h4⟩
  · exact .inl h
  · exact .inr ⟨g, cap, cur, h1, h2, (hb.block g (Array.getElem?_eq_some_iff.1 h3).1).trans h3, h4⟩
theorem cells_over {w w1 : World} {A : Option Addr} {n K : Nat} {ys : List Value} (h : 0 < n → ∃ ad, A = some ad ∧ ∀ j u, ys[j]? = some u → w.cell? (ad.add j) = some u) (hb : Below w.heap.size w w1) (hl : ys.length = n * K) : ∀ ad, A = some ad → ∀ j u, ys[j]? = some u → w1.cell? (ad.add j) = some u := by
  intro ad had j u hu
  have hn : 0 < n := by
    rcases Nat.eq_zero_or_pos n with rfl | h'
    · have := (List.getElem?_eq_some_iff.1 hu).1; simp at hl; subst hl; simp at this
    · exact h'
  obtain ⟨ad', e, hc⟩ := h hn
  rw [had] at e
  obtain rfl : ad = ad' := Option.some.inj e
  rw [hb.cell (World.block_lt_of_cell? _ _ (hc j u hu))]
  exact hc j u hu
theorem src_none {n : Nat} {A : Option Addr} {F : Addr → Prop} (h : 0 < n → ∃ ad, A = some ad ∧ F ad) (e : A = none) : n = 0 := by
  rcases Nat.eq_zero_or_pos n with h0 | h0
  · exact h0
  · obtain ⟨ad, e2, -⟩ := h h0
    rw [e] at e2; cases e2
theorem run_append_none {P : Program} {w : World} (base : Nat) (t ty e : TypeId) (i : TypeInfo) (size : Nat) (ht : P.underlying t = some (.slice e)) (hi : P.info? e = some i) (v : Value) (n : Nat) (xs : List Value) (hown : w.ownsRow base e size v n xs) (c : Nat) :
    (Builtin.append_ #[t, t] ty #[v, .slice none 0 c]).run P w = .ok v w := by
  rcases hown.2 with ⟨rfl, rfl⟩ | ⟨g, cap, cur, rfl, _, _, hnc, _⟩
  · simp [Builtin.append_, run_underlying ht, sizeOf, typeInfo, hi, Builtin.lenOf, Builtin.firstCells]
  · simp [Builtin.append_, run_underlying ht, sizeOf, typeInfo, hi, Builtin.lenOf, Builtin.firstCells, hnc, storeCells]
/-- The kit's append within the capacity; a nil source may bear any capacity. -/
theorem append_fits_nil {P : Program} (w : World) {ops : Array Oper} {rest : List Oper} {o : Oper} {a : Act} {Q : Exit → Act → World → Prop}
    (hg : o.guard = none) (s x : Operand) (t : TypeId) (hop : o.op = Op.call { callee := Callee.builtin Builtin.append, args := #[s, x], argTypes := #[t, t] })
    (base : Nat) (e : TypeId) (i : TypeInfo) (size : Nat) (h1 : P.underlying t = some (.slice e)) (h2 : P.info? e = some i) (h4 : i.size = size)
    (g k cap : Nat) (xs : List Value) (hs : a.eval s = .slice (some ⟨g, 0, none⟩) k cap) (hown : w.ownsRow base e size (.slice (some ⟨g, 0, none⟩) k cap) k xs) (ao : Option Addr) (m c : Nat) (news : List Value) (hx : a.eval x = .slice ao m c) (hn : news.length = m * size)
    (hnone : ao = none → m = 0) (hc : ∀ ad, ao = some ad → ∀ j u, news[j]? = some u → w.cell? (ad.add j) = some u) (h1c : ∀ u ∈ news, u.oneCell' = true) (b1 : k + m ≤ cap)
    (hK : ∀ w', w'.ownsRow base e size (.slice (some ⟨g, 0, none⟩) (k + m) cap) (k + m) (xs ++ news) → w.grownBy w' (some g) → wpList P ops Q rest (a.put o.dst (.slice (some ⟨g, 0, none⟩) (k + m) cap)) w') :
    wpList P ops Q (o :: rest) a w := by
  cases ao with
  | some ad => exact wpList_append_fits w hg s x t hop base e i size h1 h2 h4 g k cap xs hs hown ad m c news hx hn (hc ad rfl) h1c b1 hK
  | none =>
    obtain rfl := hnone rfl
    have hnews : news = [] := List.eq_nil_of_length_eq_zero (by simpa using hn)
    subst hnews
    refine wpList_plain hg fun K hK' => ?_
    have hrun := run_append_none (P := P) (w := w) base t o.type e i size h1 h2 _ k xs hown c
    unfold Oper.wp
    simp [execOp, hop, resolve, invoke, builtin, hs, hx, hrun, Result.andThen]
    exact hK' _ _ (by simpa using hK w (by simpa using hown) (World.grownBy.refl _ _))
theorem lent_mark {enc : Int → Int → List Value} {K n : Nat} (hK : ∀ k i, (enc k i).length = K) {ys : List Value} (hy : ys.length = n * K) {i c : Nat} (h1 : n ≤ i) (h2 : i < n + 12) (hc : c < K) {u : Value} (hu : (enc 1 ((i : Int) - (n : Int)))[c]? = some u) : (ys ++ marks enc 1 12)[i * K + c]? = some u := by
  have e : i * K + c - n * K = (i - n) * K + c := by rw [Nat.sub_mul]; have := Nat.mul_le_mul_right K h1; omega
  rw [List.getElem?_append_right (by rw [hy]; have := Nat.mul_le_mul_right K h1; omega), hy, e, marks_get enc K hK 1 12 (i - n) c (by omega) hc]
  have : ((i - n : Nat) : Int) = (i : Int) - (n : Int) := by omega
  rw [this]; exact hu
theorem lent_old {K n i c : Nat} {ys zs : List Value} (hy : ys.length = n * K) (h : i < n) (hc : c < K) : (ys ++ zs)[i * K + c]? = ys[i * K + c]? := by
  rw [List.getElem?_append_left (by rw [hy]; have := Nat.mul_le_mul_right K (show i + 1 ≤ n from h); rw [Nat.succ_mul] at this; omega)]
theorem row_at {w : World} {B : Nat} {e : TypeId} {K g n cap : Nat} {xs : List Value} (h : w.ownsRow B e K (.slice (some ⟨g, 0, none⟩) n cap) n xs) (j : Nat) {u : Value} (hu : xs[j]? = some u) : w.cell? ⟨g, j, none⟩ = some u :=
  (ownW_of h).cells (g := g) (by simp [Value.ownBlock]) j u hu
end Go.Proofs.Ytokmkjgbhlcngaa.Ap
namespace Go.Proofs.Ytokmkjgbhlcngaa.Ap
open Go.RowKit Go.Sort Go.Lib Go.Proofs
set_option linter.all false
attribute [local irreducible] Go.Calls
set_option maxHeartbeats 8000000 in
set_option maxRecDepth 100000 in
theorem LentLines_runs (A : Option Addr) (n c : Nat) (ys : List Value) (w : World) (hy : ys.length = n * 8) (h1 : ∀ u ∈ ys, u.oneCell' = true) (hA : 0 < n → ∃ ad, A = some ad ∧ ∀ j u, ys[j]? = some u → w.cell? (ad.add j) = some u) (hn : n ≤ 1000000) :
    Calls Try.prog 14 #[.slice A n c] w fun e w' => ∃ g, e = .returned (.slice (some ⟨g, 0, none⟩) n (n + 12)) ∧ w'.ownsRow w.heap.size 24 8 (.slice (some ⟨g, 0, none⟩) (n + 12) (n + 12)) (n + 12) (ys ++ marks encLine 1 12) ∧ Below w.heap.size w w' := by
  have HY := Lib.hid hy
  have H1 := Lib.hid h1
  have HA := Lib.hid hA
  clear hy h1 hA
  obtain ⟨iE, hiE, hzE, hsE, hbE⟩ := info_parts infoLines
  go_enter Try.func14, Try.ntmps14
  go_wp2_with (first | (at_make; refine wpList_make_own _ rfl _ _ 29 rfl w.heap.size 24 iE _ 8 Try.underlying29 hiE hzE hsE .i64 .i64 _ (n + 12) rfl rfl (by simp) (by rw [hbE]; omega) (by simp only [maxLen]; omega) (Nat.le_refl _) ?_))
  intro w1 hO hg1
  have HO1 := Lib.hid hO
  have HB1 : Hid (Below w.heap.size w w1) := Lib.hid (below_grown (Below.refl _ _) hg1 (Nat.le_refl _) (fun _ h => by cases h))
  clear hO hg1
  go_wp2_with ((with_reducible refine gate_ap #[.tmp 9, .tmp 10] _ rfl ?_); go_loud (refine append_fits_nil _ rfl (.tmp 9) (.tmp 10) 29 rfl w.heap.size 24 iE 8 Try.underlying29 hiE hsE w.heap.size 0 (n + 12) [] rfl HO1.out A n c ys rfl HY.out (src_none HA.out) (cells_over HA.out HB1.out HY.out) H1.out (by omega) ?_))
  intro w2 ho2 hg2
  have HO2 : Hid (w2.ownsRow w.heap.size 24 8 (.slice (some ⟨w.heap.size, 0, none⟩) (n + 0) (n + 12)) (n + 0) (ys ++ marks encLine 1 0)) := Lib.hid (by simpa [marks] using ho2)
  have HB2 := Lib.hid (below_grown HB1.out hg2 HB1.out.size (fun k hk => by simp only [Option.some.injEq] at hk; omega))
  clear ho2 hg2 HO1 HB1
  go_wp2_with fail
  go_loopg [3, 4] 12 (fun kx s3 s4 wr => ∃ i : Nat, s3 = .slice (some ⟨w.heap.size, 0, none⟩) (n + i) (n + 12) ∧ s4 = .int .i64 i ∧ i ≤ 12 ∧ Hid (12 ≤ i + kx) ∧ Hid (wr.ownsRow w.heap.size 24 8 (.slice (some ⟨w.heap.size, 0, none⟩) (n + i) (n + 12)) (n + i) (ys ++ marks encLine 1 i)) ∧ Hid (Below w.heap.size w wr))
  case atStart => exact ⟨0, rfl, rfl, by omega, Lib.hid (by omega), HO2, HB2⟩
  case round =>
    clear HO2 HB2
    obtain ⟨i, rfl, rfl, hin, HIX, HO, HB⟩ := hrel
    by_cases hi : i < 12
    · have hiz : (i : Int) < 12 := by omega
      go_wp2_with (first | (go_at_call 31; refine (markLine_runs _ _ _).mono ?_; rintro e w' ⟨rfl, hb0⟩) | ((with_reducible refine gate_bs _ _ #[(0, .tmp 18)] rfl ?_); refine wpList_build1 rfl 29 24 (.tmp 18) rfl Try.underlying29 w'.heap.size rfl (encLine _ _) rfl (built_line _ _) ?_) | ((with_reducible refine gate_ap #[.tmp 16, .tmp 19] _ rfl ?_); go_loud (refine wpList_append_fits _ rfl (.tmp 16) (.tmp 19) 29 rfl w.heap.size 24 iE 8 Try.underlying29 hiE hsE w.heap.size (n + i) (n + 12) (ys ++ marks encLine 1 i) rfl (owns_below HO.out (Below.alloc hb0 hb0.size _)) ⟨w'.heap.size, 0, none⟩ 1 1 (encLine 1 (i : Int)) rfl rfl (new_cell _ _ _) (one_line _ _) (by omega) ?_)))
      intro w3 ho3 hg3
      rw [← marks_succ] at ho3
      have HO3 := Lib.hid ho3
      have HB3 := Lib.hid (below_grown (Below.alloc (below_on HB.out HB.out.size hb0) (Nat.le_trans HB.out.size hb0.size) _) hg3 (Nat.le_trans (Nat.le_trans HB.out.size hb0.size) (alloc_le _ _)) (fun k hk => by simp only [Option.some.injEq] at hk; omega))
      clear ho3 hg3 hb0
      go_wp2_with fail
      go_roundg (12 - (i + 1))
      case measure => have := HIX.out; omega
      case rel => exact ⟨i + 1, rfl, by go_num, hi, Lib.hid (by omega), HO3, HB3⟩
    · have hiz : ¬ (i : Int) < 12 := by omega
      obtain rfl : i = 12 := by omega
      have hz1 : (n : Int) ≤ ((n + 12 : Nat) : Int) := by omega
      have hz2 : (0 : Int) ≤ (n : Int) := by omega
      have hz3 : (n : Int) ≤ (n : Int) + 12 := by omega
      go_wp2_with fail
      go_ret
      exact ⟨w.heap.size, rfl, HO.out, HB.out⟩
end Go.Proofs.Ytokmkjgbhlcngaa.Ap
namespace Go.Proofs.Ytokmkjgbhlcngaa.Ap
open Go.RowKit Go.Sort Go.Lib Go.Proofs
set_option linter.all false
attribute [local irreducible] Go.Calls
set_option maxHeartbeats 8000000 in
set_option maxRecDepth 100000 in
theorem KeptLines_runs (A : Option Addr) (n c g B : Nat) (ys : List Value) (el : Nat → Nat → Value) (w : World) (hy : ys.length = n * 8) (hel : ∀ i, i < n → ∀ c, c < 8 → ys[i * 8 + c]? = some (el c i))
    (heq : ∀ i, i < n → ∀ W : World, (binOp .eql 24 (.agg #[el 0 i, el 1 i, el 2 i, el 3 i, el 4 i, el 5 i, el 6 i, el 7 i]) (.agg #[el 0 i, el 1 i, el 2 i, el 3 i, el 4 i, el 5 i, el 6 i, el 7 i])).run Try.prog W = .ok (.bool true) W)
    (hown : w.ownsRow B 24 8 (.slice (some ⟨g, 0, none⟩) (n + 12) (n + 12)) (n + 12) (ys ++ marks encLine 1 12))
    (hA : ∀ (W : World), Below w.heap.size w W → ∀ i, i < n → ∃ ad, A = some ad ∧ W.cell? (ad.add (i * 8)) = some (el 0 i) ∧ W.cell? ⟨(ad.add (i * 8)).block, (ad.add (i * 8)).off + 1, none⟩ = some (el 1 i) ∧ W.cell? ⟨(ad.add (i * 8)).block, (ad.add (i * 8)).off + 2, none⟩ = some (el 2 i) ∧ W.cell? ⟨(ad.add (i * 8)).block, (ad.add (i * 8)).off + 3, none⟩ = some (el 3 i) ∧ W.cell? ⟨(ad.add (i * 8)).block, (ad.add (i * 8)).off + 4, none⟩ = some (el 4 i) ∧ W.cell? ⟨(ad.add (i * 8)).block, (ad.add (i * 8)).off + 5, none⟩ = some (el 5 i) ∧ W.cell? ⟨(ad.add (i * 8)).block, (ad.add (i * 8)).off + 6, none⟩ = some (el 6 i) ∧ W.cell? ⟨(ad.add (i * 8)).block, (ad.add (i * 8)).off + 7, none⟩ = some (el 7 i)) (hn : n ≤ 1000000) :
    Calls Try.prog 17 #[.slice (some ⟨g, 0, none⟩) n (n + 12), .slice A n c] w fun e w' => e = .returned (.bool true) ∧ Below w.heap.size w w' := by
  have HY := Lib.hid hy
  have HEL := Lib.hid hel
  have HEQ := Lib.hid heq
  have HO := Lib.hid hown
  have HA := Lib.hid hA
  clear hy hel heq hown hA
  have hz1 : ((n : Int) + 12) ≤ (((n + 12 : Nat)) : Int) := by omega
  have hz2 : (0 : Int) ≤ (n : Int) + 12 := by omega
  go_enter Try.func17, Try.ntmps17
  go_wp2_with fail
  go_loopg [6] (n + 12) (fun kx s6 wr => ∃ i : Nat, s6 = .int .i64 i ∧ i ≤ n + 12 ∧ Hid (n + 12 ≤ i + kx) ∧ Hid (Below w.heap.size w wr))
  case atStart => exact ⟨0, rfl, by omega, Lib.hid (by omega), Lib.hid (Below.refl _ _)⟩
  case round =>
    obtain ⟨i, rfl, hin, HIX, HB⟩ := hrel
    have hO := owns_below HO.out HB.out
    by_cases hi : i < n + 12
    · have hiz : (i : Int) < (n : Int) + 12 := by omega
      have hi0 : (0 : Int) ≤ (i : Int) := by omega
      by_cases h2 : i < n
      · have hd : decide ((i : Int) < (n : Int)) = true := decide_eq_true (by omega)
        have hd2 : decide ((n : Int) ≤ (i : Int)) = false := decide_eq_false (by omega)
        have h2z : (i : Int) < (n : Int) := by omega
        have hd3 : decide (n ≤ i) = false := decide_eq_false (by omega)
        have hd4 : ¬ n ≤ i := by omega
        have hd5 : ¬ (n : Int) ≤ (i : Int) := by omega
        have p0 : ∀ d os, (grow (redrawn wr d) os).cell? ⟨g, i * 8, none⟩ = some (el 0 i) := fun d os => cell_regrown (row_at hO (i * 8) ((lent_old HY.out h2 (c := 0) (by decide)).trans (HEL.out i h2 0 (by decide)))) d os
        have p1 : ∀ d os, (grow (redrawn wr d) os).cell? ⟨g, i * 8 + 1, none⟩ = some (el 1 i) := fun d os => cell_regrown (row_at hO (i * 8 + 1) ((lent_old HY.out h2 (c := 1) (by decide)).trans (HEL.out i h2 1 (by decide)))) d os
        have p2 : ∀ d os, (grow (redrawn wr d) os).cell? ⟨g, i * 8 + 2, none⟩ = some (el 2 i) := fun d os => cell_regrown (row_at hO (i * 8 + 2) ((lent_old HY.out h2 (c := 2) (by decide)).trans (HEL.out i h2 2 (by decide)))) d os
        have p3 : ∀ d os, (grow (redrawn wr d) os).cell? ⟨g, i * 8 + 3, none⟩ = some (el 3 i) := fun d os => cell_regrown (row_at hO (i * 8 + 3) ((lent_old HY.out h2 (c := 3) (by decide)).trans (HEL.out i h2 3 (by decide)))) d os
        have p4 : ∀ d os, (grow (redrawn wr d) os).cell? ⟨g, i * 8 + 4, none⟩ = some (el 4 i) := fun d os => cell_regrown (row_at hO (i * 8 + 4) ((lent_old HY.out h2 (c := 4) (by decide)).trans (HEL.out i h2 4 (by decide)))) d os
        have p5 : ∀ d os, (grow (redrawn wr d) os).cell? ⟨g, i * 8 + 5, none⟩ = some (el 5 i) := fun d os => cell_regrown (row_at hO (i * 8 + 5) ((lent_old HY.out h2 (c := 5) (by decide)).trans (HEL.out i h2 5 (by decide)))) d os
        have p6 : ∀ d os, (grow (redrawn wr d) os).cell? ⟨g, i * 8 + 6, none⟩ = some (el 6 i) := fun d os => cell_regrown (row_at hO (i * 8 + 6) ((lent_old HY.out h2 (c := 6) (by decide)).trans (HEL.out i h2 6 (by decide)))) d os
        have p7 : ∀ d os, (grow (redrawn wr d) os).cell? ⟨g, i * 8 + 7, none⟩ = some (el 7 i) := fun d os => cell_regrown (row_at hO (i * 8 + 7) ((lent_old HY.out h2 (c := 7) (by decide)).trans (HEL.out i h2 7 (by decide)))) d os
        obtain ⟨ad, rfl, q0, q1, q2, q3, q4, q5, q6, q7⟩ := HA.out wr HB.out i h2
        have r0 := fun d os => cell_regrown q0 d os
        have r1 := fun d os => cell_regrown q1 d os
        have r2 := fun d os => cell_regrown q2 d os
        have r3 := fun d os => cell_regrown q3 d os
        have r4 := fun d os => cell_regrown q4 d os
        have r5 := fun d os => cell_regrown q5 d os
        have r6 := fun d os => cell_regrown q6 d os
        have r7 := fun d os => cell_regrown q7 d os
        have hse := HEQ.out i h2
        go_wp2_with fail
        refine wp_region_quiet_below (by kernel_rfl) (by kernel_rfl) ?_
        repeat (first | go_big_quiet_step (fail) | quiet_step (fail))
        refine wpQuiet_nil ?_
        intro _ hw'
        obtain ⟨⟨nq, osq⟩, hw''⟩ := hw'
        subst hw''
        have HB6 := Lib.hid (below_on HB.out HB.out.size (below_regrown wr nq osq))
        generalize grow (redrawn wr nq) osq = w6 at HB6 ⊢
        go_wp2_with fail
        go_roundg (n + 12 - (i + 1))
        case measure => have := HIX.out; omega
        case rel => exact ⟨i + 1, by go_num, hi, Lib.hid (by omega), HB6⟩
      · have hd : decide ((i : Int) < (n : Int)) = false := decide_eq_false (by omega)
        have hd2 : decide ((n : Int) ≤ (i : Int)) = true := decide_eq_true (by omega)
        have h2z : ¬ (i : Int) < (n : Int) := by omega
        have h3z : (n : Int) ≤ (i : Int) := by omega
        have hd3 : decide (n ≤ i) = true := decide_eq_true (by omega)
        have hd4 : n ≤ i := by omega
        have p0 : ∀ d os, (grow (redrawn wr d) os).cell? ⟨g, i * 8, none⟩ = some (evLine 0 1 ((i : Int) - (n : Int))) := fun d os => cell_regrown (row_at hO (i * 8) (lent_mark (enc := encLine) (fun _ _ => rfl) HY.out (by omega) hi (c := 0) (by decide) rfl)) d os
        have p1 : ∀ d os, (grow (redrawn wr d) os).cell? ⟨g, i * 8 + 1, none⟩ = some (evLine 1 1 ((i : Int) - (n : Int))) := fun d os => cell_regrown (row_at hO (i * 8 + 1) (lent_mark (enc := encLine) (fun _ _ => rfl) HY.out (by omega) hi (c := 1) (by decide) rfl)) d os
        have p2 : ∀ d os, (grow (redrawn wr d) os).cell? ⟨g, i * 8 + 2, none⟩ = some (evLine 2 1 ((i : Int) - (n : Int))) := fun d os => cell_regrown (row_at hO (i * 8 + 2) (lent_mark (enc := encLine) (fun _ _ => rfl) HY.out (by omega) hi (c := 2) (by decide) rfl)) d os
        have p3 : ∀ d os, (grow (redrawn wr d) os).cell? ⟨g, i * 8 + 3, none⟩ = some (evLine 3 1 ((i : Int) - (n : Int))) := fun d os => cell_regrown (row_at hO (i * 8 + 3) (lent_mark (enc := encLine) (fun _ _ => rfl) HY.out (by omega) hi (c := 3) (by decide) rfl)) d os
        have p4 : ∀ d os, (grow (redrawn wr d) os).cell? ⟨g, i * 8 + 4, none⟩ = some (evLine 4 1 ((i : Int) - (n : Int))) := fun d os => cell_regrown (row_at hO (i * 8 + 4) (lent_mark (enc := encLine) (fun _ _ => rfl) HY.out (by omega) hi (c := 4) (by decide) rfl)) d os
        have p5 : ∀ d os, (grow (redrawn wr d) os).cell? ⟨g, i * 8 + 5, none⟩ = some (evLine 5 1 ((i : Int) - (n : Int))) := fun d os => cell_regrown (row_at hO (i * 8 + 5) (lent_mark (enc := encLine) (fun _ _ => rfl) HY.out (by omega) hi (c := 5) (by decide) rfl)) d os
        have p6 : ∀ d os, (grow (redrawn wr d) os).cell? ⟨g, i * 8 + 6, none⟩ = some (evLine 6 1 ((i : Int) - (n : Int))) := fun d os => cell_regrown (row_at hO (i * 8 + 6) (lent_mark (enc := encLine) (fun _ _ => rfl) HY.out (by omega) hi (c := 6) (by decide) rfl)) d os
        have p7 : ∀ d os, (grow (redrawn wr d) os).cell? ⟨g, i * 8 + 7, none⟩ = some (evLine 7 1 ((i : Int) - (n : Int))) := fun d os => cell_regrown (row_at hO (i * 8 + 7) (lent_mark (enc := encLine) (fun _ _ => rfl) HY.out (by omega) hi (c := 7) (by decide) rfl)) d os
        have hmk : ∀ d os, Calls Try.prog 31 #[.int .i64 1, .int .i64 ((i : Int) - (n : Int))] (grow (redrawn wr d) os) fun e w'' => e = .returned (.agg #[evLine 0 1 ((i : Int) - (n : Int)), evLine 1 1 ((i : Int) - (n : Int)), evLine 2 1 ((i : Int) - (n : Int)), evLine 3 1 ((i : Int) - (n : Int)), evLine 4 1 ((i : Int) - (n : Int)), evLine 5 1 ((i : Int) - (n : Int)), evLine 6 1 ((i : Int) - (n : Int)), evLine 7 1 ((i : Int) - (n : Int))]) ∧ ∃ q : Regrown, w'' = grow (redrawn wr q.d) q.os := fun d os => Calls.regrown_of (markLine_runs 1 ((i : Int) - (n : Int)) _)
        have hse := eq_line 1 ((i : Int) - (n : Int))
        go_wp2_with fail
        refine wp_region_quiet_below (by kernel_rfl) (by kernel_rfl) ?_
        repeat (first | go_big_quiet_step ((go_at_call 31; (with_reducible exact hmk _ _))) | quiet_step ((go_at_call 31; (with_reducible exact hmk _ _))))
        refine wpQuiet_nil ?_
        intro _ hw'
        obtain ⟨⟨nq, osq⟩, hw''⟩ := hw'
        subst hw''
        have HB6 := Lib.hid (below_on HB.out HB.out.size (below_regrown wr nq osq))
        generalize grow (redrawn wr nq) osq = w6 at HB6 ⊢
        go_wp2_with fail
        go_roundg (n + 12 - (i + 1))
        case measure => have := HIX.out; omega
        case rel => exact ⟨i + 1, by go_num, hi, Lib.hid (by omega), HB6⟩
    · have hiz : ¬ (i : Int) < (n : Int) + 12 := by omega
      go_wp2_with fail
      go_ret
      exact ⟨rfl, HB.out⟩
end Go.Proofs.Ytokmkjgbhlcngaa.Ap
namespace Go.Proofs.Ytokmkjgbhlcngaa.Ap
open Go.RowKit Go.Sort Go.Lib Go.Proofs
set_option linter.all false
attribute [local irreducible] Go.Calls
set_option maxHeartbeats 8000000 in
set_option maxRecDepth 100000 in
theorem OverLines_runs (n g B : Nat) (xs : List Value) (w : World) (hown : ownW w B 24 8 (.slice (some ⟨g, 0, none⟩) (n + 12) (n + 12)) (n + 12) xs) (hn : n ≤ 1000000) :
    Calls Try.prog 18 #[.slice (some ⟨g, 0, none⟩) n (n + 12)] w fun e w' => e = .returned (.tuple #[]) ∧ w.grownBy w' (some g) := by
  have HO0 : Hid (∃ xs, ownW w B 24 8 (.slice (some ⟨g, 0, none⟩) (n + 12) (n + 12)) (n + 12) xs) := Lib.hid ⟨xs, hown⟩
  clear hown xs
  have hz1 : ((n : Int) + 12) ≤ (((n + 12 : Nat)) : Int) := by omega
  have hz2 : (0 : Int) ≤ (n : Int) + 12 := by omega
  go_enter Try.func18, Try.ntmps18
  go_wp2_with fail
  go_loopg [3] (n + 12) (fun kx s3 wr => ∃ i : Nat, s3 = .int .i64 i ∧ i ≤ n + 12 ∧ Hid (n + 12 ≤ i + kx) ∧ Hid (w.grownBy wr (some g)) ∧ Hid (∃ xs, ownW wr B 24 8 (.slice (some ⟨g, 0, none⟩) (n + 12) (n + 12)) (n + 12) xs))
  case atStart => exact ⟨0, rfl, by omega, Lib.hid (by omega), Lib.hid (grown_refl _ _), HO0⟩
  case round =>
    clear HO0
    obtain ⟨i, rfl, hin, HIX, HG, HO⟩ := hrel
    by_cases hi : i < n + 12
    · have hiz : (i : Int) < (n : Int) + 12 := by omega
      have hi0 : (0 : Int) ≤ (i : Int) := by omega
      have hlE : (encLine 2 (i : Int)).length = 8 := rfl
      obtain ⟨ys, hy⟩ := HO.out
      have HY := Lib.hid hy
      clear hy
      go_wp2_with (go_at_call 31; refine (markLine_runs _ _ _).mono ?_; rintro e w' ⟨rfl, hb⟩; have hst := (HY.out.below hb).stores Try.prog i hi (encLine 2 (i : Int)) rfl (one_line _ _); generalize encLine 2 (i : Int) = cs at hst hlE ⊢)
      have HG2 := Lib.hid (grown_trans (grown_trans HG.out (grown_below hb (some g))) (setCells_grown w' g cs (i * 8)))
      have HO2 : Hid (∃ xs, ownW (w'.setCells g (i * 8) cs) B 24 8 (.slice (some ⟨g, 0, none⟩) (n + 12) (n + 12)) (n + 12) xs) := Lib.hid ⟨_, ownW_store (HY.out.below hb) i hi cs hlE⟩
      go_roundg (n + 12 - (i + 1))
      case measure => have := HIX.out; omega
      case rel => exact ⟨i + 1, by go_num, hi, Lib.hid (by omega), HG2, HO2⟩
    · have hiz : ¬ (i : Int) < (n : Int) + 12 := by omega
      go_wp2_with fail
      go_end0
      exact ⟨rfl, HG.out⟩
end Go.Proofs.Ytokmkjgbhlcngaa.Ap
