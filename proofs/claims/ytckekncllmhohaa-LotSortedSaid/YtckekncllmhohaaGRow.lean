/- Rows of structs, as the sort's worlds have them, and as the words have them. -/
import Derived.Test.YtckekncllmhohaaGPlain
import Derived.Shelf.SlSortCmp.InsertionK
import Derived.Lib.QuietBelow
namespace Go.Proofs.Ytckekncllmhohaa.G
open Go.RowKit Go.Sort Go.Proofs Go.Proofs.YtckekncllmhohaaW.PrintWords Go.Proofs.YtckekncllmhohaaW.PrintLast Go.Proofs.YtckekncllmhohaaW.PrintMore
set_option linter.unusedVariables false
set_option linter.unusedSimpArgs false
set_option linter.all false
section
variable {α : Type} [Inhabited α]
theorem flatK_seg (enc : α → List Value) (k : Nat) (hk : ∀ x, (enc x).length = k) (d : Array α) (j : Nat) (hj : j < d.size) : ((flatK enc k d).toList.drop (j * k)).take k = enc d[j]! := by
  have hb : j * k + k ≤ d.size * k := by rw [← Nat.succ_mul]; exact Nat.mul_le_mul_right k hj
  apply List.ext_getElem
  · rw [List.length_take, List.length_drop, Array.length_toList, size_flatK, hk]; omega
  · intro t h1 h2
    rw [hk] at h2
    rw [List.getElem_take, List.getElem_drop, Array.getElem_toList]
    have h3 := get_flatK enc k d (j * k + t) (by omega)
    have hk0 : 0 < k := by omega
    rw [show (j * k + t) / k = j from by rw [Nat.mul_comm, Nat.mul_add_div hk0, Nat.div_eq_of_lt h2]; omega, show (j * k + t) % k = t from by rw [Nat.mul_comm, Nat.mul_add_mod, Nat.mod_eq_of_lt h2]] at h3
    rw [getElem!_pos _ _ (by rw [size_flatK]; omega), getElem!_pos _ _ (by rw [hk]; exact h2)] at h3
    exact h3
theorem holds_of_R (d : Kd α) (enc : α → List Value) (k : Nat) (hk : ∀ x, (enc x).length = k) (hsz : d.sz = k) (hM : ∀ {w base ok x cs}, d.M w base ok x cs → cs = enc x) {e : Nat} {W : World} {base : Nat} {ok : Nat → Prop} {g n cap : Nat} {xs : List α}
    (h : d.R e W base ok (.slice (some ⟨g, 0, none⟩) n cap) xs) : HoldsK enc k W g 0 xs.toArray ∧ n = xs.length ∧ base ≤ g ∧ ok g ∧ ∃ cur, W.heap[g]? = some (.cells cur e (0, 0)) ∧ n ≤ cap ∧ cap ≤ maxLen ∧ cur.size = cap * k := by
  obtain ⟨hok, inner, ⟨hl, hown⟩, hr⟩ := h
  rw [hsz] at hl hown hr
  rcases hown with ⟨hv, _⟩ | ⟨g', cap', cur, hv, hg, hh, h1, h2, h3, h4⟩
  · simp at hv
  · simp only [Value.slice.injEq, Option.some.injEq, Addr.mk.injEq] at hv
    obtain ⟨⟨rfl, -, -⟩, rfl, rfl⟩ := hv
    have hn : xs.length * k = inner.length := hl.symm
    refine ⟨fun t ht => ?_, rfl, hg, hok _ (by simp [Value.ownBlock]), cur, hh, h1, h2, h3⟩
    rw [size_flatK, List.size_toArray] at ht
    have hk0 : 0 < k := by
      rcases Nat.eq_zero_or_pos k with h0 | h0
      · rw [h0] at ht; omega
      · exact h0
    have hq : t / k < xs.length := Nat.div_lt_of_lt_mul (by rw [Nat.mul_comm]; exact ht)
    have hm : t % k < k := Nat.mod_lt _ hk0
    have hp := hM (hr.2 (t / k) xs[t / k] (List.getElem?_eq_getElem hq))
    have hct : t < cur.size := by
      have h5 : xs.length * k ≤ cap * k := Nat.mul_le_mul_right k h1
      omega
    refine ⟨?_, by simp [World.frozen?, hh]⟩
    rw [show (0 + t) = t from Nat.zero_add t, blk_cell hh t, get_flatK enc k _ t (by simpa using ht)]
    have e1 : inner[t]? = cur[t]? := by
      rw [← h4, List.getElem?_take, if_pos (by omega), Array.getElem?_toList]
    have e2 : ((inner.drop (t / k * k)).take k)[t % k]? = inner[t]? := by
      rw [List.getElem?_take, if_pos hm, List.getElem?_drop, show t / k * k + t % k = t from by rw [Nat.mul_comm]; exact Nat.div_add_mod t k]
    rw [← e1, ← e2, hp]
    rw [getElem!_pos (xs.toArray) _ (by simpa using hq), getElem!_pos _ _ (by rw [hk]; exact hm)]
    simp [hk, hm]
theorem R_of_sorted (d : Kd α) (enc : α → List Value) (k : Nat) (hk : ∀ x, (enc x).length = k) (hsz : d.sz = k) (hM : ∀ (w : World) (base : Nat) (ok : Nat → Prop) (x : α), d.M w base ok x (enc x)) {e : Nat} {W : World} {base : Nat} {ok : Nat → Prop} {g cap : Nat} {m : Nat} {dk : Array α} {os : Array Obj} {cur : Array Value}
    (hh : W.heap[g]? = some (.cells cur e (0, 0))) (hg : base ≤ g) (ho : ok g) (h1 : dk.size ≤ cap) (h2 : cap ≤ maxLen) (h3 : cur.size = cap * k) : d.R e (sortWorldK enc k (redrawn W 0) g 0 m dk os) base ok (.slice (some ⟨g, 0, none⟩) dk.size cap) dk.toList := by
  have hlt : g < W.heap.size := blk_lt hh
  have hh' : (sortWorldK enc k (redrawn W 0) g 0 m dk os).heap[g]? = some (.cells (putCells id 0 (flatK enc k dk) cur) e (0, 0)) := by
    unfold sortWorldK grow putRowK putRow mapBlock
    rw [Array.getElem?_append_left (by simpa [Sort.ahead, redrawn] using hlt)]
    simp [Sort.ahead, redrawn, Array.getElem?_modify, hh, onCells]
  have hle : dk.size * k ≤ cap * k := Nat.mul_le_mul_right k h1
  refine ⟨fun q hq => by simp [Value.ownBlock] at hq; rw [← hq]; exact ho, (flatK enc k dk).toList, ⟨by rw [hsz]; simp, .inr ⟨g, cap, _, by simp, hg, hh', by simpa using h1, h2, by rw [hsz, ← h3]; simp [putCells], ?_⟩⟩, ⟨by rw [hsz]; simp, fun j p hj => ?_⟩⟩
  · rw [hsz]
    apply List.ext_getElem?
    intro t
    rw [List.getElem?_take, Array.length_toList]
    by_cases ht : t < dk.size * k
    · rw [if_pos ht, Array.getElem?_toList, Array.getElem?_toList]
      unfold putCells
      rw [Array.getElem?_mapIdx, Array.getElem?_eq_getElem (by rw [h3]; omega), Option.map_some, if_pos ⟨Nat.zero_le _, by rw [size_flatK]; omega⟩, Nat.sub_zero, Array.getElem?_eq_getElem (by rw [size_flatK]; exact ht), getElem!_pos _ _ (by rw [size_flatK]; exact ht)]
      rfl
    · rw [if_neg ht, Array.getElem?_toList, Array.getElem?_eq_none (by rw [size_flatK]; omega)]
  · rw [hsz]
    have hjl : j < dk.size := by
      have := (List.getElem?_eq_some_iff.1 hj).1
      simpa using this
    rw [flatK_seg enc k hk dk j hjl]
    have hp : dk[j]! = p := by
      rw [getElem!_pos dk j hjl]
      have := (List.getElem?_eq_some_iff.1 hj).2
      simpa using this
    rw [hp]
    exact hM _ _ _ _
theorem below_of_sorted (enc : α → List Value) (k : Nat) {w W : World} {g : Nat} {m : Nat} {dk : Array α} {os : Array Obj} (h : Below w.heap.size w W) (hg : w.heap.size ≤ g) : Below w.heap.size w (sortWorldK enc k (redrawn W 0) g 0 m dk os) := by
  refine ⟨h.os, h.tape, h.output, ?_, fun i hi => ?_⟩
  · have := h.size
    unfold sortWorldK grow putRowK putRow mapBlock
    simp [Sort.ahead, redrawn]
    omega
  · have := h.size
    rw [← h.block i hi]
    unfold sortWorldK grow putRowK putRow mapBlock
    rw [Array.getElem?_append_left (by simp [Sort.ahead, redrawn]; omega)]
    simp [Sort.ahead, redrawn, Array.getElem?_modify]
    intro h2
    omega

/-! ### the insertion sort, on lists -/
/-- A thing laid into a row that is turned round, behind all that it is not less than. -/
def insRev (lt : α → α → Bool) (x : α) : List α → List α
  | [] => [x]
  | y :: t => if lt x y = true then y :: insRev lt x t else x :: y :: t
def sortRev (lt : α → α → Bool) (l : List α) : List α := l.foldl (fun acc x => insRev lt x acc) []
def stabl (lt : α → α → Bool) (l : List α) : List α := (sortRev lt l).reverse
theorem insRev_length (lt : α → α → Bool) (x : α) : ∀ acc : List α, (insRev lt x acc).length = acc.length + 1
  | [] => rfl
  | y :: t => by
    unfold insRev
    split
    · rw [List.length_cons, insRev_length lt x t, List.length_cons]
    · rfl
theorem foldRev_length (lt : α → α → Bool) : ∀ (l acc : List α), (l.foldl (fun acc x => insRev lt x acc) acc).length = acc.length + l.length
  | [], acc => rfl
  | x :: l, acc => by rw [List.foldl_cons, foldRev_length lt l, insRev_length, List.length_cons]; omega
theorem stabl_length (lt : α → α → Bool) (l : List α) : (stabl lt l).length = l.length := by
  unfold stabl sortRev
  rw [List.length_reverse, foldRev_length]
  simp
theorem get_mid (pre : List α) (x : α) (post : List α) : ((pre ++ x :: post).toArray)[pre.length]! = x := by
  rw [getElem!_pos _ _ (by simp)]
  simp
theorem insInner_list (lt : α → α → Bool) (x : α) (rest : List α) : ∀ (acc : List α), insInner lt 0 acc.length ((acc.reverse ++ x :: rest).toArray) = ((insRev lt x acc).reverse ++ rest).toArray
  | [] => rfl
  | y :: t => by
    have e0 : (y :: t).reverse ++ x :: rest = t.reverse ++ y :: x :: rest := by simp
    have g1 : ((t.reverse ++ y :: x :: rest).toArray)[t.length + 1]! = x := by
      have := get_mid (t.reverse ++ [y]) x rest
      simpa using this
    have g2 : ((t.reverse ++ y :: x :: rest).toArray)[t.length]! = y := by
      have := get_mid t.reverse y (x :: rest)
      simpa using this
    rw [List.length_cons, insInner, e0, g1, g2]
    unfold insRev
    by_cases h : lt x y = true
    · rw [if_pos (by simp [h]), if_pos h]
      have e1 : swp ((t.reverse ++ y :: x :: rest).toArray) (t.length + 1) t.length = ((t.reverse ++ x :: y :: rest).toArray) := by
        unfold swp
        rw [g1, g2, List.setIfInBounds_toArray, List.setIfInBounds_toArray]
        congr 1
        have h1 : (t.reverse ++ y :: x :: rest).set (t.length + 1) y = t.reverse ++ y :: y :: rest := by
          rw [List.set_append_right _ _ (by simp)]
          simp
        rw [h1, List.set_append_right _ _ (by simp)]
        simp
      rw [e1, insInner_list lt x (y :: rest) t]
      simp
    · rw [if_neg (by simp [h]), if_neg h]
      simp
theorem insOuter_list (lt : α → α → Bool) : ∀ (rest acc : List α), insOuter lt 0 (acc.length + rest.length) acc.length ((acc.reverse ++ rest).toArray) = ((rest.foldl (fun acc x => insRev lt x acc) acc).reverse).toArray
  | [], acc => by
    unfold insOuter
    simp
  | x :: rest, acc => by
    unfold insOuter
    rw [if_pos (by simp), insInner_list lt x rest acc]
    have hlen : (insRev lt x acc).length = acc.length + 1 := by
      induction acc with
      | nil => rfl
      | cons y t ih =>
        unfold insRev
        split
        · simp [ih]
        · simp
    have := insOuter_list lt rest (insRev lt x acc)
    rw [hlen] at this
    rw [List.length_cons, show acc.length + (rest.length + 1) = acc.length + 1 + rest.length by omega, this]
    rfl
theorem insertionSort_list (lt : α → α → Bool) (l : List α) (hl : 0 < l.length) : Sort.insertionSort lt l.toArray 0 l.length = (stabl lt l).toArray := by
  cases l with
  | nil => simp at hl
  | cons x r =>
    unfold Sort.insertionSort stabl sortRev
    have := insOuter_list lt r [x]
    simp only [List.length_cons, List.length_nil, List.reverse_cons, List.reverse_nil, List.nil_append, List.singleton_append, Nat.zero_add] at this
    rw [Nat.zero_add, List.length_cons, Nat.add_comm, this]
    rfl
end
end Go.Proofs.Ytckekncllmhohaa.G
