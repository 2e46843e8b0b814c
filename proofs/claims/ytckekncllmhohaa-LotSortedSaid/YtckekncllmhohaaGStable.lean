/- slices' stable sort as plain functions over an array, and that it is 'the' stable sort: sorted, and those that are alike in their order. -/
import Derived.Test.YtckekncllmhohaaGRow
import Derived.Sort.LotA
namespace Go.Proofs.Ytckekncllmhohaa.G
open Go.Sort
set_option linter.unusedVariables false
set_option linter.unusedSimpArgs false
set_option linter.all false
section
variable {α : Type} [Inhabited α]

/-! ### the functions -/
def swapRange : Nat → Nat → Nat → Array α → Array α
  | 0, _, _, d => d
  | n + 1, a, b, d => swapRange n (a + 1) (b + 1) (swp d a b)
def rotLoop (m : Nat) : Nat → Nat → Nat → Array α → Array α
  | 0, _, _, d => d
  | f + 1, i, j, d => if i = j then swapRange i (m - i) m d else if j < i then rotLoop m f (i - j) j (swapRange j (m - i) m d) else rotLoop m f i (j - i) (swapRange i (m - i) (m + j - i) d)
def rotate (a m b : Nat) (d : Array α) : Array α := rotLoop m (m - a + (b - m)) (m - a) (b - m) d
def bsr (p : Nat → Bool) (i j : Nat) : Nat := if i < j then (if p ((i + j) / 2) = true then bsr p ((i + j) / 2 + 1) j else bsr p i ((i + j) / 2)) else i
termination_by j - i
decreasing_by all_goals omega
def upMove : Nat → Nat → Array α → Array α
  | 0, _, d => d
  | n + 1, k, d => upMove n (k + 1) (swp d k (k + 1))
def downMove : Nat → Nat → Array α → Array α
  | 0, _, d => d
  | n + 1, k, d => downMove n (k - 1) (swp d k (k - 1))
/-- Where symMerge's search ends. -/
def smStart (lt : α → α → Bool) (a m b : Nat) (d : Array α) : Nat :=
  bsr (fun c => !lt d[(a + b) / 2 + m - 1 - c]! d[c]!) (if (a + b) / 2 < m then (a + b) / 2 + m - b else a) (if (a + b) / 2 < m then (a + b) / 2 else m)
def smRot (m st e : Nat) (d : Array α) : Array α := if st < m ∧ m < e then rotate st m e d else d
def symMerge (lt : α → α → Bool) : Nat → Nat → Nat → Nat → Array α → Array α
  | 0, _, _, _, d => d
  | f + 1, a, m, b, d =>
    if m - a = 1 then upMove (bsr (fun h => lt d[h]! d[a]!) m b - 1 - a) a d
    else if b - m = 1 then downMove (m - bsr (fun h => !lt d[m]! d[h]!) a m) m d
    else (fun d2 => if (a + b) / 2 < (a + b) / 2 + m - smStart lt a m b d ∧ (a + b) / 2 + m - smStart lt a m b d < b then symMerge lt f ((a + b) / 2) ((a + b) / 2 + m - smStart lt a m b d) b d2 else d2)
      ((fun d1 => if a < smStart lt a m b d ∧ smStart lt a m b d < (a + b) / 2 then symMerge lt f a (smStart lt a m b d) ((a + b) / 2) d1 else d1)
        (smRot m (smStart lt a m b d) ((a + b) / 2 + m - smStart lt a m b d) d))
def insBlocks (lt : α → α → Bool) (n a : Nat) (d : Array α) : Array α :=
  if a + 20 ≤ n then insBlocks lt n (a + 20) (Sort.insertionSort lt d a (a + 20)) else Sort.insertionSort lt d a n
termination_by n - a
def mergePass (lt : α → α → Bool) (s n a : Nat) (d : Array α) : Array α :=
  if 0 < s ∧ a + 2 * s ≤ n then mergePass lt s n (a + 2 * s) (symMerge lt n a (a + s) (a + 2 * s) d) else if a + s < n then symMerge lt n a (a + s) n d else d
termination_by n - a
decreasing_by all_goals omega
def mergeAll (lt : α → α → Bool) (s n : Nat) (d : Array α) : Array α :=
  if 0 < s ∧ s < n then mergeAll lt (s * 2) n (mergePass lt s n 0 d) else d
termination_by n - s
decreasing_by all_goals omega
def stableSort (lt : α → α → Bool) (d : Array α) : Array α := mergeAll lt 20 d.size (insBlocks lt d.size 0 d)

/-! ### sizes -/
theorem size_swapRange : ∀ (n a b : Nat) (d : Array α), (swapRange n a b d).size = d.size
  | 0, _, _, _ => rfl
  | n + 1, a, b, d => by unfold swapRange; rw [size_swapRange n, swp_size]
theorem size_rotLoop (m : Nat) : ∀ (f i j : Nat) (d : Array α), (rotLoop m f i j d).size = d.size
  | 0, _, _, _ => rfl
  | f + 1, i, j, d => by
    unfold rotLoop
    split
    · rw [size_swapRange]
    · split
      · rw [size_rotLoop m f, size_swapRange]
      · rw [size_rotLoop m f, size_swapRange]
theorem size_rotate (a m b : Nat) (d : Array α) : (rotate a m b d).size = d.size := size_rotLoop _ _ _ _ _
theorem size_smRot (m st e : Nat) (d : Array α) : (smRot m st e d).size = d.size := by unfold smRot; split; exact size_rotate _ _ _ _; rfl
theorem size_upMove : ∀ (n k : Nat) (d : Array α), (upMove n k d).size = d.size
  | 0, _, _ => rfl
  | n + 1, k, d => by unfold upMove; rw [size_upMove n, swp_size]
theorem size_downMove : ∀ (n k : Nat) (d : Array α), (downMove n k d).size = d.size
  | 0, _, _ => rfl
  | n + 1, k, d => by unfold downMove; rw [size_downMove n, swp_size]
theorem size_symMerge (lt : α → α → Bool) : ∀ (f a m b : Nat) (d : Array α), (symMerge lt f a m b d).size = d.size
  | 0, _, _, _, _ => rfl
  | f + 1, a, m, b, d => by
    unfold symMerge
    split
    · exact size_upMove _ _ _
    · split
      · exact size_downMove _ _ _
      · dsimp only
        split <;> (try rw [size_symMerge lt f]) <;> split <;> (try rw [size_symMerge lt f]) <;> exact size_smRot _ _ _ _
theorem size_insInner (lt : α → α → Bool) (a : Nat) : ∀ (j : Nat) (d : Array α), (insInner lt a j d).size = d.size
  | 0, _ => rfl
  | j + 1, d => by
    unfold insInner
    split
    · rw [size_insInner lt a j, swp_size]
    · rfl
theorem size_insOuter (lt : α → α → Bool) (a b : Nat) : ∀ (n i : Nat) (d : Array α), b - i = n → (insOuter lt a b i d).size = d.size
  | 0, i, d, h => by rw [insOuter, if_neg (by omega)]
  | n + 1, i, d, h => by rw [insOuter, if_pos (by omega), size_insOuter lt a b n (i + 1) _ (by omega), size_insInner]
theorem size_insertion (lt : α → α → Bool) (a b : Nat) (d : Array α) : (Sort.insertionSort lt d a b).size = d.size := size_insOuter lt a b _ _ _ rfl
theorem size_mergePass (lt : α → α → Bool) (s n : Nat) : ∀ (k a : Nat) (d : Array α), n - a ≤ k → (mergePass lt s n a d).size = d.size
  | 0, a, d, h => by rw [mergePass, if_neg (by omega), if_neg (by omega)]
  | k + 1, a, d, h => by
    rw [mergePass]
    split
    · rw [size_mergePass lt s n k _ _ (by omega), size_symMerge]
    · split
      · rw [size_symMerge]
      · rfl

/-! ### the search -/
theorem bsr_spec (p : Nat → Bool) : ∀ (n i j : Nat), j - i ≤ n → i ≤ j → i ≤ bsr p i j ∧ bsr p i j ≤ j ∧ (bsr p i j = i ∨ p (bsr p i j - 1) = true) ∧ (bsr p i j = j ∨ p (bsr p i j) = false)
  | 0, i, j, hn, hij => by
    obtain rfl : i = j := by omega
    rw [bsr, if_neg (Nat.lt_irrefl _)]
    exact ⟨Nat.le_refl _, Nat.le_refl _, Or.inl rfl, Or.inl rfl⟩
  | n + 1, i, j, hn, hij => by
    rw [bsr]
    by_cases h : i < j
    · rw [if_pos h]
      by_cases hp : p ((i + j) / 2) = true
      · rw [if_pos hp]
        obtain ⟨h1, h2, h3, h4⟩ := bsr_spec p n ((i + j) / 2 + 1) j (by omega) (by omega)
        refine ⟨by omega, h2, ?_, h4⟩
        rcases h3 with h3 | h3
        · right; rw [h3]; simpa using hp
        · exact Or.inr h3
      · rw [if_neg hp]
        obtain ⟨h1, h2, h3, h4⟩ := bsr_spec p n i ((i + j) / 2) (by omega) (by omega)
        refine ⟨h1, by omega, h3, ?_⟩
        rcases h4 with h4 | h4
        · right; rw [h4]; simpa using hp
        · exact Or.inr h4
    · rw [if_neg h]
      exact ⟨Nat.le_refl _, hij, Or.inl rfl, Or.inl (by omega)⟩

/-! ### lists -/
theorem swp_list (X M Y : List α) (x y : α) (a b : Nat) (ha : a = X.length) (hb : b = X.length + 1 + M.length) : swp ((X ++ (x :: (M ++ y :: Y))).toArray) a b = ((X ++ (y :: (M ++ x :: Y))).toArray) := by
  subst ha hb
  have g1 : ((X ++ (x :: (M ++ y :: Y))).toArray)[X.length]! = x := get_mid X x _
  have g2 : ((X ++ (x :: (M ++ y :: Y))).toArray)[X.length + 1 + M.length]! = y := by
    have := get_mid (X ++ x :: M) y Y
    simpa [Nat.add_assoc, Nat.add_comm, Nat.add_left_comm] using this
  unfold swp
  rw [g1, g2, List.setIfInBounds_toArray, List.setIfInBounds_toArray]
  congr 1
  rw [List.set_append_right _ _ (Nat.le_refl _), Nat.sub_self, List.set_cons_zero, List.set_append_right _ _ (by omega), show X.length + 1 + M.length - X.length = M.length + 1 by omega, List.set_cons_succ, List.set_append_right _ _ (Nat.le_refl _), Nat.sub_self, List.set_cons_zero]
theorem swapRange_list : ∀ (P : List α) (X M Q Y : List α) (n a b : Nat), P.length = n → Q.length = n → a = X.length → b = X.length + n + M.length → swapRange n a b ((X ++ (P ++ (M ++ (Q ++ Y)))).toArray) = ((X ++ (Q ++ (M ++ (P ++ Y)))).toArray)
  | [], X, M, [], Y, n, a, b, hp, hq, ha, hb => by subst hp; simp [swapRange]
  | [], X, M, q :: Q, Y, n, a, b, hp, hq, ha, hb => by subst hp; simp at hq
  | p :: P, X, M, [], Y, n, a, b, hp, hq, ha, hb => by subst hq; simp at hp
  | p :: P, X, M, q :: Q, Y, n, a, b, hp, hq, ha, hb => by
    obtain ⟨n, rfl⟩ : ∃ k, n = k + 1 := ⟨P.length, by simpa using hp.symm⟩
    simp only [List.length_cons, Nat.add_right_cancel_iff] at hp hq
    unfold swapRange
    have e1 := swp_list X (P ++ M) (Q ++ Y) p q a b ha (by rw [List.length_append, hp, hb]; omega)
    simp only [List.append_assoc] at e1
    simp only [List.cons_append]
    rw [e1]
    have e2 := swapRange_list P (X ++ [q]) (M ++ [p]) Q Y n (a + 1) (b + 1) hp hq (by simp [ha]) (by simp [hb]; omega)
    simpa using e2
theorem rotLoop_list : ∀ (f : Nat) (X U V Y : List α) (m i j : Nat), U.length = i → V.length = j → 0 < i → 0 < j → i + j ≤ f → m = X.length + i → rotLoop m f i j ((X ++ (U ++ (V ++ Y))).toArray) = ((X ++ (V ++ (U ++ Y))).toArray)
  | 0, _, _, _, _, _, _, _, _, _, _, _, hf, _ => by omega
  | f + 1, X, U, V, Y, m, i, j, hU, hV, hi, hj, hf, hm => by
    unfold rotLoop
    by_cases h1 : i = j
    · rw [if_pos h1]
      subst h1
      have := swapRange_list U X [] V Y i (m - i) m hU hV (by omega) (by simp; omega)
      simpa using this
    · rw [if_neg h1]
      by_cases h2 : j < i
      · rw [if_pos h2]
        have hU1 : (U.take j).length = j := by rw [List.length_take]; omega
        have hU2 : (U.drop j).length = i - j := by rw [List.length_drop, hU]
        have e := swapRange_list (U.take j) X (U.drop j) V Y j (m - i) m hU1 hV (by omega) (by rw [hU2]; omega)
        rw [show U.take j ++ (U.drop j ++ (V ++ Y)) = U ++ (V ++ Y) by rw [← List.append_assoc, List.take_append_drop]] at e
        rw [e]
        have e2 := rotLoop_list f (X ++ V) (U.drop j) (U.take j) Y m (i - j) j hU2 hU1 (by omega) hj (by omega) (by rw [List.length_append, hV, hm]; omega)
        simp only [List.append_assoc] at e2
        rw [e2, ← List.append_assoc (U.take j), List.take_append_drop]
      · rw [if_neg h2]
        have hV1 : (V.take (j - i)).length = j - i := by rw [List.length_take]; omega
        have hV2 : (V.drop (j - i)).length = i := by rw [List.length_drop, hV]; omega
        have e := swapRange_list U X (V.take (j - i)) (V.drop (j - i)) Y i (m - i) (m + j - i) hU hV2 (by omega) (by rw [hV1]; omega)
        rw [show V.take (j - i) ++ (V.drop (j - i) ++ Y) = V ++ Y by rw [← List.append_assoc, List.take_append_drop]] at e
        rw [e]
        have e2 := rotLoop_list f X (V.drop (j - i)) (V.take (j - i)) (U ++ Y) m i (j - i) hV2 hV1 hi (by omega) (by omega) hm
        rw [e2, ← List.append_assoc (V.take (j - i)), List.take_append_drop]
/-- An array in four parts. -/
theorem four_parts (d : Array α) (s m e : Nat) (h1 : s ≤ m) (h2 : m ≤ e) (h3 : e ≤ d.size) : ∃ X U V Y : List α, d = ((X ++ (U ++ (V ++ Y))).toArray) ∧ X.length = s ∧ U.length = m - s ∧ V.length = e - m := by
  refine ⟨d.toList.take s, (d.toList.drop s).take (m - s), (d.toList.drop m).take (e - m), d.toList.drop e, ?_, ?_, ?_, ?_⟩
  · have a1 : (d.toList.drop m).take (e - m) ++ d.toList.drop e = d.toList.drop m := by
      have := List.take_append_drop (e - m) (d.toList.drop m)
      rw [List.drop_drop, show m + (e - m) = e by omega] at this
      exact this
    have a2 : (d.toList.drop s).take (m - s) ++ d.toList.drop m = d.toList.drop s := by
      have := List.take_append_drop (m - s) (d.toList.drop s)
      rw [List.drop_drop, show s + (m - s) = m by omega] at this
      exact this
    rw [a1, a2, List.take_append_drop]
  · rw [List.length_take, Array.length_toList]; omega
  · rw [List.length_take, List.length_drop, Array.length_toList]; omega
  · rw [List.length_take, List.length_drop, Array.length_toList]; omega
theorem get_list (l : List α) (i : Nat) : (l.toArray)[i]! = (l[i]?).getD default := by
  rw [getElem!_def]
  simp
  cases l[i]? <;> rfl

/-! ### alike -/
def eqv (lt : α → α → Bool) (c x : α) : Bool := !lt c x && !lt x c
/-- Those that are alike stand in their order. -/
def St (lt : α → α → Bool) (d d' : Array α) : Prop := ∀ c, d'.toList.filter (eqv lt c) = d.toList.filter (eqv lt c)
theorem St.refl (lt : α → α → Bool) (d : Array α) : St lt d d := fun _ => rfl
theorem St.trans {lt : α → α → Bool} {d d' d'' : Array α} (h : St lt d d') (h' : St lt d' d'') : St lt d d'' := fun c => (h' c).trans (h c)
variable {lt : α → α → Bool}
omit [Inhabited α] in
theorem lt_of_le_lt (hS : SWO lt) {x y z : α} (h1 : lt y x = false) (h2 : lt y z = true) : lt x z = true := by
  cases h : lt x z with
  | true => rfl
  | false => rw [hS.ntrans y x z h1 h] at h2; cases h2
omit [Inhabited α] in
theorem lt_of_lt_le (hS : SWO lt) {x y z : α} (h1 : lt x y = true) (h2 : lt z y = false) : lt x z = true := by
  cases h : lt x z with
  | true => rfl
  | false => rw [hS.ntrans x z y h h2] at h1; cases h1
omit [Inhabited α] in
theorem eqv_not (hS : SWO lt) {c u v : α} (h : lt v u = true) (hu : eqv lt c u = true) : eqv lt c v = false := by
  cases hv : eqv lt c v with
  | false => rfl
  | true =>
    simp only [eqv, Bool.and_eq_true, Bool.not_eq_true'] at hu hv
    rw [hS.ntrans v c u hv.2 hu.1] at h
    cases h
theorem st_swap (hS : SWO lt) (X U V Y : List α) (h : ∀ u ∈ U, ∀ v ∈ V, lt v u = true) : St lt ((X ++ (U ++ (V ++ Y))).toArray) ((X ++ (V ++ (U ++ Y))).toArray) := by
  intro c
  simp only [List.filter_append]
  congr 1
  rw [← List.append_assoc, ← List.append_assoc]
  congr 1
  by_cases hu : ∃ u ∈ U, eqv lt c u = true
  · obtain ⟨u, hu, hcu⟩ := hu
    have : V.filter (eqv lt c) = [] := by
      rw [List.filter_eq_nil_iff]
      intro v hv
      rw [eqv_not hS (h u hu v hv) hcu]
      simp
    rw [this]; simp
  · have : U.filter (eqv lt c) = [] := by
      rw [List.filter_eq_nil_iff]
      intro u hu'
      intro hc
      exact hu ⟨u, hu', hc⟩
    rw [this]; simp
theorem swp_comm (d : Array α) {i j : Nat} (hi : i < d.size) (hj : j < d.size) : swp d i j = swp d j i := by
  apply Array.ext
  · rw [swp_size, swp_size]
  · intro k h1 h2
    rw [← getElem!_pos, ← getElem!_pos, swp_get d hi hj, swp_get d hj hi]
    by_cases h : k = i
    · by_cases h' : k = j
      · rw [if_pos h', if_pos h]; subst h; subst h'; rfl
      · rw [if_neg h', if_pos h, if_pos h]
    · by_cases h' : k = j
      · rw [if_pos h', if_neg h, if_pos h']
      · rw [if_neg h', if_neg h, if_neg h, if_neg h']
theorem st_adj (hS : SWO lt) (d : Array α) (k : Nat) (hk : k + 1 < d.size) (h : lt d[k + 1]! d[k]! = true) : St lt d (swp d k (k + 1)) := by
  obtain ⟨X, U, V, Y, hd, hX, hU, hV⟩ := four_parts d k (k + 1) (k + 2) (by omega) (by omega) (by omega)
  obtain ⟨u, rfl⟩ : ∃ u, U = [u] := List.length_eq_one_iff.1 (by omega)
  obtain ⟨v, rfl⟩ : ∃ v, V = [v] := List.length_eq_one_iff.1 (by omega)
  have e := swp_list X [] Y u v k (k + 1) hX.symm (by simp [hX])
  simp only [List.nil_append] at e
  simp only [List.cons_append, List.nil_append] at hd
  have gu : d[k]! = u := by rw [hd, ← hX]; exact get_mid X u _
  have gv : d[k + 1]! = v := by
    have := get_mid (X ++ [u]) v Y
    rw [hd]
    simpa [hX] using this
  rw [gu, gv] at h
  rw [hd, e]
  have := st_swap hS X [u] [v] Y (by simpa using h)
  simpa using this
theorem st_adj' (hS : SWO lt) (d : Array α) (k : Nat) (hk : k + 1 < d.size) (h : lt d[k + 1]! d[k]! = true) : St lt d (swp d (k + 1) k) := by
  rw [swp_comm d hk (by omega)]; exact st_adj hS d k hk h

/-! ### insertion -/
theorem st_insInner (hS : SWO lt) (a : Nat) : ∀ (j : Nat) (d : Array α), j < d.size → St lt d (insInner lt a j d)
  | 0, d, _ => St.refl _ _
  | j + 1, d, hj => by
    unfold insInner
    split
    · rename_i h
      rw [Bool.and_eq_true] at h
      exact (st_adj' hS d j hj h.2).trans (st_insInner hS a j _ (by rw [swp_size]; omega))
    · exact St.refl _ _
theorem st_insOuter (hS : SWO lt) (a b : Nat) : ∀ (n i : Nat) (d : Array α), b - i = n → b ≤ d.size → St lt d (insOuter lt a b i d)
  | 0, i, d, h, _ => by rw [insOuter, if_neg (by omega)]; exact St.refl _ _
  | n + 1, i, d, h, hb => by
    rw [insOuter, if_pos (by omega)]
    exact (st_insInner hS a i d (by omega)).trans (st_insOuter hS a b n (i + 1) _ (by omega) (by rw [size_insInner]; exact hb))
theorem st_insertion (hS : SWO lt) (a b : Nat) (d : Array α) (hb : b ≤ d.size) : St lt d (Sort.insertionSort lt d a b) := st_insOuter hS a b _ _ _ rfl hb

/-! ### one sorted row -/
theorem sorted_one (hS : SWO lt) : ∀ (l1 l2 : List α), l1.Pairwise (fun x y => lt y x = false) → l2.Pairwise (fun x y => lt y x = false) → (∀ c, l1.filter (eqv lt c) = l2.filter (eqv lt c)) → l1 = l2
  | [], [], _, _, _ => rfl
  | [], y :: t, _, _, h => by
    have := h y
    have hy : eqv lt y y = true := by simp [eqv, hS.irrefl]
    rw [List.filter_cons, if_pos hy] at this
    simp at this
  | x :: t, [], _, _, h => by
    have := h x
    have hx : eqv lt x x = true := by simp [eqv, hS.irrefl]
    rw [List.filter_cons, if_pos hx] at this
    simp at this
  | x :: t1, y :: t2, h1, h2, h => by
    have hx : eqv lt x x = true := by simp [eqv, hS.irrefl]
    have hy : eqv lt y y = true := by simp [eqv, hS.irrefl]
    have low : ∀ (x y : α) (t1 t2 : List α), (y :: t2).Pairwise (fun x y => lt y x = false) → (x :: t1).filter (eqv lt x) = (y :: t2).filter (eqv lt x) → eqv lt x x = true → lt x y = false := fun x y t1 t2 h2 h hx => by
      have hm : x ∈ (y :: t2).filter (eqv lt x) := by rw [← h, List.filter_cons, if_pos hx]; simp
      rw [List.mem_filter, List.mem_cons] at hm
      rcases hm.1 with rfl | hm'
      · exact hS.irrefl _
      · exact (List.pairwise_cons.1 h2).1 x hm'
    have lxy := low x y t1 t2 h2 (h x) hx
    have lyx := low y x t2 t1 h1 (h y).symm hy
    have exy : eqv lt x y = true := by simp [eqv, lxy, lyx]
    have e := h x
    rw [List.filter_cons, if_pos hx, List.filter_cons, if_pos exy] at e
    obtain ⟨rfl, -⟩ := List.cons.inj e
    congr 1
    refine sorted_one hS t1 t2 (List.pairwise_cons.1 h1).2 (List.pairwise_cons.1 h2).2 (fun c => ?_)
    have e := h c
    rw [List.filter_cons, List.filter_cons] at e
    by_cases hc : eqv lt c x = true
    · rw [if_pos hc, if_pos hc] at e; exact (List.cons.inj e).2
    · rw [if_neg hc, if_neg hc] at e; exact e
theorem pairwise_of_sorted {d : Array α} (h : SortedIn lt 0 d.size d) : d.toList.Pairwise (fun x y => lt y x = false) := by
  rw [List.pairwise_iff_getElem]
  intro i j hi hj hij
  have := h i j (Nat.zero_le _) hij (by simpa using hj)
  rw [getElem!_pos d j (by simpa using hj), getElem!_pos d i (by simpa using hi)] at this
  simpa using this

/-! ### permutations -/
theorem perm_swapRange {lo hi : Nat} : ∀ (n a b : Nat) (d : Array α), lo ≤ a → a + n ≤ hi → lo ≤ b → b + n ≤ hi → hi ≤ d.size → PermIn lo hi d (swapRange n a b d)
  | 0, _, _, d, _, _, _, _, _ => permIn_refl d lo hi
  | n + 1, a, b, d, h1, h2, h3, h4, h5 => by
    unfold swapRange
    exact permIn_trans _ _ _ lo hi (swp_permIn d lo hi a b h1 (by omega) h3 (by omega) h5) (perm_swapRange n (a + 1) (b + 1) _ (by omega) (by omega) (by omega) (by omega) (by rw [swp_size]; exact h5))
theorem perm_rotLoop {lo hi m : Nat} : ∀ (f i j : Nat) (d : Array α), lo + i ≤ m → m + j ≤ hi → hi ≤ d.size → PermIn lo hi d (rotLoop m f i j d)
  | 0, _, _, d, _, _, _ => permIn_refl d lo hi
  | f + 1, i, j, d, h1, h2, h3 => by
    unfold rotLoop
    split
    · exact perm_swapRange _ _ _ _ (by omega) (by omega) (by omega) (by omega) h3
    · split
      · exact permIn_trans _ _ _ lo hi (perm_swapRange j (m - i) m d (by omega) (by omega) (by omega) (by omega) h3) (perm_rotLoop f (i - j) j _ (by omega) h2 (by rw [size_swapRange]; exact h3))
      · exact permIn_trans _ _ _ lo hi (perm_swapRange i (m - i) (m + j - i) d (by omega) (by omega) (by omega) (by omega) h3) (perm_rotLoop f i (j - i) _ h1 (by omega) (by rw [size_swapRange]; exact h3))
theorem perm_smRot {lo hi st m e : Nat} (d : Array α) (h1 : lo ≤ st) (h2 : st ≤ m) (h3 : m ≤ e) (h4 : e ≤ hi) (h5 : hi ≤ d.size) : PermIn lo hi d (smRot m st e d) := by
  unfold smRot rotate
  split
  · exact perm_rotLoop _ _ _ _ (by omega) (by omega) h5
  · exact permIn_refl d lo hi
/-- What lies where behind a rotation (which may be none). -/
theorem smRot_get (d : Array α) (st m e : Nat) (h1 : st ≤ m) (h2 : m ≤ e) (h3 : e ≤ d.size) (i : Nat) :
    (smRot m st e d)[i]! = if i < st ∨ e ≤ i then d[i]! else if i < st + (e - m) then d[i + (m - st)]! else d[i - (e - m)]! := by
  unfold smRot
  by_cases h : st < m ∧ m < e
  · rw [if_pos h]
    obtain ⟨X, U, V, Y, hd, hX, hU, hV⟩ := four_parts d st m e h1 h2 h3
    have hr : rotate st m e d = ((X ++ (V ++ (U ++ Y))).toArray) := by
      rw [hd]; exact rotLoop_list _ X U V Y m _ _ hU hV (by omega) (by omega) (Nat.le_refl _) (by omega)
    rw [hr, hd]
    simp only [get_list]
    by_cases c1 : i < st
    · rw [if_pos (Or.inl c1), List.getElem?_append_left (by omega), List.getElem?_append_left (by omega)]
    · by_cases c2 : e ≤ i
      · rw [if_pos (Or.inr c2)]
        rw [List.getElem?_append_right (by omega), List.getElem?_append_right (by omega), List.getElem?_append_right (by omega), List.getElem?_append_right (by omega), List.getElem?_append_right (by omega), List.getElem?_append_right (by omega)]
        congr 2
        omega
      · rw [if_neg (by omega)]
        by_cases c3 : i < st + (e - m)
        · rw [if_pos c3, List.getElem?_append_right (by omega), List.getElem?_append_left (by omega), List.getElem?_append_right (by omega), List.getElem?_append_right (by omega), List.getElem?_append_left (by omega)]
          congr 2
          omega
        · rw [if_neg c3, List.getElem?_append_right (by omega), List.getElem?_append_right (by omega), List.getElem?_append_left (by omega), List.getElem?_append_right (by omega), List.getElem?_append_left (by omega)]
          congr 2
          omega
  · rw [if_neg h]
    by_cases c1 : i < st ∨ e ≤ i
    · rw [if_pos c1]
    · rw [if_neg c1]
      by_cases c3 : i < st + (e - m)
      · rw [if_pos c3, show i + (m - st) = i by omega]
      · rw [if_neg c3, show i - (e - m) = i by omega]
theorem st_smRot (hS : SWO lt) (d : Array α) (st m e : Nat) (h1 : st ≤ m) (h2 : m ≤ e) (h3 : e ≤ d.size) (hc : ∀ i j, st ≤ i → i < m → m ≤ j → j < e → lt d[j]! d[i]! = true) : St lt d (smRot m st e d) := by
  unfold smRot
  by_cases h : st < m ∧ m < e
  · rw [if_pos h]
    obtain ⟨X, U, V, Y, hd, hX, hU, hV⟩ := four_parts d st m e h1 h2 h3
    have hr : rotate st m e d = ((X ++ (V ++ (U ++ Y))).toArray) := by
      rw [hd]; exact rotLoop_list _ X U V Y m _ _ hU hV (by omega) (by omega) (Nat.le_refl _) (by omega)
    rw [hr]
    have hc' : ∀ u ∈ U, ∀ v ∈ V, lt v u = true := by
      intro u hu v hv
      obtain ⟨i, hi, rfl⟩ := List.mem_iff_getElem.1 hu
      obtain ⟨j, hj, rfl⟩ := List.mem_iff_getElem.1 hv
      have := hc (st + i) (m + j) (by omega) (by omega) (by omega) (by omega)
      have gi : d[st + i]! = U[i] := by
        rw [hd, get_list, List.getElem?_append_right (by omega), List.getElem?_append_left (by omega), show st + i - X.length = i by omega, List.getElem?_eq_getElem hi]; rfl
      have gj : d[m + j]! = V[j] := by
        rw [hd, get_list, List.getElem?_append_right (by omega), List.getElem?_append_right (by omega), List.getElem?_append_left (by omega), show m + j - X.length - U.length = j by omega, List.getElem?_eq_getElem hj]; rfl
      rw [gi, gj] at this
      exact this
    have := st_swap hS X U V Y hc'
    rw [← hd] at this
    exact this
  · rw [if_neg h]; exact St.refl _ _

/-! ### symMerge's two short cases -/
theorem upMove_spec (hS : SWO lt) {lo hi : Nat} : ∀ (n a : Nat) (d : Array α), lo ≤ a → a + n < hi → hi ≤ d.size → (∀ k, a < k → k ≤ a + n → lt d[k]! d[a]! = true) →
    PermIn lo hi d (upMove n a d) ∧ St lt d (upMove n a d) ∧ ∀ k, (upMove n a d)[k]! = if k < a ∨ a + n < k then d[k]! else if k < a + n then d[k + 1]! else d[a]!
  | 0, a, d, h1, h2, h3, h => by
    unfold upMove
    refine ⟨permIn_refl d lo hi, St.refl _ _, fun k => ?_⟩
    split
    · rfl
    · split
      · omega
      · congr 1; omega
  | n + 1, a, d, h1, h2, h3, h => by
    unfold upMove
    have g := swp_get d (show a < d.size by omega) (show a + 1 < d.size by omega)
    obtain ⟨p, s, t⟩ := upMove_spec hS n (a + 1) (swp d a (a + 1)) (show lo ≤ a + 1 by omega) (show a + 1 + n < hi by omega) (by rw [swp_size]; exact h3) (fun k hk1 hk2 => by
      rw [g, g, if_pos rfl, if_neg (by omega), if_neg (by omega)]
      exact h k (by omega) (by omega))
    refine ⟨permIn_trans _ _ _ lo hi (swp_permIn d lo hi a (a + 1) h1 (by omega) (by omega) (by omega) h3) p, (st_adj hS d a (by omega) (h (a + 1) (by omega) (by omega))).trans s, fun k => ?_⟩
    rw [t k]
    simp only [g]
    by_cases c1 : k < a ∨ a + (n + 1) < k
    · rw [if_pos c1, if_pos (by omega), if_neg (by omega), if_neg (by omega)]
    · rw [if_neg c1]
      by_cases c2 : k = a
      · subst c2
        rw [if_pos (by omega), if_neg (by omega), if_pos rfl, if_pos (by omega)]
      · rw [if_neg (by omega)]
        by_cases c3 : k < a + (n + 1)
        · rw [if_pos (by omega), if_neg (by omega), if_neg (by omega), if_pos c3]
        · rw [if_neg (by omega), if_pos trivial, if_neg c3]
theorem downMove_spec (hS : SWO lt) {lo hi : Nat} : ∀ (n m : Nat) (d : Array α), lo + n ≤ m → m < hi → hi ≤ d.size → (∀ k, m - n ≤ k → k < m → lt d[m]! d[k]! = true) →
    PermIn lo hi d (downMove n m d) ∧ St lt d (downMove n m d) ∧ ∀ k, (downMove n m d)[k]! = if k < m - n ∨ m < k then d[k]! else if k = m - n then d[m]! else d[k - 1]!
  | 0, m, d, h1, h2, h3, h => by
    unfold downMove
    refine ⟨permIn_refl d lo hi, St.refl _ _, fun k => ?_⟩
    split
    · rfl
    · rw [if_pos (by omega)]; congr 1; omega
  | n + 1, m, d, h1, h2, h3, h => by
    unfold downMove
    have g := swp_get d (show m < d.size by omega) (show m - 1 < d.size by omega)
    obtain ⟨p, s, t⟩ := downMove_spec hS n (m - 1) (swp d m (m - 1)) (show lo + n ≤ m - 1 by omega) (show m - 1 < hi by omega) (by rw [swp_size]; exact h3) (fun k hk1 hk2 => by
      rw [g, g, if_pos rfl, if_neg (by omega), if_neg (by omega)]
      exact h k (by omega) (by omega))
    have hst : St lt d (swp d m (m - 1)) := by
      have := st_adj' hS d (m - 1) (by omega) (by rw [show m - 1 + 1 = m by omega]; exact h (m - 1) (by omega) (by omega))
      rw [show m - 1 + 1 = m by omega] at this
      exact this
    refine ⟨permIn_trans _ _ _ lo hi (swp_permIn d lo hi m (m - 1) (by omega) (by omega) (by omega) (by omega) h3) p, hst.trans s, fun k => ?_⟩
    rw [t k]
    simp only [g]
    by_cases c1 : k < m - (n + 1) ∨ m < k
    · rw [if_pos c1, if_pos (by omega), if_neg (by omega), if_neg (by omega)]
    · rw [if_neg c1]
      by_cases c2 : k = m
      · subst c2
        rw [if_pos (by omega), if_neg (by omega), if_pos rfl, if_neg (by omega)]
      · rw [if_neg (by omega)]
        by_cases c3 : k = m - (n + 1)
        · rw [if_pos (by omega), if_pos trivial, if_pos c3]
        · rw [if_neg (by omega), if_neg (by omega), if_neg (by omega), if_neg c3]

/-! ### symMerge -/
theorem smStart_spec (hS : SWO lt) {a m b : Nat} (d : Array α) (ham : a < m) (hmb : m < b) :
    a ≤ smStart lt a m b d ∧ smStart lt a m b d ≤ m ∧ smStart lt a m b d ≤ (a + b) / 2 ∧ (a + b) / 2 + m - smStart lt a m b d ≤ b ∧
    (smStart lt a m b d = a ∨ (a + b) / 2 + m - smStart lt a m b d = b ∨ lt d[(a + b) / 2 + m - smStart lt a m b d]! d[smStart lt a m b d - 1]! = false) ∧
    (smStart lt a m b d = (a + b) / 2 ∨ smStart lt a m b d = m ∨ lt d[(a + b) / 2 + m - smStart lt a m b d - 1]! d[smStart lt a m b d]! = true) := by
  by_cases hm : (a + b) / 2 < m
  · have hs := bsr_spec (fun c => !lt d[(a + b) / 2 + m - 1 - c]! d[c]!) _ ((a + b) / 2 + m - b) ((a + b) / 2) (Nat.le_refl _) (by omega)
    have e : smStart lt a m b d = bsr (fun c => !lt d[(a + b) / 2 + m - 1 - c]! d[c]!) ((a + b) / 2 + m - b) ((a + b) / 2) := by unfold smStart; rw [if_pos hm, if_pos hm]
    rw [← e] at hs
    generalize smStart lt a m b d = st at hs ⊢
    obtain ⟨h1, h2, h3, h4⟩ := hs
    refine ⟨by omega, by omega, h2, by omega, ?_, ?_⟩
    · by_cases h0 : st = (a + b) / 2 + m - b
      · right; left; omega
      · rcases h3 with h3 | h3
        · exact absurd h3 h0
        · right; right
          simp only [Bool.not_eq_true'] at h3
          rwa [show (a + b) / 2 + m - 1 - (st - 1) = (a + b) / 2 + m - st by omega] at h3
    · rcases h4 with h4 | h4
      · exact Or.inl h4
      · right; right
        simp only [Bool.not_eq_false'] at h4
        rwa [show (a + b) / 2 + m - 1 - st = (a + b) / 2 + m - st - 1 by omega] at h4
  · have hs := bsr_spec (fun c => !lt d[(a + b) / 2 + m - 1 - c]! d[c]!) _ a m (Nat.le_refl _) (by omega)
    have e : smStart lt a m b d = bsr (fun c => !lt d[(a + b) / 2 + m - 1 - c]! d[c]!) a m := by unfold smStart; rw [if_neg hm, if_neg hm]
    rw [← e] at hs
    generalize smStart lt a m b d = st at hs ⊢
    obtain ⟨h1, h2, h3, h4⟩ := hs
    refine ⟨h1, h2, by omega, by omega, ?_, ?_⟩
    · by_cases h0 : st = a
      · exact Or.inl h0
      · rcases h3 with h3 | h3
        · exact absurd h3 h0
        · right; right
          simp only [Bool.not_eq_true'] at h3
          rwa [show (a + b) / 2 + m - 1 - (st - 1) = (a + b) / 2 + m - st by omega] at h3
    · rcases h4 with h4 | h4
      · exact Or.inr (Or.inl h4)
      · right; right
        simp only [Bool.not_eq_false'] at h4
        rwa [show (a + b) / 2 + m - 1 - st = (a + b) / 2 + m - st - 1 by omega] at h4

theorem symMerge_law (hS : SWO lt) : ∀ (f a m b : Nat) (d : Array α), a < m → m < b → b ≤ d.size → b - a ≤ f → SortedIn lt a m d → SortedIn lt m b d →
    PermIn a b d (symMerge lt f a m b d) ∧ SortedIn lt a b (symMerge lt f a m b d) ∧ St lt d (symMerge lt f a m b d)
  | 0, a, m, b, d, ham, hmb, hb, hf, s1, s2 => by omega
  | f + 1, a, m, b, d, ham, hmb, hb, hf, s1, s2 => by
    unfold symMerge
    have le1 : ∀ i j, a ≤ i → i ≤ j → j < m → lt d[j]! d[i]! = false := fun i j h1 h2 h3 => by
      rcases Nat.lt_or_ge i j with h | h
      · exact s1 i j h1 h h3
      · obtain rfl : i = j := by omega
        exact hS.irrefl _
    have le2 : ∀ i j, m ≤ i → i ≤ j → j < b → lt d[j]! d[i]! = false := fun i j h1 h2 h3 => by
      rcases Nat.lt_or_ge i j with h | h
      · exact s2 i j h1 h h3
      · obtain rfl : i = j := by omega
        exact hS.irrefl _
    by_cases c1 : m - a = 1
    · rw [if_pos c1]
      obtain rfl : m = a + 1 := by omega
      obtain ⟨b1, b2, b3, b4⟩ := bsr_spec (fun h => lt d[h]! d[a]!) _ (a + 1) b (Nat.le_refl _) (by omega)
      generalize bsr (fun h => lt d[h]! d[a]!) (a + 1) b = i at b1 b2 b3 b4 ⊢
      have x1 : ∀ k, a < k → k < i → lt d[k]! d[a]! = true := fun k hk1 hk2 => by
        rcases b3 with b3 | b3
        · omega
        · exact lt_of_le_lt hS (le2 k (i - 1) (by omega) (by omega) (by omega)) b3
      have x2 : ∀ k, i ≤ k → k < b → lt d[k]! d[a]! = false := fun k hk1 hk2 => by
        rcases b4 with b4 | b4
        · omega
        · exact hS.ntrans _ _ _ (le2 i k (by omega) hk1 hk2) b4
      obtain ⟨p, s, t⟩ := upMove_spec hS (lo := a) (hi := b) (i - 1 - a) a d (Nat.le_refl _) (by omega) hb (fun k hk1 hk2 => x1 k hk1 (by omega))
      refine ⟨p, fun q r h1 h2 h3 => ?_, s⟩
      rw [t q, t r]
      by_cases cr : r < a ∨ a + (i - 1 - a) < r
      · rw [if_pos cr]
        by_cases cq : q < a ∨ a + (i - 1 - a) < q
        · rw [if_pos cq]; exact le2 q r (by omega) (by omega) h3
        · rw [if_neg cq]
          by_cases cq2 : q < a + (i - 1 - a)
          · rw [if_pos cq2]; exact le2 (q + 1) r (by omega) (by omega) h3
          · rw [if_neg cq2]; exact x2 r (by omega) h3
      · rw [if_neg cr]
        by_cases cr2 : r < a + (i - 1 - a)
        · rw [if_pos cr2, if_neg (by omega), if_pos (by omega)]; exact le2 (q + 1) (r + 1) (by omega) (by omega) (by omega)
        · rw [if_neg cr2, if_neg (by omega), if_pos (by omega)]; exact hS.asymmA (x1 (q + 1) (by omega) (by omega))
    · rw [if_neg c1]
      by_cases c2 : b - m = 1
      · rw [if_pos c2]
        obtain rfl : b = m + 1 := by omega
        obtain ⟨b1, b2, b3, b4⟩ := bsr_spec (fun h => !lt d[m]! d[h]!) _ a m (Nat.le_refl _) (by omega)
        generalize bsr (fun h => !lt d[m]! d[h]!) a m = i at b1 b2 b3 b4 ⊢
        simp only [Bool.not_eq_true', Bool.not_eq_false'] at b3 b4
        have x1 : ∀ k, i ≤ k → k < m → lt d[m]! d[k]! = true := fun k hk1 hk2 => by
          rcases b4 with b4 | b4
          · omega
          · exact lt_of_lt_le hS b4 (le1 i k (by omega) hk1 hk2)
        have x2 : ∀ k, a ≤ k → k < i → lt d[m]! d[k]! = false := fun k hk1 hk2 => by
          rcases b3 with b3 | b3
          · omega
          · exact hS.ntrans _ _ _ b3 (le1 k (i - 1) hk1 (by omega) (by omega))
        obtain ⟨p, s, t⟩ := downMove_spec hS (lo := a) (hi := m + 1) (m - i) m d (by omega) (by omega) hb (fun k hk1 hk2 => x1 k (by omega) hk2)
        refine ⟨p, fun q r h1 h2 h3 => ?_, s⟩
        rw [t q, t r]
        by_cases cq : q < m - (m - i) ∨ m < q
        · rw [if_pos cq]
          by_cases cr : r < m - (m - i) ∨ m < r
          · rw [if_pos cr]; exact le1 q r h1 (by omega) (by omega)
          · rw [if_neg cr]
            by_cases cr2 : r = m - (m - i)
            · rw [if_pos cr2]; exact x2 q h1 (by omega)
            · rw [if_neg cr2]; exact le1 q (r - 1) h1 (by omega) (by omega)
        · rw [if_neg cq, if_neg (by omega), if_neg (by omega)]
          by_cases cq2 : q = m - (m - i)
          · rw [if_pos cq2]; exact hS.asymmA (x1 (r - 1) (by omega) (by omega))
          · rw [if_neg cq2]; exact le1 (q - 1) (r - 1) (by omega) (by omega) (by omega)
      · rw [if_neg c2]
        dsimp only
        obtain ⟨p1, p2, p3, p4, p5, p6⟩ := smStart_spec hS d ham hmb
        generalize smStart lt a m b d = st at p1 p2 p3 p4 p5 p6 ⊢
        obtain ⟨mid, hmid⟩ : ∃ mid, (a + b) / 2 = mid := ⟨_, rfl⟩
        rw [hmid] at p3 p4 p5 p6 ⊢
        have ha1 : a < mid := by omega
        have hb1 : mid < b := by omega
        obtain ⟨e, he⟩ : ∃ e, mid + m - st = e := ⟨_, rfl⟩
        rw [he] at p4 p5 p6 ⊢
        have hme : m ≤ e := by omega
        have hV : e - m = mid - st := by omega
        -- what lies where
        have g := smRot_get d st m e p2 hme (by omega)
        have hstr : ∀ i j, st ≤ i → i < m → m ≤ j → j < e → lt d[j]! d[i]! = true := fun i j h1 h2 h3 h4 => by
          rcases p6 with p6 | p6 | p6
          · omega
          · omega
          · exact lt_of_lt_le hS (lt_of_le_lt hS (le2 j (e - 1) h3 (by omega) (by omega)) p6) (le1 st i p1 h1 h2)
        have hst1 := st_smRot hS d st m e p2 hme (by omega) hstr
        have hp1 := perm_smRot (lo := a) (hi := b) d p1 p2 hme p4 hb
        have hz1 : (smRot m st e d).size = d.size := size_smRot _ _ _ _
        generalize smRot m st e d = d1 at g hst1 hp1 hz1 ⊢
        have sA : SortedIn lt a st d1 := fun q r h1 h2 h3 => by rw [g, g, if_pos (by omega), if_pos (by omega)]; exact le1 q r h1 (by omega) (by omega)
        have sV : SortedIn lt st mid d1 := fun q r h1 h2 h3 => by rw [g, g, if_neg (by omega), if_pos (by omega), if_neg (by omega), if_pos (by omega)]; exact le2 _ _ (by omega) (by omega) (by omega)
        have sU : SortedIn lt mid e d1 := fun q r h1 h2 h3 => by rw [g, g, if_neg (by omega), if_neg (by omega), if_neg (by omega), if_neg (by omega)]; exact le1 _ _ (by omega) (by omega) (by omega)
        have sB : SortedIn lt e b d1 := fun q r h1 h2 h3 => by rw [g, g, if_pos (by omega), if_pos (by omega)]; exact le2 q r (by omega) (by omega) (by omega)
        have hx : ∀ i j, a ≤ i → i < mid → mid ≤ j → j < b → lt d1[j]! d1[i]! = false := fun i j h1 h2 h3 h4 => by
          rw [g i, g j]
          by_cases ci : i < st
          · rw [if_pos (Or.inl ci)]
            by_cases cj : e ≤ j
            · rw [if_pos (Or.inr cj)]
              rcases p5 with p5 | p5 | p5
              · omega
              · omega
              · exact hS.ntrans _ _ _ (hS.ntrans _ _ _ (le2 e j hme cj h4) p5) (le1 i (st - 1) h1 (by omega) (by omega))
            · rw [if_neg (by omega), if_neg (by omega)]; exact le1 _ _ h1 (by omega) (by omega)
          · by_cases cj : e ≤ j
            · rw [if_pos (show j < st ∨ e ≤ j from Or.inr cj), if_neg (show ¬ (i < st ∨ e ≤ i) by omega), if_pos (show i < st + (e - m) by omega)]; exact le2 _ _ (by omega) (by omega) h4
            · rw [if_neg (show ¬ (j < st ∨ e ≤ j) by omega), if_neg (show ¬ (j < st + (e - m)) by omega), if_neg (show ¬ (i < st ∨ e ≤ i) by omega), if_pos (show i < st + (e - m) by omega)]; exact hS.asymmA (hstr _ _ (by omega) (by omega) (by omega) (by omega))
        -- the left half
        have hL : ∃ d2, (if a < st ∧ st < mid then symMerge lt f a st mid d1 else d1) = d2 ∧ PermIn a mid d1 d2 ∧ SortedIn lt a mid d2 ∧ St lt d1 d2 := by
          by_cases cl : a < st ∧ st < mid
          · rw [if_pos cl]
            obtain ⟨x, y, z⟩ := symMerge_law hS f a st mid d1 cl.1 cl.2 (by omega) (by omega) sA sV
            exact ⟨_, rfl, x, y, z⟩
          · rw [if_neg cl]
            refine ⟨_, rfl, permIn_refl d1 a mid, ?_, St.refl _ _⟩
            by_cases hh : st = a
            · rw [hh] at sV; exact sV
            · obtain rfl : st = mid := by omega
              exact sA
        obtain ⟨d2, hd2, q1, q2, q3⟩ := hL
        rw [hd2]
        have hz2 : d2.size = d.size := q1.1.trans hz1
        have g2 : ∀ i, mid ≤ i → d2[i]! = d1[i]! := fun i hi => q1.2.1 i (Or.inr hi)
        have sU2 : SortedIn lt mid e d2 := fun q r h1 h2 h3 => by rw [g2 q h1, g2 r (by omega)]; exact sU q r h1 h2 h3
        have sB2 : SortedIn lt e b d2 := fun q r h1 h2 h3 => by rw [g2 q (by omega), g2 r (by omega)]; exact sB q r h1 h2 h3
        have hR : ∃ d3, (if mid < e ∧ e < b then symMerge lt f mid e b d2 else d2) = d3 ∧ PermIn mid b d2 d3 ∧ SortedIn lt mid b d3 ∧ St lt d2 d3 := by
          by_cases cl : mid < e ∧ e < b
          · rw [if_pos cl]
            obtain ⟨x, y, z⟩ := symMerge_law hS f mid e b d2 cl.1 cl.2 (by omega) (by omega) sU2 sB2
            exact ⟨_, rfl, x, y, z⟩
          · rw [if_neg cl]
            refine ⟨_, rfl, permIn_refl d2 mid b, ?_, St.refl _ _⟩
            by_cases hh : e = mid
            · rw [hh] at sB2; exact sB2
            · obtain rfl : e = b := by omega
              exact sU2
        obtain ⟨d3, hd3, r1, r2, r3⟩ := hR
        rw [hd3]
        refine ⟨permIn_trans _ _ _ a b hp1 (permIn_trans _ _ _ a b (permIn_mono d1 d2 a mid a b (Nat.le_refl _) (by omega) (by omega) q1) (permIn_mono d2 d3 mid b a b (by omega) (Nat.le_refl _) (by omega) r1)), ?_, hst1.trans (q3.trans r3)⟩
        have hx2 : ∀ i j, a ≤ i → i < mid → mid ≤ j → j < b → lt d2[j]! d2[i]! = false := fun i j h1 h2 h3 h4 => by
          rw [g2 j h3]
          exact permIn_all d1 d2 a mid (fun x => lt d1[j]! x = false) (by omega) q1 (fun i' h1' h2' => hx i' j h1' h2' h3 h4) i h1 h2
        have hx3 : ∀ i j, a ≤ i → i < mid → mid ≤ j → j < b → lt d3[j]! d3[i]! = false := fun i j h1 h2 h3 h4 => by
          rw [r1.2.1 i (Or.inl h2)]
          exact permIn_all d2 d3 mid b (fun x => lt x d2[i]! = false) (by omega) r1 (fun j' h1' h2' => hx2 i j' h1 h2 h1' h2') j h3 h4
        intro q r h1 h2 h3
        by_cases cq : q < mid
        · by_cases cr : r < mid
          · rw [r1.2.1 q (Or.inl cq), r1.2.1 r (Or.inl cr)]; exact q2 q r h1 h2 cr
          · exact hx3 q r h1 cq (by omega) h3
        · exact r2 q r (by omega) h2 h3

/-! ### the whole -/
/-- Every block of s is sorted (up to n). -/
def Runs (lt : α → α → Bool) (s n : Nat) (d : Array α) : Prop := ∀ q, SortedIn lt (q * s) (min (q * s + s) n) d
theorem insBlocks_law (hS : SWO lt) (n : Nat) : ∀ (k q : Nat) (d : Array α), n - q * 20 ≤ k → n = d.size → (q * 20 ≤ n) → (∀ p, p < q → SortedIn lt (p * 20) (p * 20 + 20) d) →
    (insBlocks lt n (q * 20) d).size = d.size ∧ Runs lt 20 n (insBlocks lt n (q * 20) d) ∧ St lt d (insBlocks lt n (q * 20) d)
  | k, q, d, hk, hn, hq, h => by
    rw [insBlocks]
    by_cases c : q * 20 + 20 ≤ n
    · rw [if_pos c]
      obtain ⟨k, rfl⟩ : ∃ j, k = j + 1 := ⟨k - 1, by omega⟩
      obtain ⟨x1, x2⟩ := insertionSort_holds hS d (q * 20) (q * 20 + 20) (by omega) (by omega)
      have x3 := st_insertion hS (q * 20) (q * 20 + 20) d (by omega)
      have hz := size_insertion lt (q * 20) (q * 20 + 20) d
      generalize Sort.insertionSort lt d (q * 20) (q * 20 + 20) = d' at x1 x2 x3 hz ⊢
      obtain ⟨y1, y2, y3⟩ := insBlocks_law hS n k (q + 1) d' (by omega) (by omega) (by omega) (fun p hp => by
        by_cases e : p = q
        · subst e; exact x2
        · intro i j h1 h2 h3
          rw [x1.2.1 i (Or.inl (by omega)), x1.2.1 j (Or.inl (by omega))]
          exact h p (by omega) i j h1 h2 h3)
      rw [show (q + 1) * 20 = q * 20 + 20 by omega] at y1 y2 y3
      exact ⟨by omega, y2, x3.trans y3⟩
    · rw [if_neg c]
      obtain ⟨x1, x2⟩ := insertionSort_holds hS d (q * 20) n hq (by omega)
      have x3 := st_insertion hS (q * 20) n d (by omega)
      refine ⟨size_insertion _ _ _ _, fun p => ?_, x3⟩
      intro i j h1 h2 h3
      by_cases e : p = q
      · subst e; exact x2 i j h1 h2 (by omega)
      · have hpq : p < q := by omega
        rw [x1.2.1 i (Or.inl (by omega)), x1.2.1 j (Or.inl (by omega))]
        exact h p hpq i j h1 h2 (by omega)
theorem mergePass_law (hS : SWO lt) (s n : Nat) (hs : 0 < s) : ∀ (k q : Nat) (d : Array α), n - q * (s * 2) ≤ k → n = d.size → (∀ p, p < q → SortedIn lt (p * (s * 2)) (min (p * (s * 2) + s * 2) n) d) → (∀ p, q * 2 ≤ p → SortedIn lt (p * s) (min (p * s + s) n) d) →
    Runs lt (s * 2) n (mergePass lt s n (q * (s * 2)) d) ∧ St lt d (mergePass lt s n (q * (s * 2)) d)
  | k, q, d, hk, hn, h, h' => by
    have e1 : q * (s * 2) = q * 2 * s := by rw [Nat.mul_assoc, Nat.mul_comm 2 s]
    have e2 : (q * 2 + 1) * s = q * (s * 2) + s := by rw [Nat.add_mul, Nat.one_mul, e1]
    have e3 : (q + 1) * (s * 2) = q * (s * 2) + s * 2 := by rw [Nat.add_mul, Nat.one_mul]
    have hA := h' (q * 2) (Nat.le_refl _)
    have hB := h' (q * 2 + 1) (by omega)
    rw [← e1] at hA
    rw [e2] at hB
    have far : ∀ p, q + 1 ≤ p → q * (s * 2) + s * 2 ≤ p * (s * 2) := fun p hp => by rw [← e3]; exact Nat.mul_le_mul_right _ hp
    have far2 : ∀ p, (q + 1) * 2 ≤ p → q * (s * 2) + s * 2 ≤ p * s := fun p hp => by
      rw [← e3, show (q + 1) * (s * 2) = (q + 1) * 2 * s by rw [Nat.mul_assoc, Nat.mul_comm 2 s]]; exact Nat.mul_le_mul_right _ hp
    have near : ∀ p, p < q → p * (s * 2) + s * 2 ≤ q * (s * 2) := fun p hp => by
      have := Nat.mul_le_mul_right (s * 2) (show p + 1 ≤ q from hp)
      rwa [Nat.add_mul, Nat.one_mul] at this
    generalize hq0 : q * (s * 2) = a at hk h h' hA hB far far2 near e3 ⊢
    rw [mergePass]
    by_cases c : 0 < s ∧ a + 2 * s ≤ n
    · rw [if_pos c]
      obtain ⟨k, rfl⟩ : ∃ j, k = j + 1 := ⟨k - 1, by omega⟩
      have hA' : SortedIn lt a (a + s) d := by rw [Nat.min_eq_left (by omega)] at hA; exact hA
      have hB' : SortedIn lt (a + s) (a + 2 * s) d := by rw [Nat.min_eq_left (by omega), show a + s + s = a + 2 * s by omega] at hB; exact hB
      obtain ⟨x1, x2, x3⟩ := symMerge_law hS n a (a + s) (a + 2 * s) d (by omega) (by omega) (by omega) (by omega) hA' hB'
      generalize symMerge lt n a (a + s) (a + 2 * s) d = d' at x1 x2 x3 ⊢
      obtain ⟨y1, y2⟩ := mergePass_law hS s n hs k (q + 1) d' (by omega) (by rw [x1.1]; exact hn) (fun p hp => by
        by_cases e : p = q
        · subst e
          rw [hq0, Nat.min_eq_left (by omega), show a + s * 2 = a + 2 * s by omega]
          exact x2
        · have := near p (by omega)
          intro i j h1 h2 h3
          rw [x1.2.1 i (Or.inl (by omega)), x1.2.1 j (Or.inl (by omega))]
          exact h p (by omega) i j h1 h2 h3) (fun p hp => by
        have := far2 p hp
        intro i j h1 h2 h3
        rw [x1.2.1 i (Or.inr (by omega)), x1.2.1 j (Or.inr (by omega))]
        exact h' p (by omega) i j h1 h2 h3)
      rw [e3, show a + s * 2 = a + 2 * s by omega] at y1 y2
      exact ⟨y1, x3.trans y2⟩
    · rw [if_neg c]
      by_cases c2 : a + s < n
      · rw [if_pos c2]
        have hA' : SortedIn lt a (a + s) d := by rw [Nat.min_eq_left (by omega)] at hA; exact hA
        have hB' : SortedIn lt (a + s) n d := by rw [Nat.min_eq_right (by omega)] at hB; exact hB
        obtain ⟨x1, x2, x3⟩ := symMerge_law hS n a (a + s) n d (by omega) (by omega) (by omega) (by omega) hA' hB'
        refine ⟨fun p => ?_, x3⟩
        intro i j h1 h2 h3
        rcases Nat.lt_trichotomy p q with hp | hp | hp
        · have := near p hp
          rw [x1.2.1 i (Or.inl (by omega)), x1.2.1 j (Or.inl (by omega))]
          exact h p hp i j h1 h2 h3
        · subst hp
          rw [hq0] at h1 h3
          exact x2 i j h1 h2 (by omega)
        · have := far p hp
          omega
      · rw [if_neg c2]
        refine ⟨fun p => ?_, St.refl _ _⟩
        intro i j h1 h2 h3
        rcases Nat.lt_trichotomy p q with hp | hp | hp
        · exact h p hp i j h1 h2 h3
        · subst hp
          rw [hq0] at h1 h3
          exact hA i j h1 h2 (by omega)
        · have := far p hp
          omega
theorem mergeAll_law (hS : SWO lt) (n : Nat) : ∀ (k s : Nat) (d : Array α), n - s ≤ k → 0 < s → n = d.size → Runs lt s n d → SortedIn lt 0 n (mergeAll lt s n d) ∧ St lt d (mergeAll lt s n d) ∧ (mergeAll lt s n d).size = d.size
  | k, s, d, hk, hs, hn, h => by
    rw [mergeAll]
    by_cases c : 0 < s ∧ s < n
    · rw [if_pos c]
      obtain ⟨k, rfl⟩ : ∃ j, k = j + 1 := ⟨k - 1, by omega⟩
      obtain ⟨x1, x2⟩ := mergePass_law hS s n hs n 0 d (by omega) hn (fun p hp => absurd hp (Nat.not_lt_zero _)) (fun p _ => h p)
      rw [Nat.zero_mul] at x1 x2
      have x3 := size_mergePass lt s n n 0 d (by omega)
      obtain ⟨y1, y2, y3⟩ := mergeAll_law hS n k (s * 2) (mergePass lt s n 0 d) (by omega) (by omega) (by omega) x1
      exact ⟨y1, x2.trans y2, y3.trans x3⟩
    · rw [if_neg c]
      refine ⟨?_, St.refl _ _, rfl⟩
      have := h 0
      rw [Nat.zero_mul, Nat.zero_add, Nat.min_eq_right (by omega)] at this
      exact this
theorem stableSort_law (hS : SWO lt) (d : Array α) : SortedIn lt 0 d.size (stableSort lt d) ∧ St lt d (stableSort lt d) ∧ (stableSort lt d).size = d.size := by
  unfold stableSort
  obtain ⟨x1, x2, x3⟩ := insBlocks_law hS d.size d.size 0 d (by omega) rfl (by omega) (fun p hp => absurd hp (Nat.not_lt_zero _))
  rw [Nat.zero_mul] at x1 x2 x3
  obtain ⟨y1, y2, y3⟩ := mergeAll_law hS d.size d.size 20 _ (by omega) (by omega) x1.symm x2
  exact ⟨y1, x3.trans y2, y3.trans x1⟩
theorem stableSort_is (hS : SWO lt) (l : List α) : stableSort lt l.toArray = (stabl lt l).toArray := by
  cases l with
  | nil =>
    have := (stableSort_law hS (#[] : Array α)).2.2
    show stableSort lt #[] = #[]
    simpa using this
  | cons x r =>
    obtain ⟨a1, a2, a3⟩ := stableSort_law hS (x :: r).toArray
    have hi := insertionSort_list lt (x :: r) (by simp)
    have b1 := (insertionSort_holds hS (x :: r).toArray 0 (x :: r).length (by simp) (by simp)).2
    have b2 := st_insertion hS 0 (x :: r).length (x :: r).toArray (by simp)
    rw [hi] at b1 b2
    have hz : (stabl lt (x :: r)).toArray.size = (x :: r).length := by simpa using stabl_length lt (x :: r)
    have e : (stableSort lt (x :: r).toArray).toList = (stabl lt (x :: r)).toArray.toList := by
      refine sorted_one hS _ _ (pairwise_of_sorted (by rw [a3]; exact a1)) (pairwise_of_sorted (by rw [hz]; exact b1)) (fun c => ?_)
      rw [a2 c, b2 c]
    exact Array.toList_inj.1 e
/-! ### 'the' stable sort, in words on lists -/
theorem insRev_perm (lt : α → α → Bool) (x : α) : ∀ acc : List α, (insRev lt x acc).Perm (x :: acc)
  | [] => List.Perm.refl _
  | y :: t => by
    unfold insRev
    split
    · exact ((insRev_perm lt x t).cons y).trans (List.Perm.swap x y t)
    · exact List.Perm.refl _
theorem foldRev_perm (lt : α → α → Bool) : ∀ (l acc : List α), (l.foldl (fun acc x => insRev lt x acc) acc).Perm (l ++ acc)
  | [], acc => List.Perm.refl _
  | x :: l, acc => by
    rw [List.foldl_cons, List.cons_append]
    exact (foldRev_perm lt l _).trans (((insRev_perm lt x acc).append_left l).trans List.perm_middle)
theorem stabl_perm (lt : α → α → Bool) (l : List α) : (stabl lt l).Perm l := by
  unfold stabl sortRev
  have := foldRev_perm lt l []
  rw [List.append_nil] at this
  exact (List.reverse_perm _).trans this
theorem stabl_sorted (hS : SWO lt) (l : List α) : (stabl lt l).Pairwise (fun x y => lt y x = false) := by
  have h := (stableSort_law hS l.toArray).1
  have hz := (stableSort_law hS l.toArray).2.2
  rw [← hz] at h
  have := pairwise_of_sorted h
  rw [stableSort_is hS l] at this
  simpa using this
theorem stabl_st (hS : SWO lt) (l : List α) (c : α) : (stabl lt l).filter (eqv lt c) = l.filter (eqv lt c) := by
  have h := (stableSort_law hS l.toArray).2.1 c
  rw [stableSort_is hS l] at h
  simpa using h
theorem stabl_id (hS : SWO lt) (l : List α) (h : l.Pairwise (fun x y => lt y x = false)) : stabl lt l = l := sorted_one hS _ _ (stabl_sorted hS l) h (stabl_st hS l)
theorem stabl_stabl (hS : SWO lt) (l : List α) : stabl lt (stabl lt l) = stabl lt l := stabl_id hS _ (stabl_sorted hS l)
end
end Go.Proofs.Ytckekncllmhohaa.G
