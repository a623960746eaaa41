/-
  The value level: regions whose order is open: any order that the program may take ends in the same state. No condition.
-/
import Derived.Test.YtnklncheopbfbaaVi20
import Derived.Orders
namespace Go.Vi

theorem nodup_len : ∀ {l m : List Nat}, l.Nodup → (∀ x ∈ l, x ∈ m) → l.length ≤ m.length
  | [], m, _, _ => Nat.zero_le _
  | x :: l, m, hn, h => by
    have hx : x ∈ m := h x (by simp)
    have hn' := List.nodup_cons.1 hn
    have := nodup_len (l := l) (m := m.erase x) hn'.2 fun y hy => by
      have hne : y ≠ x := fun e => hn'.1 (e ▸ hy)
      exact (List.mem_erase_of_ne hne).2 (h y (by simp [hy]))
    rw [List.length_erase_of_mem hx] at this
    have hpos : 0 < m.length := List.length_pos_of_mem hx
    simp only [List.length_cons]
    omega

theorem least_not {p : Nat → Prop} : ∀ {i : Nat}, ¬ p i → ∃ m, m ≤ i ∧ ¬ p m ∧ ∀ j, j < m → p j := by
  intro i
  induction i using Nat.strongRecOn with
  | _ i ih =>
    intro h
    by_cases hall : ∀ j, j < i → p j
    · exact ⟨i, Nat.le_refl _, h, hall⟩
    · obtain ⟨j, hj⟩ := Classical.not_forall.1 hall
      obtain ⟨hj1, hj2⟩ := Classical.not_imp.1 hj
      obtain ⟨m, h1, h2, h3⟩ := ih j hj1 hj2
      exact ⟨m, by omega, h2, h3⟩

/-! ### What waits for what -/
def Closed (ops : Array Oper) (L : Nat → Prop) : Prop := ∀ i o, ops[i]? = some o → L i → ∀ j ∈ waits o, L j
def Good (ops : Array Oper) (i : Nat) (s : List Nat) : Prop := ∀ L : Nat → Prop, Closed ops L → (∀ o, ops[i]? = some o → ∀ j ∈ waits o, L j) → ∀ x ∈ s, L x

theorem mem_uni {x : Nat} : ∀ {l m : List Nat}, x ∈ uni l m → x ∈ l ∨ x ∈ m
  | [], m, h => .inr h
  | y :: l, m, h => by
    simp only [uni, List.foldr_cons] at h
    split at h
    · rcases mem_uni (l := l) h with h | h
      · exact .inl (by simp [h])
      · exact .inr h
    · rcases List.mem_cons.1 h with h | h
      · exact .inl (by simp [h])
      · rcases mem_uni (l := l) h with h | h
        · exact .inl (by simp [h])
        · exact .inr h
theorem mem_ancOf {acc : List (List Nat)} {x : Nat} : ∀ {ws : List Nat}, x ∈ ancOf acc ws → ∃ j ∈ ws, x = j ∨ x ∈ acc.getD j []
  | [], h => by simp [ancOf] at h
  | j :: r, h => by
    simp only [ancOf] at h
    rcases mem_uni h with h | h
    · exact ⟨j, by simp, List.mem_cons.1 h⟩
    · obtain ⟨k, hk, h⟩ := mem_ancOf h
      exact ⟨k, by simp [hk], h⟩
theorem ancs_good {ops : Array Oper} : ∀ (l : List Oper) (acc : List (List Nat)), ops.toList.drop acc.length = l → (∀ i, Good ops i (acc.getD i [])) → ∀ i, Good ops i ((ancs l acc).getD i [])
  | [], acc, _, h => h
  | o :: r, acc, hl, h => by
    have ho : ops[acc.length]? = some o := by
      have : (ops.toList.drop acc.length)[0]? = some o := by rw [hl]; rfl
      simpa using this
    refine ancs_good r (acc ++ [ancOf acc (waits o)]) ?_ fun i => ?_
    · have : ops.toList.drop (acc.length + 1) = r := by rw [← List.drop_drop, hl]; rfl
      simpa using this
    · by_cases hi : i < acc.length
      · have e : (acc ++ [ancOf acc (waits o)]).getD i [] = acc.getD i [] := by simp [List.getD_eq_getElem?_getD, List.getElem?_append_left hi]
        rw [e]
        exact h i
      · by_cases hi2 : i = acc.length
        · subst hi2
          have e : (acc ++ [ancOf acc (waits o)]).getD acc.length [] = ancOf acc (waits o) := by simp [List.getD_eq_getElem?_getD]
          rw [e]
          intro L hL hw x hx
          obtain ⟨j, hj, hx⟩ := mem_ancOf hx
          have hLj := hw o ho j hj
          rcases hx with rfl | hx
          · exact hLj
          · exact h j L hL (fun o' ho' k hk => hL j o' ho' hLj k hk) x hx
        · have e : (acc ++ [ancOf acc (waits o)]).getD i [] = [] := by
            rw [List.getD_eq_getElem?_getD, List.getElem?_eq_none (by simp; omega)]; rfl
          rw [e]
          intro L _ _ x hx
          simp at hx

def Lst (listed : Array Bool) (i : Nat) : Prop := listed.getD i false = true

theorem mem_ready {ops : Array Oper} {listed : Array Bool} {i : Nat} : i ∈ Region.ready .any ops listed ↔ i < ops.size ∧ listed.getD i true = false ∧ ∀ o, ops[i]? = some o → ∀ j ∈ waits o, Lst listed j := by
  unfold Region.ready
  simp only [List.mem_filter, List.mem_range, Bool.and_eq_true, Bool.not_eq_true']
  constructor
  · rintro ⟨h1, h2, h3⟩
    refine ⟨h1, h2, fun o ho j hj => ?_⟩
    simp only [ho, Option.map_some, Option.getD_some, Array.all_eq_true'] at h3
    simp only [waits, List.mem_map, List.mem_filter] at hj
    obtain ⟨e, ⟨he, hb⟩, rfl⟩ := hj
    have := h3 e (by simpa using he)
    simpa [hb, Lst] using this
  · rintro ⟨h1, h2, h3⟩
    refine ⟨h1, h2, ?_⟩
    have ho := Array.getElem?_eq_getElem h1
    simp only [ho, Option.map_some, Option.getD_some, Array.all_eq_true']
    intro e he
    by_cases hb : Region.binds .any e = true
    · have := h3 _ ho e.on (by simp only [waits, List.mem_map, List.mem_filter]; exact ⟨e, ⟨by simpa using he, hb⟩, rfl⟩)
      rw [hb, show listed.getD e.on false = true from this]
      rfl
    · simp [hb]

theorem lst_lt {listed : Array Bool} {i : Nat} (h : i < listed.size) : listed.getD i true = false ↔ ¬ Lst listed i := by
  simp [Lst, Array.getD, h]
theorem lst_set {listed : Array Bool} {i : Nat} (h : i < listed.size) (j : Nat) : Lst (listed.setIfInBounds i true) j ↔ (Lst listed j ∨ j = i) := by
  unfold Lst
  rw [Array.getD_eq_getD_getElem?, Array.getD_eq_getD_getElem?, Array.getElem?_setIfInBounds]
  by_cases hij : i = j
  · subst hij; simp [h]
  · rw [if_neg hij]
    have : j ≠ i := fun e => hij e.symm
    simp [this]

/-! ### The region's table -/
structure DrawOk (P : Program) (nt : Nat) (ops : Array Oper) (its : List AItem) (ds : List DItem) : Prop where
  items : compItems P nt ops ops.toList = some its
  back : ∀ (i : Nat) (o : Oper), ops[i]? = some o → ∀ j ∈ waits o, j < i
  dist : ∀ (i j : Nat) (it jt : AItem) (d : Nat), its[i]? = some it → its[j]? = some jt → i ≠ j → it.2.gentle = true → jt.2.gentle = true → it.2.dst = some d → jt.2.dst = some d → False
  draw : drawItems (ancs ops.toList []) its 0 its = some ds

theorem waitsOk_spec : ∀ {l : List Oper} {k : Nat}, waitsOk k l = true → ∀ (i : Nat) (o : Oper), l[i]? = some o → ∀ j ∈ waits o, j < k + i
  | [], _, _, i, o, h => by simp at h
  | x :: l, k, hw, 0, o, h => by
    simp at h
    subst h
    simp only [waitsOk, Bool.and_eq_true, List.all_eq_true, decide_eq_true_eq] at hw
    exact fun j hj => hw.1 j hj
  | x :: l, k, hw, i + 1, o, h => by
    simp at h
    simp only [waitsOk, Bool.and_eq_true] at hw
    intro j hj
    have := waitsOk_spec hw.2 i o h j hj
    omega
theorem distinct_spec {f : AItem → Option Nat} : ∀ {its : List AItem}, distinct (its.filterMap f) = true → ∀ (i j : Nat) (it jt : AItem) (d : Nat), its[i]? = some it → its[j]? = some jt → i < j → f it = some d → f jt = some d → False
  | [], _, i, j, it, jt, d, h1, _, _, _, _ => by simp at h1
  | x :: l, h, 0, j + 1, it, jt, d, h1, h2, _, h3, h4 => by
    simp at h1 h2
    subst h1
    simp only [List.filterMap_cons, h3, distinct, Bool.and_eq_true, Bool.not_eq_true', List.contains_eq_mem, decide_eq_false_iff_not] at h
    exact h.1 (List.mem_filterMap.2 ⟨jt, List.mem_of_getElem? h2, h4⟩)
  | x :: l, h, i + 1, j + 1, it, jt, d, h1, h2, hij, h3, h4 => by
    simp at h1 h2
    have h' : distinct (l.filterMap f) = true := by
      cases hx : f x with
      | none => simpa [List.filterMap_cons, hx] using h
      | some d' =>
        simp only [List.filterMap_cons, hx, distinct, Bool.and_eq_true] at h
        exact h.2
    exact distinct_spec h' i j it jt d h1 h2 (by omega) h3 h4
  | x :: l, _, i, 0, _, _, _, _, _, hij, _, _ => by omega

theorem drawOk_of {P : Program} {nt : Nat} {ops : Array Oper} {ds : List DItem} (h : compDraw P nt ops = some ds) : ∃ its, DrawOk P nt ops its ds := by
  unfold compDraw at h
  split at h
  · rename_i its hits
    split at h
    · rename_i hc
      simp only [Bool.and_eq_true] at hc
      refine ⟨its, hits, fun i o ho j hj => ?_, fun i j it jt d h1 h2 hij g1 g2 d1 d2 => ?_, h⟩
      · have := waitsOk_spec hc.1 i o (by simpa using ho) j hj
        omega
      · rcases Nat.lt_or_gt_of_ne hij with hlt | hlt
        · exact distinct_spec hc.2 i j it jt d h1 h2 hlt (by simp [g1, d1]) (by simp [g2, d2])
        · exact distinct_spec hc.2 j i jt it d h2 h1 hlt (by simp [g2, d2]) (by simp [g1, d1])
    · cases h
  · cases h

theorem compItems_get {P : Program} {nt : Nat} {ops : Array Oper} : ∀ {l : List Oper} {its : List AItem}, compItems P nt ops l = some its → its.length = l.length ∧ ∀ (i : Nat) (o : Oper), l[i]? = some o → ∃ it, its[i]? = some it ∧ compItem P nt ops o = some it
  | [], its, h => by simp [compItems] at h; subst h; exact ⟨rfl, fun i o h => by simp at h⟩
  | o :: l, its, h => by
    simp only [compItems] at h
    split at h
    · rename_i i is h1 h2
      cases h
      obtain ⟨h3, h4⟩ := compItems_get h2
      refine ⟨by simp [h3], fun k o' hk => ?_⟩
      cases k with
      | zero => simp at hk; subst hk; exact ⟨i, rfl, h1⟩
      | succ k => simp at hk; simpa using h4 k o' hk
    · cases h
theorem drawItems_get {an : List (List Nat)} {its : List AItem} : ∀ {l : List AItem} {k : Nat} {ds : List DItem}, drawItems an its k l = some ds → ds.length = l.length ∧ ∀ (i : Nat) (it : AItem), l[i]? = some it → ∃ x, ds[i]? = some x ∧ drawItem an its (k + i) it = some x
  | [], k, ds, h => by simp [drawItems] at h; subst h; exact ⟨rfl, fun i o h => by simp at h⟩
  | o :: l, k, ds, h => by
    simp only [drawItems] at h
    split at h
    · rename_i x xs h1 h2
      cases h
      obtain ⟨h3, h4⟩ := drawItems_get h2
      refine ⟨by simp [h3], fun i it hi => ?_⟩
      cases i with
      | zero => simp at hi; subst hi; exact ⟨x, rfl, h1⟩
      | succ i =>
        simp at hi
        obtain ⟨y, h5, h6⟩ := h4 i it hi
        exact ⟨y, by simpa using h5, by rw [show k + (i + 1) = k + 1 + i by omega]; exact h6⟩
    · cases h

section
variable {P : Program} {nt : Nat} {ops : Array Oper} {its : List AItem} {ds : List DItem}

theorem DrawOk.sizes (H : DrawOk P nt ops its ds) : its.length = ops.size ∧ ds.length = ops.size := by
  obtain ⟨h1, _⟩ := compItems_get H.items
  obtain ⟨h2, _⟩ := drawItems_get H.draw
  simp at h1
  omega
theorem DrawOk.at (H : DrawOk P nt ops its ds) {i : Nat} {x : DItem} (hx : ds[i]? = some x) : ∃ o, ops[i]? = some o ∧ its[i]? = some x.2 ∧ compItem P nt ops o = some x.2 ∧ drawItem (ancs ops.toList []) its i x.2 = some x := by
  obtain ⟨s1, s2⟩ := H.sizes
  obtain ⟨_, h1⟩ := compItems_get H.items
  obtain ⟨_, h2⟩ := drawItems_get H.draw
  have hi : i < ds.length := (List.getElem?_eq_some_iff.1 hx).1
  obtain ⟨o, ho⟩ : ∃ o, ops[i]? = some o := ⟨_, Array.getElem?_eq_getElem (by omega : i < ops.size)⟩
  obtain ⟨it, hit, hc⟩ := h1 i o (by simpa using ho)
  obtain ⟨y, hy, hd⟩ := h2 i it hit
  rw [hx] at hy
  cases hy
  rw [Nat.zero_add] at hd
  have e : x.2 = it := by
    unfold drawItem at hd
    simp only at hd
    split at hd
    · split at hd <;> cases hd
      rfl
    · split at hd <;> cases hd
      rfl
  subst e
  exact ⟨_, ho, hit, hc, hd⟩
theorem DrawOk.gentle (H : DrawOk P nt ops its ds) {i : Nat} {N : List Nat} {it : AItem} (hx : ds[i]? = some (some N, it)) : it.2.gentle = true ∧
    ∀ (j : Nat) (jt : AItem), its[j]? = some jt → incomp (ancs ops.toList []) i j = true → ∀ d, jt.2.dst = some d → d ∉ it.slots ∧ (jt.2.maker = true → d ∈ N) := by
  obtain ⟨o, _, hit, _, hd⟩ := H.at hx
  unfold drawItem at hd
  simp only at hd
  split at hd
  · rename_i hg
    split at hd
    · rename_i hall
      simp only [Option.some.injEq, Prod.mk.injEq, and_true] at hd
      refine ⟨hg, fun j jt hj hinc d hdj => ?_⟩
      have hjl : j < its.length := (List.getElem?_eq_some_iff.1 hj).1
      have hjm : j ∈ (List.range its.length).filter (incomp (ancs ops.toList []) i) := List.mem_filter.2 ⟨by simpa using hjl, hinc⟩
      have := List.all_eq_true.1 hall j hjm
      simp only [hj, hdj, Bool.not_eq_true', List.contains_eq_mem, decide_eq_false_iff_not] at this
      refine ⟨this, fun hm => ?_⟩
      subst hd
      exact List.mem_filterMap.2 ⟨j, hjm, by simp [hj, hm, hdj]⟩
    · cases hd
  · split at hd <;> cases hd
theorem DrawOk.bar (H : DrawOk P nt ops its ds) {i : Nat} {it : AItem} (hx : ds[i]? = some (none, it)) : (∀ j, j < ops.size → incomp (ancs ops.toList []) i j = false) ∨
    ∃ j jt, j < i ∧ its[j]? = some jt ∧ lonePair jt it = true ∧ (∀ l, l < ops.size → l ≠ j → incomp (ancs ops.toList []) i l = false) ∧ ∀ l, i < l → l < ops.size → j ∈ (ancs ops.toList []).getD l [] := by
  obtain ⟨o, _, hit, _, hd⟩ := H.at hx
  unfold drawItem at hd
  simp only at hd
  split at hd
  · split at hd <;> cases hd
  · split at hd
    · rename_i he
      rcases (Bool.or_eq_true _ _).mp he with he | he
      · left
        intro j hj
        have he' := List.isEmpty_iff.1 he
        rw [List.filter_eq_nil_iff] at he'
        have := he' j (by rw [List.mem_range, H.sizes.1]; exact hj)
        simpa using this
      · right
        unfold loneAt at he
        split at he
        · rename_i j hjs
          simp only [Bool.and_eq_true, decide_eq_true_eq] at he
          obtain ⟨h1, h2, h3⟩ := he
          split at h2
          · rename_i jt hjt
            refine ⟨j, jt, h1, hjt, h2, fun l hl hne => ?_, fun l hil hl => ?_⟩
            · cases hb : incomp (ancs ops.toList []) i l with
              | false => rfl
              | true =>
                have : l ∈ (List.range its.length).filter (incomp (ancs ops.toList []) i) := List.mem_filter.2 ⟨by rw [List.mem_range, H.sizes.1]; exact hl, hb⟩
                rw [hjs] at this
                simp at this
                exact absurd this hne
            · have := List.all_eq_true.1 h3 l (by rw [List.mem_range, H.sizes.1]; exact hl)
              simp only [Bool.or_eq_true, decide_eq_true_eq, List.contains_eq_mem] at this
              rcases this with h | h
              · omega
              · exact h
          · cases h2
        · cases he
    · cases hd
theorem anc_lt (H : DrawOk P nt ops its ds) {i x : Nat} (hx : x ∈ (ancs ops.toList []).getD i []) : x < i := by
  refine ancs_good ops.toList [] (by simp) (fun i => by intro L _ _ x hx; simp at hx) i (· < i) (fun k o ho hk j hj => ?_) (fun o ho j hj => H.back i o ho j hj) x hx
  have := H.back k o ho j hj
  simp only at hk ⊢
  omega
theorem anc_lst {listed : Array Bool} (hcl : Closed ops (Lst listed)) {i x : Nat} (hw : ∀ o, ops[i]? = some o → ∀ j ∈ waits o, Lst listed j) (hx : x ∈ (ancs ops.toList []).getD i []) : Lst listed x :=
  ancs_good ops.toList [] (by simp) (fun i => by intro L _ _ x hx; simp at hx) i (Lst listed) hcl hw x hx
theorem incomp_false {an : List (List Nat)} {i j : Nat} (h : incomp an i j = false) (hne : i ≠ j) : j ∈ an.getD i [] ∨ i ∈ an.getD j [] := by
  unfold incomp at h
  simp only [Bool.and_eq_false_iff, bne_eq_false_iff_eq, Bool.not_eq_false', List.contains_eq_mem, decide_eq_true_eq] at h
  rcases h with (h | h) | h
  · exact absurd h hne
  · exact .inl h
  · exact .inr h
theorem incomp_symm {an : List (List Nat)} {i j : Nat} (h : incomp an i j = true) : incomp an j i = true := by
  unfold incomp at h ⊢
  simp only [Bool.and_eq_true, bne_iff_ne, ne_eq, Bool.not_eq_true'] at h ⊢
  exact ⟨⟨fun e => h.1.1 e.symm, h.2⟩, h.1.2⟩
end
end Go.Vi
