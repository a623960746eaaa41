/-
  Plain laws: fleets and passages (FormatPassage). No condition.
-/
import Derived.Test.YtlnbbhaclhpjjaaDoorPRe
namespace Go.Vi
open Go.Lib
set_option linter.unusedSimpArgs false
set_option linter.unusedVariables false

/-! Fleets -/
def shIs (xs : List XShip) (s : List UInt8) (i : Nat) : Bool := match xs[i]? with
  | some x => decide (x.Name = s)
  | none => false
def shNamed (xs : List XShip) (s : List UInt8) : Int := (List.range' 0 xs.length).foldr (fun i r => if shIs xs s i = true then (i : Int) else r) (-1)
theorem spec_ShipNamed_eq {xs : List XShip} {s : List UInt8} (h : xs.length ≤ maxLen) : f_spec_ShipNamed xs s = some (shNamed xs s) := by
  unfold f_spec_ShipNamed
  exact (range_loop (f_spec_ShipNamed_1 s xs) xs.length h (fun i r => if shIs xs s i = true then some (i : Int) else r) (some (-1)) (fun n i hi => by simp [f_spec_ShipNamed_1, ix_nn, hi, shIs]) (fun n => by simp [f_spec_ShipNamed_1]) xs.length 0 bigN (by omega) (lt_bigN h)).trans (foldr_first _ _ _ _ _)
theorem impl_ShipNamed_eq {xs : List XShip} {s : List UInt8} (h : xs.length ≤ maxLen) : f_impl_ShipNamed xs s = some (shNamed xs s) := by
  unfold f_impl_ShipNamed
  exact (range_loop (f_impl_ShipNamed_1 s xs) xs.length h (fun i r => if shIs xs s i = true then some (i : Int) else r) (some (-1)) (fun n i hi => by simp [f_impl_ShipNamed_1, ix_nn, hi, shIs]) (fun n => by simp [f_impl_ShipNamed_1]) xs.length 0 bigN (by omega) (lt_bigN h)).trans (foldr_first _ _ _ _ _)
def flAt (xs : List XShip) (i : Nat) : Bool := match xs[i]? with
  | some x => shipOk x && decide (shNamed xs x.Name = (i : Int))
  | none => false
def fleetOk (xs : List XShip) : Bool := decide (xs.length ≤ 6) && (List.range xs.length).all (flAt xs)
theorem bne_dec (a b : Int) : (a != b) = !decide (a = b) := rfl
theorem spec_FleetOk_eq {xs : List XShip} (hn : ∀ x ∈ xs, x.Name.length ≤ maxLen) : f_spec_FleetOk xs = some (fleetOk xs) := by
  unfold f_spec_FleetOk fleetOk
  by_cases h : xs.length ≤ 6
  · have h' : ¬ (6 : Int) < xs.length := by omega
    have hm : xs.length ≤ maxLen := by rw [maxLen_val]; omega
    simp only [h, h', decide_true, decide_false, Bool.false_eq_true, if_false, Bool.true_and]
    refine all_loopI (L := f_spec_FleetOk_1 xs) xs.length (flAt xs) hm (fun n i hi => ?_) (fun n => by simp [f_spec_FleetOk_1])
    simp only [f_spec_FleetOk_1, dec_nn, hi, decide_true, if_true, ix_at hi, Option.bind_some, spec_ShipOk_eq (hn _ (List.getElem_mem hi)), spec_ShipNamed_eq hm, flAt, List.getElem?_eq_getElem hi, bne_dec]
    cases shipOk xs[i] <;> by_cases e : shNamed xs xs[i].Name = (i : Int) <;> simp [e]
  · have h' : (6 : Int) < xs.length := by omega
    simp [h, h']
theorem impl_FleetOk_eq {xs : List XShip} (hn : ∀ x ∈ xs, x.Name.length ≤ maxLen) : f_impl_FleetOk xs = some (fleetOk xs) := by
  unfold f_impl_FleetOk fleetOk
  by_cases h : xs.length ≤ 6
  · have h' : ¬ (6 : Int) < xs.length := by omega
    have hm : xs.length ≤ maxLen := by rw [maxLen_val]; omega
    simp only [h, h', decide_true, decide_false, Bool.false_eq_true, if_false, Bool.true_and]
    refine all_loopI (L := f_impl_FleetOk_1 xs) xs.length (flAt xs) hm (fun n i hi => ?_) (fun n => by simp [f_impl_FleetOk_1])
    simp only [f_impl_FleetOk_1, dec_nn, hi, decide_true, if_true, ix_at hi, Option.bind_some, impl_ShipOk_eq (hn _ (List.getElem_mem hi)), impl_ShipNamed_eq hm, flAt, List.getElem?_eq_getElem hi, bne_dec]
    cases shipOk xs[i] <;> by_cases e : shNamed xs xs[i].Name = (i : Int) <;> simp [e]
  · have h' : (6 : Int) < xs.length := by omega
    simp [h, h']
theorem fleet_facts {xs : List XShip} (h : fleetOk xs = true) : xs.length ≤ 6 ∧ ∀ x ∈ xs, shipOk x = true := by
  simp only [fleetOk, Bool.and_eq_true, decide_eq_true_eq, List.all_eq_true, List.mem_range] at h
  refine ⟨h.1, fun x hx => ?_⟩
  obtain ⟨i, hi, rfl⟩ := List.getElem_of_mem hx
  have := h.2 i hi
  simp only [flAt, List.getElem?_eq_getElem hi, Bool.and_eq_true] at this
  exact this.1

/-! Passages -/
def minsOn (x : XSegment) (s : XShip) : Int := if s.Slow = true then IntKind.i64.wrap (2 * x.Minutes) else x.Minutes
theorem spec_minutes_eq (x : XSegment) (s : XShip) : f_spec_l06Minutes x s = some (minsOn x s) := by unfold f_spec_l06Minutes minsOn; split <;> rfl
theorem impl_minutes_eq (x : XSegment) (s : XShip) : f_impl_Ship_minutes s x = some (minsOn x s) := by unfold f_impl_Ship_minutes minsOn; split <;> rfl
def segAt (c : XChart) (i : Int) : XSegment := c.Segments[i.toNat]?.getD ⟨0, 0, 0, 0, false⟩
def shipAt (l : List XShip) (i : Int) : XShip := l[i.toNat]?.getD ⟨[], 0, 0, 0, 0, false⟩
theorem ix_idx {α : Type} {l : List α} {i : Int} (d : α) (h : idx i l.length = true) : ix l i = some (l[i.toNat]?.getD d) ∧ l[i.toNat]?.getD d ∈ l := by
  simp only [idx, Bool.and_eq_true, decide_eq_true_eq] at h
  obtain ⟨k, rfl⟩ : ∃ k : Nat, i = (k : Int) := ⟨i.toNat, by omega⟩
  have hk : k < l.length := by omega
  have e : l[((k : Nat) : Int).toNat]?.getD d = l[k] := by simp [hk]
  rw [ix_at hk, e]
  exact ⟨rfl, List.getElem_mem hk⟩
theorem ix_seg {c : XChart} {i : Int} (h : idx i c.Segments.length = true) : ix c.Segments i = some (segAt c i) ∧ segAt c i ∈ c.Segments := ix_idx _ h
theorem ix_ship {l : List XShip} {i : Int} (h : idx i l.length = true) : ix l i = some (shipAt l i) ∧ shipAt l i ∈ l := ix_idx _ h
def passIn (c : XChart) (fl : List XShip) (p : XPassage) : Bool := idx p.Ship fl.length && (idx p.Segment c.Segments.length && (minOk p.Start && (decide (p.End ≤ 2880) && decide (p.End = IntKind.i64.wrap (p.Start + minsOn (segAt c p.Segment) (shipAt fl p.Ship))))))
def passOk (c : XChart) (fl : List XShip) (p : XPassage) : Bool := chartOk c && (fleetOk fl && passIn c fl p)
theorem idx_l01 (i : Int) {n : Nat} (h : n ≤ 1000) : f_spec_l01In i 0 (IntKind.i64.wrap ((n : Int) - 1)) = some (idx i n) := by rw [l01In_eq, in_idx i h]
theorem idx_impl (i : Int) (n : Nat) : f_impl_isIndex i (n : Int) = some (idx i n) := isIndex_eq i n
theorem spec_MinutesOn_eq {c : XChart} {s : XShip} {i : Int} (hn : ∀ x ∈ c.Points, x.Name.length ≤ maxLen) (hs : s.Name.length ≤ maxLen) (h1 : chartOk c = true) (h2 : shipOk s = true) (h3 : idx i c.Segments.length = true) : f_spec_MinutesOn c i s = some (minsOn (segAt c i) s) := by
  have := (chart_facts h1).2.1
  unfold f_spec_MinutesOn
  simp only [spec_ChartOk_eq hn, spec_ShipOk_eq hs, h1, h2, Option.bind_some, if_true, idx_l01 i (show c.Segments.length ≤ 1000 by omega), h3, (ix_seg h3).1, spec_minutes_eq]
theorem spec_PassageOk_eq {c : XChart} {fl : List XShip} {p : XPassage} (hn : ∀ x ∈ c.Points, x.Name.length ≤ maxLen) (hf : ∀ x ∈ fl, x.Name.length ≤ maxLen) : f_spec_PassageOk c fl p = some (passOk c fl p) := by
  unfold f_spec_PassageOk passOk
  simp only [spec_ChartOk_eq hn, spec_FleetOk_eq hf, Option.bind_some]
  cases h1 : chartOk c with
  | false => simp
  | true =>
    cases h2 : fleetOk fl with
    | false => simp
    | true =>
      have s1 := (chart_facts h1).2.1
      have s2 := (fleet_facts h2).1
      simp only [if_true, Bool.true_and, idx_l01 p.Ship (show fl.length ≤ 1000 by omega), idx_l01 p.Segment (show c.Segments.length ≤ 1000 by omega), Option.bind_some, l01In_eq, passIn, minOk]
      cases h3 : idx p.Ship fl.length with
      | false => simp
      | true =>
        cases h4 : idx p.Segment c.Segments.length with
        | false => simp
        | true =>
          cases h5 : decide (0 ≤ p.Start) && decide (p.Start ≤ 2880) with
          | false => simp
          | true =>
            have hsh := (fleet_facts h2).2 _ (ix_ship h3).2
            simp only [if_true, Bool.true_and, (ix_ship h3).1, Option.bind_some, spec_MinutesOn_eq hn (hf _ (ix_ship h3).2) h1 hsh h4]
            by_cases e : p.End = IntKind.i64.wrap (p.Start + minsOn (segAt c p.Segment) (shipAt fl p.Ship)) <;> simp [e]
theorem impl_PassageOk_eq {c : XChart} {fl : List XShip} {p : XPassage} (hn : ∀ x ∈ c.Points, x.Name.length ≤ maxLen) (hf : ∀ x ∈ fl, x.Name.length ≤ maxLen) : f_impl_PassageOk c fl p = some (passOk c fl p) := by
  unfold f_impl_PassageOk passOk f_impl_passageOk
  simp only [impl_ChartOk_eq hn, impl_FleetOk_eq hf, Option.bind_some]
  cases h1 : chartOk c with
  | false => simp
  | true =>
    cases h2 : fleetOk fl with
    | false => simp
    | true =>
      simp only [if_true, Bool.true_and, idx_impl, Option.bind_some, isMinute_eq, passIn, minOk]
      cases h3 : idx p.Ship fl.length with
      | false => simp
      | true =>
        cases h4 : idx p.Segment c.Segments.length with
        | false => simp
        | true =>
          cases h5 : decide (0 ≤ p.Start) && decide (p.Start ≤ 2880) with
          | false => simp
          | true =>
            simp only [if_true, Bool.true_and, (ix_ship h3).1, (ix_seg h4).1, Option.bind_some, impl_minutes_eq]
            have e0 : decide (2880 < p.End) = !decide (p.End ≤ 2880) := by rw [Bool.eq_iff_iff]; simp
            rw [e0]
            cases decide (p.End ≤ 2880) <;> simp
            rfl
theorem pass_facts {c : XChart} {fl : List XShip} {p : XPassage} (h : passOk c fl p = true) : chartOk c = true ∧ fleetOk fl = true ∧ idx p.Ship fl.length = true ∧ idx p.Segment c.Segments.length = true ∧ i64 p.Start ∧ p.End ≤ 2880 ∧ p.End = IntKind.i64.wrap (p.Start + minsOn (segAt c p.Segment) (shipAt fl p.Ship)) := by
  simp only [passOk, passIn, minOk, Bool.and_eq_true, decide_eq_true_eq] at h
  obtain ⟨h1, h2, h3, h4, h5, h6, h7⟩ := h
  exact ⟨h1, h2, h3, h4, ⟨by omega, by omega⟩, h6, h7⟩
def endA (c : XChart) (p : XPassage) : Int := if p.Toward = true then (segAt c p.Segment).A else (segAt c p.Segment).B
def endB (c : XChart) (p : XPassage) : Int := if p.Toward = true then (segAt c p.Segment).B else (segAt c p.Segment).A
def fmtPass (c : XChart) (fl : List XShip) (p : XPassage) : List UInt8 := if passOk c fl p = true then (shipAt fl p.Ship).Name ++ [32] ++ ptName c (endA c p) ++ [62] ++ ptName c (endB c p) ++ [32] ++ itoa p.Start ++ [32] ++ itoa p.End else []
theorem spec_FormatPassage_eq {c : XChart} {fl : List XShip} {p : XPassage} (hn0 : ∀ x ∈ c.Points, x.Name.length ≤ maxLen) (hf : ∀ x ∈ fl, x.Name.length ≤ maxLen) : f_spec_FormatPassage c fl p = some (fmtPass c fl p) := by
  unfold f_spec_FormatPassage fmtPass f_spec_l08Ends
  rw [spec_PassageOk_eq hn0 hf]
  simp only [Option.bind_some]
  cases h : passOk c fl p with
  | false => simp
  | true =>
    obtain ⟨h1, h2, h3, h4, h5, _, h7⟩ := pass_facts h
    obtain ⟨_, _, hn, hsg⟩ := chart_facts h1
    obtain ⟨qa, qb, _, _⟩ := hsg _ (ix_seg h4).2
    have hE : i64 p.End := by rw [h7]; exact wrap_in _
    have hsn := (name_len (ship_facts ((fleet_facts h2).2 _ (ix_ship h3).2)).1).2
    have l1 := itoa_len h5; have l2 := itoa_len hE
    simp only [if_true, (ix_seg h4).1, (ix_ship h3).1, Option.bind_some, fmt_eq h5, fmt_eq hE]
    have key : ∀ a b : Int, idx a c.Points.length = true → idx b c.Points.length = true → ∃ x y, ix c.Points a = some x ∧ ix c.Points b = some y ∧ x.Name = ptName c a ∧ y.Name = ptName c b ∧ (ptName c a).length ≤ 8 ∧ (ptName c b).length ≤ 8 := by
      intro a b ha hb
      obtain ⟨x, e1, e2, e3⟩ := ix_name ha hn
      obtain ⟨y, e4, e5, e6⟩ := ix_name hb hn
      exact ⟨x, y, e1, e4, e2, e5, e3, e6⟩
    cases ht : p.Toward with
    | true =>
      obtain ⟨x, y, e1, e2, e3, e4, e5, e6⟩ := key _ _ qa qb
      simp only [if_true, Option.bind_some, e1, e2, e3, e4, endA, endB, ht]
      rw [ifc (by simp; omega), ifc (by simp; omega), ifc (by simp; omega), ifc (by simp; omega), ifc (by simp; omega), ifc (by simp; omega), ifc (by simp; omega), ifc (by simp; omega)]
    | false =>
      obtain ⟨x, y, e1, e2, e3, e4, e5, e6⟩ := key _ _ qb qa
      simp only [Bool.false_eq_true, if_false, Option.bind_some, e1, e2, e3, e4, endA, endB, ht]
      rw [ifc (by simp; omega), ifc (by simp; omega), ifc (by simp; omega), ifc (by simp; omega), ifc (by simp; omega), ifc (by simp; omega), ifc (by simp; omega), ifc (by simp; omega)]
theorem impl_FormatPassage_eq {c : XChart} {fl : List XShip} {p : XPassage} (hn0 : ∀ x ∈ c.Points, x.Name.length ≤ maxLen) (hf : ∀ x ∈ fl, x.Name.length ≤ maxLen) : f_impl_FormatPassage c fl p = some (fmtPass c fl p) := by
  unfold f_impl_FormatPassage fmtPass f_impl_Passage_ends
  rw [impl_PassageOk_eq hn0 hf]
  simp only [Option.bind_some]
  cases h : passOk c fl p with
  | false => simp
  | true =>
    obtain ⟨h1, h2, h3, h4, h5, _, h7⟩ := pass_facts h
    obtain ⟨_, _, hn, hsg⟩ := chart_facts h1
    obtain ⟨qa, qb, _, _⟩ := hsg _ (ix_seg h4).2
    have hE : i64 p.End := by rw [h7]; exact wrap_in _
    have hsn := (name_len (ship_facts ((fleet_facts h2).2 _ (ix_ship h3).2)).1).2
    have l1 := itoa_len h5; have l2 := itoa_len hE
    simp only [if_true, (ix_seg h4).1, (ix_ship h3).1, Option.bind_some, impl_fmt_eq h5, impl_fmt_eq hE]
    have key : ∀ a b : Int, idx a c.Points.length = true → idx b c.Points.length = true → ∃ x y, ix c.Points a = some x ∧ ix c.Points b = some y ∧ x.Name = ptName c a ∧ y.Name = ptName c b ∧ (ptName c a).length ≤ 8 ∧ (ptName c b).length ≤ 8 := by
      intro a b ha hb
      obtain ⟨x, e1, e2, e3⟩ := ix_name ha hn
      obtain ⟨y, e4, e5, e6⟩ := ix_name hb hn
      exact ⟨x, y, e1, e4, e2, e5, e3, e6⟩
    cases ht : p.Toward with
    | true =>
      obtain ⟨x, y, e1, e2, e3, e4, e5, e6⟩ := key _ _ qa qb
      simp only [if_true, Option.bind_some, e1, e2, e3, e4, endA, endB, ht]
      rw [ifc (by simp; omega), ifc (by simp; omega), impl_join_eq (by simp) (by rw [join4]; simp; omega), join4]
      simp
    | false =>
      obtain ⟨x, y, e1, e2, e3, e4, e5, e6⟩ := key _ _ qb qa
      simp only [Bool.false_eq_true, if_false, Option.bind_some, e1, e2, e3, e4, endA, endB, ht]
      rw [ifc (by simp; omega), ifc (by simp; omega), impl_join_eq (by simp) (by rw [join4]; simp; omega), join4]
      simp
theorem toShipS_eq {xs : List XShip} (h : xs.length ≤ 1048576) : f_laws_toShipS xs = some xs := by
  unfold f_laws_toShipS
  rw [mkS_len h (by omega)]
  have := copy_loop (L := f_laws_toShipS_1 xs) xs id (le_max h) (fun n i acc hi ha => by simp [f_laws_toShipS_1, ix_nn, hi, ha, f_laws_toShip]) (fun n acc => by simp [f_laws_toShipS_1]) (List.replicate xs.length ⟨[], 0, 0, 0, 0, false⟩) (by simp)
  simpa using this
theorem eqShip_eq (x y : XShip) : f_laws_eqShip x y = some (decide (x = y)) := by
  unfold f_laws_eqShip
  cases x; cases y
  simp only [XShip.mk.injEq]
  repeat' split
  all_goals simp_all
theorem eqShipS_eq {xs ys : List XShip} (h : xs.length ≤ maxLen) : f_laws_eqShipS xs ys = some (decide (xs = ys)) := by
  unfold f_laws_eqShipS
  by_cases hl : xs.length = ys.length
  · have := eq_loop (L := f_laws_eqShipS_1 xs ys) xs ys h hl (fun n i h1 h2 => by simp [f_laws_eqShipS_1, ix_nn, h1, h2, eqShip_eq]) (fun n => by simp [f_laws_eqShipS_1])
    simp [hl, this]
  · have : ¬ (xs.length : Int) = ys.length := by omega
    have : xs ≠ ys := fun e => hl (by rw [e])
    simp_all
theorem szShip_of {x : XShip} {l : Int} (h0 : 0 ≤ l) (h1 : l ≤ 1048576) (hx : x.Name.length ≤ maxLen) : ∃ r, f_laws_szShip x l = some r ∧ (0 ≤ r → r ≤ l) := by
  unfold f_laws_szShip
  rw [maxLen_val] at hx
  rw [wrap64 (by omega) (by omega)]
  by_cases h : l - (x.Name.length : Int) < 0
  · exact ⟨-1, by simp [h], by omega⟩
  · exact ⟨l - x.Name.length, by simp [h], by omega⟩
theorem szShipS_of {xs : List XShip} {l : Int} (h0 : 0 ≤ l) (h1 : l ≤ 1048576) (hx : xs.length ≤ maxLen) (hn : ∀ x ∈ xs, x.Name.length ≤ maxLen) : ∃ r, f_laws_szShipS xs l = some r ∧ (0 ≤ r → r ≤ l ∧ xs.length ≤ 1048576) := by
  unfold f_laws_szShipS
  have hx' := hx
  rw [maxLen_val] at hx'
  rw [wrap64 (by omega) (by omega)]
  by_cases h : l - (xs.length : Int) < 0
  · exact ⟨-1, by simp [h], by omega⟩
  · have key : ∀ (k i n : Nat) (v : Int), i + k = xs.length → k < n → 0 ≤ v → v ≤ l → ∃ r, f_laws_szShipS_1 xs n v (i : Int) = some r ∧ (0 ≤ r → r ≤ l) := by
      intro k
      induction k with
      | zero =>
        intro i n v hi hn2 hv hv2
        obtain ⟨m, rfl⟩ : ∃ m, n = m + 1 := ⟨n - 1, by omega⟩
        have : i = xs.length := by omega
        subst this
        exact ⟨v, by simp [f_laws_szShipS_1], fun _ => hv2⟩
      | succ k ih =>
        intro i n v hi hn2 hv hv2
        obtain ⟨m, rfl⟩ : ∃ m, n = m + 1 := ⟨n - 1, by omega⟩
        have hlt : i < xs.length := by omega
        obtain ⟨r, e, hr⟩ := szShip_of (x := xs[i]) hv (by omega) (hn _ (List.getElem_mem hlt))
        by_cases hr0 : r < 0
        · exact ⟨-1, by simp [f_laws_szShipS_1, ix_nn, hlt, e, hr0], by omega⟩
        · obtain ⟨r2, e2, h2⟩ := ih (i + 1) m r (by omega) (by omega) (by omega) (by have := hr (by omega); omega)
          refine ⟨r2, ?_, h2⟩
          rw [← wrapS hlt hx] at e2
          simp only [f_laws_szShipS_1, ix_nn, List.getElem?_eq_getElem hlt, Option.bind_some, dec_nn, hlt, decide_true, if_true, e, hr0, decide_false, Bool.false_eq_true, if_false]
          exact e2
    obtain ⟨r, e, hr⟩ := key xs.length 0 bigN (l - xs.length) (by omega) (lt_bigN hx) (by omega) (by omega)
    refine ⟨r, ?_, fun h => ⟨hr h, by omega⟩⟩
    simp only [h, decide_false, Bool.false_eq_true, if_false]
    exact e
theorem ships_ok {xs : List XShip} (ok : (D.sl (List.map XShip.row xs)).Ok) : xs.length ≤ maxLen ∧ ∀ x ∈ xs, x.Name.length ≤ maxLen :=
  ⟨len_ok ok, fun x hx => (ok.sl.2 (XShip.row x) (List.mem_map_of_mem hx) (.str x.Name) (by simp [XShip.row_eq])).str⟩
theorem law_FnExactFormatPassage (c : XChart) (fl : List XShip) (p : XPassage) (ok : DsOk [.ag (XChart.row c), .sc (.sl (List.map XShip.row fl)), .ag (XPassage.row p)]) : f_laws_FnExactFormatPassage c fl p = some true := by
  unfold f_laws_FnExactFormatPassage
  obtain ⟨hp, hs, hn⟩ := chart_ok ok.ag.1
  obtain ⟨hl, hf⟩ := ships_ok ok.ag.2.sc.1
  obtain ⟨r, e, h⟩ := szChart_of (c := c) (l := 1048576) (by omega) (by omega) hp hs hn
  by_cases hr : r < 0
  · simp [e, hr]
  · obtain ⟨k1, k2, k3⟩ := h (by omega)
    obtain ⟨r', e', h'⟩ := szShipS_of (xs := fl) (l := r) (by omega) (by omega) hl hf
    by_cases hr' : r' < 0
    · simp [e, hr, e', hr']
    · obtain ⟨_, k4⟩ := h' (by omega)
      simp [e, hr, e', hr', toChart_eq k2 k3, toShipS_eq k4, f_laws_toPassage, spec_FormatPassage_eq hn hf, impl_FormatPassage_eq hn hf, eqChart_self hp hs, eqShipS_eq hl]
end Go.Vi
