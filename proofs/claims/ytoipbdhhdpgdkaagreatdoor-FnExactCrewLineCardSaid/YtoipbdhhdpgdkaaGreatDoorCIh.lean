/-
  Plain laws: duties of tugs and pilots, how many of them a plan needs, and the line about them (CrewLine). No condition.
-/
import Derived.Test.YtoipbdhhdpgdkaaGreatDoorCIg
namespace Go.Vi
open Go.Lib
set_option linter.unusedSimpArgs false
set_option linter.unusedVariables false
section
variable {c : XChart} {fl : List XShip}
def endsOf (c : XChart) (p : XPassage) : Int × Int := if p.Toward = true then ((segAt c p.Segment).A,(segAt c p.Segment).B) else ((segAt c p.Segment).B,(segAt c p.Segment).A)
theorem spec_ends_eq {p : XPassage} (h : idx p.Segment c.Segments.length = true) : f_spec_l08Ends c p = some (endsOf c p) := by
 unfold f_spec_l08Ends endsOf
 rw [(ix_seg h).1,Option.bind_some]
 split <;> rfl
theorem impl_ends_eq {p : XPassage} (h : idx p.Segment c.Segments.length = true) : f_impl_Passage_ends p c = some (endsOf c p) := by
 unfold f_impl_Passage_ends endsOf
 rw [(ix_seg h).1,Option.bind_some]
 split <;> rfl
theorem ends_small {p : XPassage} (hc : chartOk c = true) (h : idx p.Segment c.Segments.length = true) : 0 ≤ (endsOf c p).1 ∧ (endsOf c p).1 < 8 ∧ 0 ≤ (endsOf c p).2 ∧ (endsOf c p).2 < 8 := by
 have hp := (seg_facts hc).1
 have hx := (ix_seg h).2
 simp only [chartOk,Bool.and_eq_true,decide_eq_true_eq,List.all_eq_true,List.mem_range] at hc
 obtain ⟨i,hi,e⟩ := List.getElem_of_mem hx
 have := hc.2.2.2 i hi
 simp only [segOk,List.getElem?_eq_getElem hi,e,idx,Bool.and_eq_true,decide_eq_true_eq] at this
 unfold endsOf
 split <;> (simp only; omega)
theorem pass_lt {p : XPassage} (hc : chartOk c = true) (h : passIn c fl p = true) : p.Start < p.End := by
 simp only [passIn,minOk,Bool.and_eq_true,decide_eq_true_eq] at h
 obtain ⟨h3,h4,h5,h6,h7⟩ := h
 obtain ⟨_,_,a,b⟩ := (seg_facts hc).2.2 _ (ix_seg h4).2
 rw [h7]
 unfold minsOn
 split
 ·rw [wrap64 (n := 2 * _) (by omega) (by omega),wrap64 (by omega) (by omega)]; omega
 ·rw [wrap64 (by omega) (by omega)]; omega
theorem impl_PassageOk_in {p : XPassage} (hn : ∀ x ∈ c.Points,x.Name.length ≤ maxLen) (hf : ∀ x ∈ fl,x.Name.length ≤ maxLen) (h1 : chartOk c = true) (h2 : fleetOk fl = true) : f_impl_PassageOk c fl p = some (passIn c fl p) := by
 unfold f_impl_PassageOk
 rw [impl_ChartOk_eq hn,h1,Option.bind_some,if_pos rfl,impl_FleetOk_eq hf,h2,Option.bind_some,if_pos rfl,impl_passageOk_in,Option.bind_some]
def dutyOf (c : XChart) (p q : XPassage) : XDuty := ⟨p.Start,q.End,(endsOf c p).1,(endsOf c q).2⟩
theorem impl_duty_eq {p q : XPassage} (h1 : idx p.Segment c.Segments.length = true) (h2 : idx q.Segment c.Segments.length = true) : f_impl_duty c p q = some (dutyOf c p q) := by
 unfold f_impl_duty
 rw [impl_ends_eq h1,Option.bind_some,impl_ends_eq h2,Option.bind_some]
 rfl
theorem dutyOf_ok {p q : XPassage} (hc : chartOk c = true) (h1 : idx p.Segment c.Segments.length = true) (h2 : idx q.Segment c.Segments.length = true) (h3 : 0 ≤ p.Start) (h4 : p.Start < q.End) (h5 : q.End ≤ 2880) : dutyOk (dutyOf c p q) = true := by
 obtain ⟨a1,a2,_,_⟩ := ends_small hc h1
 obtain ⟨_,_,b1,b2⟩ := ends_small hc h2
 unfold dutyOk dutyOf
 simp only [Bool.and_eq_true,decide_eq_true_eq]
 exact ⟨h3,h4,h5,⟨a1,a2⟩,b1,b2⟩
theorem tugs_spec {p : XPassage} {s : XShip} (hs : ix fl p.Ship = some s) (h1 : idx p.Segment c.Segments.length = true) (all : List XPassage) (v1 : Int) (K : Int → List XDuty → Option (List XDuty × Bool)) {T : Nat} (hT : s.Tugs = (T : Int)) (hT4 : T ≤ 4) :
  ∀ (r k n : Nat) (acc : List XDuty),k + r = T → r < n → acc.length ≤ 12 + k → f_spec_l14Tugs_2 fl (endsOf c p) all v1 c p K n (k : Int) acc =
   if (decide ((12 : Int) < ((acc ++ List.replicate r (dutyOf c p p)).length : Int))) then some (([] : List XDuty),false) else K (IntKind.i64.wrap (v1 + (1 : Int))) (acc ++ List.replicate r (dutyOf c p p)) := by
 intro r
 induction r with
 | zero =>
  intro k n acc hk hn ha
  obtain ⟨n,rfl⟩ : ∃ n',n = n' + 1 := ⟨n - 1,by omega⟩
  rw [f_spec_l14Tugs_2,hs,Option.bind_some,if_neg (by rw [hT]; simp; omega)]
  simp
 | succ r ih =>
  intro k n acc hk hn ha
  obtain ⟨n,rfl⟩ : ∃ n',n = n' + 1 := ⟨n - 1,by omega⟩
  rw [f_spec_l14Tugs_2,hs,Option.bind_some,if_pos (by rw [hT]; simp; omega),if_pos (app_ok (by simp; omega) (by omega)),wrapS (i := k) (n := 5) (by omega) (by rw [maxLen_val]; omega)]
  have := ih (k + 1) n (acc ++ [dutyOf c p p]) (by omega) (by omega) (by simp; omega)
  refine this.trans ?_
  rw [List.append_assoc]
  rfl
theorem tugs_impl {p : XPassage} {s : XShip} (h1 : idx p.Segment c.Segments.length = true) (all : List XPassage) (v1 : Int) (K : Int → List XDuty → Option (List XDuty × Bool)) {T : Nat} (hT : s.Tugs = (T : Int)) (hT4 : T ≤ 4) :
  ∀ (r k n : Nat) (acc : List XDuty),k + r = T → r < n → acc.length ≤ 12 + k → f_impl_tugDuties_2 fl all v1 s c p K n (k : Int) acc =
   if (decide ((12 : Int) < ((acc ++ List.replicate r (dutyOf c p p)).length : Int))) then some (([] : List XDuty),false) else K (IntKind.i64.wrap (v1 + (1 : Int))) (acc ++ List.replicate r (dutyOf c p p)) := by
 intro r
 induction r with
 | zero =>
  intro k n acc hk hn ha
  obtain ⟨n,rfl⟩ : ∃ n',n = n' + 1 := ⟨n - 1,by omega⟩
  rw [f_impl_tugDuties_2,if_neg (by rw [hT]; simp; omega)]
  simp
 | succ r ih =>
  intro k n acc hk hn ha
  obtain ⟨n,rfl⟩ : ∃ n',n = n' + 1 := ⟨n - 1,by omega⟩
  rw [f_impl_tugDuties_2,if_pos (by rw [hT]; simp; omega),impl_duty_eq h1 h1,Option.bind_some,if_pos (app_ok (by simp; omega) (by omega)),wrapS (i := k) (n := 5) (by omega) (by rw [maxLen_val]; omega)]
  have := ih (k + 1) n (acc ++ [dutyOf c p p]) (by omega) (by omega) (by simp; omega)
  refine this.trans ?_
  rw [List.append_assoc]
  rfl
theorem tugs_same (hn : ∀ x ∈ c.Points,x.Name.length ≤ maxLen) (hf : ∀ x ∈ fl,x.Name.length ≤ maxLen) (hc : chartOk c = true) (hfl : fleetOk fl = true) {all : List XPassage} (hl : all.length ≤ maxLen) :
  ∃ out ok,f_spec_l14Tugs c fl all = some (out,ok) ∧ f_impl_tugDuties c fl all = some (out,ok) ∧ (ok = true → out.length ≤ 12 ∧ ∀ d ∈ out,dutyOk d = true) := by
 have key : ∀ (k i n : Nat) (acc : List XDuty),i + k = all.length → k < n → acc.length ≤ 12 → (∀ d ∈ acc,dutyOk d = true) →
   ∃ out ok,f_spec_l14Tugs_1 fl all c n (i : Int) acc = some (out,ok) ∧ f_impl_tugDuties_1 fl all c n (i : Int) acc = some (out,ok) ∧ (ok = true → out.length ≤ 12 ∧ ∀ d ∈ out,dutyOk d = true) := by
  intro k
  induction k with
  | zero =>
   intro i n acc hi hn2 ha hd
   obtain ⟨n,rfl⟩ : ∃ n',n = n' + 1 := ⟨n - 1,by omega⟩
   refine ⟨acc,true,?_,?_,fun _ => ⟨ha,hd⟩⟩
   ·rw [f_spec_l14Tugs_1,if_neg (by simp; omega)]
   ·rw [f_impl_tugDuties_1,if_neg (by simp; omega)]
  | succ k ih =>
   intro i n acc hi hn2 ha hd
   obtain ⟨n,rfl⟩ : ∃ n',n = n' + 1 := ⟨n - 1,by omega⟩
   have hlt : i < all.length := by omega
   simp only [f_spec_l14Tugs_1,f_impl_tugDuties_1,dec_nn,hlt,decide_true,if_true,ix_at hlt,Option.bind_some,spec_PassageOk_in hn hf hc hfl,impl_PassageOk_in hn hf hc hfl]
   cases hp : passIn c fl all[i] with
   | false => exact ⟨[],false,rfl,rfl,fun h => by cases h⟩
   | true =>
    obtain ⟨f1,f2,f3,f4,f5⟩ := passIn_facts hc hp
    obtain ⟨s1,s2⟩ := ix_ship f1
    have hso := (fleet_facts hfl).2 _ s2
    have hT : 0 ≤ (shipAt fl all[i].Ship).Tugs ∧ (shipAt fl all[i].Ship).Tugs ≤ 4 := by
     simp only [shipOk,Bool.and_eq_true,decide_eq_true_eq] at hso
     omega
    obtain ⟨T,hTe⟩ : ∃ T : Nat,(shipAt fl all[i].Ship).Tugs = (T : Int) := ⟨(shipAt fl all[i].Ship).Tugs.toNat,by omega⟩
    simp only [if_true,spec_ends_eq f2,Option.bind_some,s1]
    have g1 := tugs_spec (c := c) (p := all[i]) s1 f2 all (i : Int) (f_spec_l14Tugs_1 fl all c n) hTe (by omega) T 0 bigN acc (by omega) (by rw [bigN_val]; omega) (by omega)
    have g2 := tugs_impl (c := c) (fl := fl) (p := all[i]) f2 all (i : Int) (f_impl_tugDuties_1 fl all c n) hTe (by omega) T 0 bigN acc (by omega) (by rw [bigN_val]; omega) (by omega)
    have g1 : f_spec_l14Tugs_2 fl (endsOf c all[i]) all (i : Int) c all[i] (f_spec_l14Tugs_1 fl all c n) bigN 0 acc = _ := g1
    have g2 : f_impl_tugDuties_2 fl all (i : Int) (shipAt fl all[i].Ship) c all[i] (f_impl_tugDuties_1 fl all c n) bigN 0 acc = _ := g2
    rw [g1,g2]
    by_cases h12 : (12 : Int) < ((acc ++ List.replicate T (dutyOf c all[i] all[i])).length : Int)
    ·simp only [h12,decide_true,if_true]
     exact ⟨[],false,rfl,rfl,fun h => by cases h⟩
    ·simp only [h12,decide_false,Bool.false_eq_true,if_false]
     rw [wrapS hlt hl]
     refine ih (i + 1) n _ (by omega) (by omega) (by omega) fun d hd2 => ?_
     rcases List.mem_append.1 hd2 with h | h
     ·exact hd d h
     ·rw [(List.mem_replicate.1 h).2]
      exact dutyOf_ok hc f2 f2 f3 (pass_lt hc hp) f5
 exact key all.length 0 bigN [] (by omega) (lt_bigN hl) (by simp) (fun d h => by cases h)
theorem crew_facts {w : XCrew} (h : crewOk w = true) : minOk w.Rest = true ∧ movOk w.Moves = true := by
 simp only [crewOk,Bool.and_eq_true] at h
 exact ⟨h.2.2.1,by simp only [movOk,Bool.and_eq_true]; exact h.2.2.2⟩
theorem allOk_of {p : Int} {m : List Int} {l : List XDuty} (h1 : l.length ≤ 12) (h2 : ∀ d ∈ l,dutyOk d = true) (h3 : minOk p = true) (h4 : movOk m = true) : allOk p m l = true := by
 simp only [allOk,tabOk,h3,h4,Bool.and_self,Bool.and_true,Bool.and_eq_true,decide_eq_true_eq,List.all_eq_true]
 exact ⟨h1,h2⟩
def small (n : Int) : Prop := -1 ≤ n ∧ n ≤ 12
theorem TugsNeeded_same {w : XCrew} (hw : crewOk w = true) (hm : w.Moves.length ≤ maxLen) (hn : ∀ x ∈ c.Points,x.Name.length ≤ maxLen) (hf : ∀ x ∈ fl,x.Name.length ≤ maxLen) (hc : chartOk c = true) (hfl : fleetOk fl = true) {all : List XPassage} (hl : all.length ≤ maxLen) :
  ∃ r,small r ∧ f_spec_TugsNeeded w c fl all = some r ∧ f_impl_TugsNeeded w c fl all = some r := by
 obtain ⟨out,ok,e1,e2,e3⟩ := tugs_same hn hf hc hfl hl
 obtain ⟨m1,m2⟩ := crew_facts hw
 unfold f_spec_TugsNeeded f_impl_TugsNeeded
 rw [e1,e2,Option.bind_some,Option.bind_some,spec_CrewOk_eq hm,hw,Option.bind_some,if_pos rfl]
 cases ok with
 | false => exact ⟨-1,⟨by omega,by omega⟩,by rw [if_neg (by simp)],by rw [if_neg (by simp)]⟩
 | true =>
  obtain ⟨k1,k2⟩ := e3 rfl
  obtain ⟨n,w1,w2,n12,g1,g2⟩ := LeastCover_same (p := 0) hm (allOk_of k1 k2 (by decide) m2)
  refine ⟨n,⟨by omega,by omega⟩,?_,?_⟩
  ·rw [if_pos rfl,g1,Option.bind_some,if_pos rfl]
  ·rw [if_pos rfl,impl_CrewOk_eq hm,hw,Option.bind_some,if_pos rfl,g2,Option.bind_some]
theorem bne_pair (a b : Int) : (a != b) = !decide (a = b) := rfl
theorem chain_same (hn : ∀ x ∈ c.Points,x.Name.length ≤ maxLen) (hc : chartOk c = true) {l : List XPassage} (hl : l.length ≤ maxLen) :
  ∃ b,f_spec_IsChain c l = some b ∧ f_impl_IsChain c l = some b ∧ (b = true → ∀ (j : Nat) (h : j < l.length),idx l[j].Segment c.Segments.length = true ∧ ∀ (h0 : 0 < j),(l[j - 1]'(by omega)).End ≤ l[j].Start) := by
 have hsg := (seg_facts hc).2.1
 have key : ∀ (k i n : Nat),i + k = l.length → k < n → (∀ (j : Nat) (h : j < l.length),j < i → idx l[j].Segment c.Segments.length = true) →
   ∃ b,f_spec_IsChain_1 l c n (i : Int) = some b ∧ f_impl_IsChain_1 l c n (i : Int) = some b ∧ (b = true → ∀ (j : Nat) (h : j < l.length),i ≤ j → idx l[j].Segment c.Segments.length = true ∧ ∀ (h0 : 0 < j),(l[j - 1]'(by omega)).End ≤ l[j].Start) := by
  intro k
  induction k with
  | zero =>
   intro i n hi hn2 hp
   obtain ⟨n,rfl⟩ : ∃ n',n = n' + 1 := ⟨n - 1,by omega⟩
   refine ⟨true,?_,?_,fun _ j h1 h2 => by omega⟩
   ·rw [f_spec_IsChain_1,if_neg (by simp; omega)]
   ·rw [f_impl_IsChain_1,if_neg (by simp; omega)]
  | succ k ih =>
   intro i n hi hn2 hp
   obtain ⟨n,rfl⟩ : ∃ n',n = n' + 1 := ⟨n - 1,by omega⟩
   have hlt : i < l.length := by omega
   have h00 : ix l (0 : Int) = some (l[0]'(by omega)) := ix_at (i := 0) (by omega)
   simp only [f_spec_IsChain_1,f_impl_IsChain_1,dec_nn,hlt,decide_true,if_true,ix_at hlt,Option.bind_some,h00]
   cases hsh : (l[i].Ship != (l[0]'(by omega)).Ship) with
   | true => exact ⟨false,rfl,rfl,fun h => by cases h⟩
   | false =>
    simp only [Bool.false_eq_true,if_false,idx_l01 l[i].Segment (show c.Segments.length ≤ 1000 by omega),idx_impl,Option.bind_some]
    cases hix : idx l[i].Segment c.Segments.length with
    | false => exact ⟨false,rfl,rfl,fun h => by cases h⟩
    | true =>
     simp only [if_true]
     have hnx : (∀ h0 : 0 < i,(l[i - 1]'(by omega)).End ≤ l[i].Start) → ∃ b,f_spec_IsChain_1 l c n (IntKind.i64.wrap ((i : Int) + 1)) = some b ∧ f_impl_IsChain_1 l c n (IntKind.i64.wrap ((i : Int) + 1)) = some b ∧ (b = true → ∀ (j : Nat) (h : j < l.length),i ≤ j → idx l[j].Segment c.Segments.length = true ∧ ∀ (h0 : 0 < j),(l[j - 1]'(by omega)).End ≤ l[j].Start) := by
      intro hst
      rw [wrapS hlt hl]
      obtain ⟨b,b1,b2,b3⟩ := ih (i + 1) n (by omega) (by omega) fun j h1 h2 => by
       by_cases hj : j = i
       ·subst hj; exact hix
       ·exact hp j h1 (by omega)
      refine ⟨b,b1,b2,fun hb j h1 h2 => ?_⟩
      by_cases hj : j = i
      ·subst hj; exact ⟨hix,hst⟩
      ·exact b3 hb j h1 (by omega)
     by_cases h0 : i = 0
     ·subst h0
      have hz0 : (((0 : Nat) : Int) == (0 : Int)) = true := rfl
      simp only [hz0,if_true]
      exact hnx fun h => by omega
     ·have hz : ((i : Int) == (0 : Int)) = false := by rw [beq_zero]; simpa using h0
      have ew : IntKind.i64.wrap ((i : Int) - 1) = ((i - 1 : Nat) : Int) := by
       rw [show (i : Int) - 1 = ((i - 1 : Nat) : Int) by omega]
       exact wrap64 (by omega) (by rw [maxLen_val] at hl; omega)
      have hpi := hp (i - 1) (by omega) (by omega)
      simp only [hz,Bool.false_eq_true,if_false,spec_ends_eq hix,impl_ends_eq hix,Option.bind_some,ew,ix_at (show i - 1 < l.length by omega),spec_ends_eq hpi,impl_ends_eq hpi]
      cases hne : ((endsOf c l[i]).1 != (endsOf c (l[i - 1]'(by omega))).2) with
      | true => exact ⟨false,rfl,rfl,fun h => by cases h⟩
      | false =>
       simp only [Bool.false_eq_true,if_false]
       by_cases hst : l[i].Start < (l[i - 1]'(by omega)).End
       ·simp only [hst,decide_true,if_true]
        exact ⟨false,rfl,rfl,fun h => by cases h⟩
       ·simp only [hst,decide_false,Bool.false_eq_true,if_false]
        exact hnx fun _ => by omega
 obtain ⟨b,b1,b2,b3⟩ := key l.length 0 bigN (by omega) (lt_bigN hl) (fun j _ h => by omega)
 refine ⟨b,?_,?_,fun hb j h => b3 hb j h (Nat.zero_le _)⟩
 ·unfold f_spec_IsChain; rw [spec_ChartOk_eq hn,hc,Option.bind_some,if_pos rfl]; exact b1
 ·unfold f_impl_IsChain; rw [impl_ChartOk_eq hn,hc,Option.bind_some,if_pos rfl]; exact b2
theorem pilot_same (hn : ∀ x ∈ c.Points,x.Name.length ≤ maxLen) (hf : ∀ x ∈ fl,x.Name.length ≤ maxLen) (hc : chartOk c = true) (hfl : fleetOk fl = true) {l : List XPassage} (hl : l.length ≤ maxLen) (h0 : l ≠ []) :
  ∃ d ok,f_spec_PilotDuty c fl l = some (d,ok) ∧ f_impl_PilotDuty c fl l = some (d,ok) ∧ (ok = true → dutyOk d = true) := by
 have hpos : 0 < l.length := List.length_pos_iff.2 h0
 obtain ⟨b,b1,b2,b3⟩ := chain_same hn hc hl
 unfold f_spec_PilotDuty f_impl_PilotDuty
 have hz : ((l.length : Int) == (0 : Int)) = false := by rw [beq_zero]; simp; exact h0
 rw [hz,if_neg (by simp),if_neg (by simp),b1,b2,Option.bind_some,Option.bind_some]
 unfold f_spec_PilotDuty_1 f_impl_PilotDuty_1
 cases b with
 | false => exact ⟨_,false,rfl,rfl,fun h => by cases h⟩
 | true =>
  have hch := b3 rfl
  rw [if_neg (by simp),if_neg (by simp)]
  have key : ∀ (k i n : Nat),i + k = l.length → k < n → (∀ (j : Nat) (h : j < l.length),j < i → passIn c fl l[j] = true) →
    ∃ d ok,f_spec_PilotDuty_2 fl l c n (i : Int) = some (d,ok) ∧ f_impl_PilotDuty_2 fl l c n (i : Int) = some (d,ok) ∧ (ok = true → dutyOk d = true) := by
   intro k
   induction k with
   | zero =>
    intro i n hi hn2 hp
    obtain ⟨n,rfl⟩ : ∃ n',n = n' + 1 := ⟨n - 1,by omega⟩
    have ew : IntKind.i64.wrap ((l.length : Int) - 1) = ((l.length - 1 : Nat) : Int) := by
     rw [show (l.length : Int) - 1 = ((l.length - 1 : Nat) : Int) by omega]
     exact wrap64 (by omega) (by rw [maxLen_val] at hl; omega)
    have e1 : ix l (0 : Int) = some (l[0]'hpos) := ix_at (i := 0) hpos
    have hlast : l.length - 1 < l.length := by omega
    have e2 := ix_at hlast
    have s1 := (hch 0 hpos).1
    have s2 := (hch _ hlast).1
    have hlt : ∀ j : Nat,∀ h : j < l.length,(l[0]'hpos).Start < l[j].End := by
     intro j
     induction j with
     | zero => intro h; exact pass_lt hc (hp 0 h (by omega))
     | succ j ihj =>
      intro h
      have g1 := ihj (by omega)
      have g2 := (hch (j + 1) h).2 (by omega)
      have g3 := pass_lt hc (hp (j + 1) h (by omega))
      simp only [Nat.add_sub_cancel] at g2
      omega
    have f0 := passIn_facts hc (hp 0 hpos (by omega))
    have f1 := passIn_facts hc (hp _ hlast (by omega))
    refine ⟨dutyOf c (l[0]'hpos) (l[l.length - 1]'hlast),true,?_,?_,fun _ => dutyOf_ok hc s1 s2 f0.2.2.1 (hlt _ hlast) f1.2.2.2.2⟩
    ·rw [f_spec_PilotDuty_2,if_neg (by simp; omega),ew,e2,Option.bind_some,e1,Option.bind_some,spec_ends_eq s1,Option.bind_some,spec_ends_eq s2,Option.bind_some]
     rfl
    ·rw [f_impl_PilotDuty_2,if_neg (by simp; omega),ew,e1,Option.bind_some,e2,Option.bind_some,impl_duty_eq s1 s2,Option.bind_some]
   | succ k ih =>
    intro i n hi hn2 hp
    obtain ⟨n,rfl⟩ : ∃ n',n = n' + 1 := ⟨n - 1,by omega⟩
    have hlt : i < l.length := by omega
    simp only [f_spec_PilotDuty_2,f_impl_PilotDuty_2,dec_nn,hlt,decide_true,if_true,ix_at hlt,Option.bind_some,spec_PassageOk_in hn hf hc hfl,impl_PassageOk_in hn hf hc hfl]
    cases hpi : passIn c fl l[i] with
    | false => exact ⟨_,false,rfl,rfl,fun h => by cases h⟩
    | true =>
     simp only [if_true]
     rw [wrapS hlt hl]
     refine ih (i + 1) n (by omega) (by omega) fun j h1 h2 => ?_
     by_cases hj : j = i
     ·subst hj; exact hpi
     ·exact hp j h1 (by omega)
  exact key l.length 0 bigN (by omega) (lt_bigN hl) (fun j _ h => by omega)
theorem PilotsNeeded_same {w : XCrew} (hw : crewOk w = true) (hm : w.Moves.length ≤ maxLen) (hn : ∀ x ∈ c.Points,x.Name.length ≤ maxLen) (hf : ∀ x ∈ fl,x.Name.length ≤ maxLen) (hc : chartOk c = true) (hfl : fleetOk fl = true) {cs : List (List XPassage)} (hl : cs.length ≤ 1048576) (hls : ∀ x ∈ cs,x.length ≤ maxLen) :
  ∃ r,small r ∧ f_spec_PilotsNeeded w c fl cs = some r ∧ f_impl_PilotsNeeded w c fl cs = some r := by
 obtain ⟨m1,m2⟩ := crew_facts hw
 have key : ∀ (k i n : Nat) (acc : List XDuty),i + k = cs.length → k < n → acc.length ≤ i → (∀ d ∈ acc,dutyOk d = true) →
   ∃ r,small r ∧ f_spec_PilotsNeeded_1 fl cs w c n (i : Int) acc = some r ∧ f_impl_PilotsNeeded_1 fl cs w c n (i : Int) acc = some r := by
  intro k
  induction k with
  | zero =>
   intro i n acc hi hn2 ha hd
   obtain ⟨n,rfl⟩ : ∃ n',n = n' + 1 := ⟨n - 1,by omega⟩
   have hnl : ¬ i < cs.length := by omega
   simp only [f_spec_PilotsNeeded_1,f_impl_PilotsNeeded_1,dec_nn,hnl,decide_false,Bool.false_eq_true,if_false,impl_CrewOk_eq hm,hw,Option.bind_some,if_true]
   by_cases h12 : acc.length ≤ 12
   ·obtain ⟨n,w1,w2,n12,g1,g2⟩ := LeastCover_same (p := w.Rest) hm (allOk_of h12 hd m1 m2)
    refine ⟨n,⟨by omega,by omega⟩,?_,?_⟩
    ·rw [g1,Option.bind_some,if_pos rfl]
    ·rw [if_neg (by simp; omega),g2,Option.bind_some]
   ·refine ⟨-1,⟨by omega,by omega⟩,?_,?_⟩
    ·unfold f_spec_LeastCover
     have : (decide (acc.length ≤ 12) && acc.all dutyOk) = false := by simp [h12]
     rw [spec_DutiesOk_eq,this,Option.bind_some,if_neg (by simp)]
     unfold f_spec_LeastCover_1
     rw [if_pos rfl,Option.bind_some,if_neg (by simp)]
    ·rw [if_pos (by simp; omega)]
  | succ k ih =>
   intro i n acc hi hn2 ha hd
   obtain ⟨n,rfl⟩ : ∃ n',n = n' + 1 := ⟨n - 1,by omega⟩
   have hlt : i < cs.length := by omega
   have hwr := wrapS hlt (show cs.length ≤ maxLen by rw [maxLen_val]; omega)
   simp only [f_spec_PilotsNeeded_1,f_impl_PilotsNeeded_1,dec_nn,hlt,decide_true,if_true,ix_at hlt,Option.bind_some,beq_zero,hwr]
   by_cases h0 : cs[i].length = 0
   ·simp only [h0,decide_true,if_true]
    exact ih (i + 1) n acc (by omega) (by omega) (by omega) hd
   ·simp only [h0,decide_false,Bool.false_eq_true,if_false]
    obtain ⟨d,ok,e1,e2,e3⟩ := pilot_same hn hf hc hfl (hls _ (List.getElem_mem hlt)) (fun e => h0 (by rw [e]; rfl))
    simp only [e1,e2,Option.bind_some]
    cases ok with
    | false => exact ⟨-1,⟨by omega,by omega⟩,rfl,rfl⟩
    | true =>
     have hap : appB acc.length [d].length 32 = true := appB_of (by simp; omega) (by omega)
     simp only [if_true,hap]
     refine ih (i + 1) n _ (by omega) (by omega) (by simp; omega) fun d' hd2 => ?_
     rcases List.mem_append.1 hd2 with h | h
     ·exact hd d' h
     ·rw [List.mem_singleton] at h; subst h; exact e3 rfl
 unfold f_spec_PilotsNeeded f_impl_PilotsNeeded
 rw [spec_CrewOk_eq hm,hw,Option.bind_some,if_pos rfl]
 exact key cs.length 0 bigN [] (by omega) (by rw [bigN_val]; omega) (by simp) (fun d h => by cases h)
end
theorem big_app {n m b : Nat} (h : n + m ≤ 3000000000000) (hb : b ≤ 40) : appB n m b = true := by
 unfold appB
 have : (n + m) * b ≤ 3000000000000 * 40 := Nat.mul_le_mul h hb
 simp
 omega
def chainsOf (l : List XOption) : List (List XPassage) := l.map fun o => o.Passages
theorem spec_chains_eq {l : List XOption} (hl : l.length ≤ 1048576) (hp : ∀ o ∈ l,o.Passages.length ≤ 1048576) : f_spec_ChainsOf l = some (chainsOf l) := by
 unfold f_spec_ChainsOf
 refine push_loop (L := f_spec_ChainsOf_1 l) l (fun o => o.Passages) some (by rw [maxLen_val]; omega) (fun n i acc h ha => ?_) (fun n acc ha => by simp [f_spec_ChainsOf_1])
 have := hp _ (List.getElem_mem h)
 rw [f_spec_ChainsOf_1,dec_nn,if_pos (by simpa using h),ix_at h,Option.bind_some,if_pos (big_app (by simp; omega) (by omega)),if_pos (big_app (by simp; omega) (by omega)),List.nil_append]
theorem impl_chains_eq {l : List XOption} (hl : l.length ≤ 1048576) (hp : ∀ o ∈ l,o.Passages.length ≤ 1048576) : f_impl_ChainsOf l = some (chainsOf l) := by
 unfold f_impl_ChainsOf
 refine push_loop (L := f_impl_ChainsOf_1 l) l (fun o => o.Passages) some (by rw [maxLen_val]; omega) (fun n i acc h ha => ?_) (fun n acc ha => by simp [f_impl_ChainsOf_1])
 have hq := hp _ (List.getElem_mem h)
 have hcl : f_impl_clone_Passage l[i].Passages = some l[i].Passages := by
  unfold f_impl_clone_Passage
  have hm : mkS (0 : Int) (l[i].Passages.length : Int) 40 = some 0 := by
   unfold mkS
   rw [if_pos ⟨by omega,by omega,by omega,by omega⟩]
   rfl
  rw [hm,Option.bind_some,if_pos (big_app (by simp; omega) (by omega))]
  rfl
 rw [f_impl_ChainsOf_1,dec_nn,if_pos (by simpa using h),ix_at h,Option.bind_some,hcl,Option.bind_some,if_pos (big_app (by simp; omega) (by omega))]
theorem flat_loop {α R : Type} {L : Nat → Int → List α → Option R} (cs : List (List α)) (K : Option R) (hl : cs.length ≤ 1048576) (hb : ∀ x ∈ cs,x.length ≤ 1048576)
  (hs : ∀ (n i : Nat) (acc : List α) (h : i < cs.length),acc.length ≤ i * 1048576 → L (n + 1) (i : Int) acc = L n (IntKind.i64.wrap ((i : Int) + 1)) (acc ++ cs[i])) (he : ∀ n,L (n + 1) (cs.length : Int) cs.flatten = K) : L bigN 0 [] = K ∧ cs.flatten.length ≤ 1099511627776 := by
 have key : ∀ (k i n : Nat),i + k = cs.length → k < n → L n (i : Int) (cs.take i).flatten = K := by
  have hlen : ∀ i : Nat,i ≤ cs.length → (cs.take i).flatten.length ≤ i * 1048576 := by
   intro i
   induction i with
   | zero => intro _; simp
   | succ i ih =>
    intro hi
    rw [List.take_succ_eq_append_getElem (by omega),List.flatten_append,List.length_append]
    have h1 := ih (by omega)
    have h2 := hb _ (List.getElem_mem (show i < cs.length by omega))
    have e3 : [cs[i]].flatten.length = cs[i].length := by simp
    rw [e3]
    omega
  intro k
  induction k with
  | zero =>
   intro i n hi hn
   obtain ⟨m,rfl⟩ : ∃ m,n = m + 1 := ⟨n - 1,by omega⟩
   have : i = cs.length := by omega
   subst this
   rw [List.take_length,he]
  | succ k ih =>
   intro i n hi hn
   obtain ⟨m,rfl⟩ : ∃ m,n = m + 1 := ⟨n - 1,by omega⟩
   have hlt : i < cs.length := by omega
   rw [hs m i _ hlt (hlen i (by omega)),wrapS hlt (by rw [maxLen_val]; omega)]
   have := ih (i + 1) m (by omega) (by omega)
   rw [List.take_succ_eq_append_getElem hlt,List.flatten_append] at this
   simpa using this
 have hall : ∀ (k : Nat),k ≤ cs.length → (cs.take k).flatten.length ≤ k * 1048576 := by
  intro i
  induction i with
  | zero => intro _; simp
  | succ i ih =>
   intro hi
   rw [List.take_succ_eq_append_getElem (by omega),List.flatten_append,List.length_append]
   have h1 := ih (by omega)
   have h2 := hb _ (List.getElem_mem (show i < cs.length by omega))
   have e3 : [cs[i]].flatten.length = cs[i].length := by simp
   rw [e3]
   omega
 refine ⟨key cs.length 0 bigN (by omega) (by rw [bigN_val]; omega),?_⟩
 have := hall cs.length (Nat.le_refl _)
 rw [List.take_length] at this
 omega
theorem words_four {a b : Int} (ha : i64 a) (hb : i64 b) (x y : List UInt8) (hx : x.length ≤ 100) (hy : y.length ≤ 100) : f_impl_words [(⟨true,x,0⟩ : XAny),(⟨false,[],a⟩ : XAny),(⟨true,y,0⟩ : XAny),(⟨false,[],b⟩ : XAny)] = some (x ++ ([32] ++ (itoa a ++ ([32] ++ (y ++ ([32] ++ itoa b)))))) := by
 have e : join [x,itoa a,y,itoa b] [32] = x ++ ([32] ++ (itoa a ++ ([32] ++ (y ++ ([32] ++ itoa b))))) := by simp [join]
 have la := itoa_len ha
 have lb := itoa_len hb
 unfold f_impl_words
 rw [push_loop (L := f_impl_words_1 _) [(⟨true,x,0⟩ : XAny),(⟨false,[],a⟩ : XAny),(⟨true,y,0⟩ : XAny),(⟨false,[],b⟩ : XAny)] (fun w => if w.isS = true then w.s else itoa w.n) (fun v => (f_impl_Join v ([32] : List UInt8)).bind fun r7 => some r7) (by rw [maxLen_val]; simp) (fun n i acc h hacc => ?_) (fun n acc hacc => ?_)]
 ·simp only [List.map_cons,List.map_nil,if_true,Bool.false_eq_true,if_false]
  rw [impl_join_eq (by simp) (by rw [e]; simp; omega),e]
  rfl
 ·have h4 : i < 4 := by simpa using h
  have hw : f_impl_word ([(⟨true,x,0⟩ : XAny),(⟨false,[],a⟩ : XAny),(⟨true,y,0⟩ : XAny),(⟨false,[],b⟩ : XAny)][i]) = some ((fun w : XAny => if w.isS = true then w.s else itoa w.n) ([(⟨true,x,0⟩ : XAny),(⟨false,[],a⟩ : XAny),(⟨true,y,0⟩ : XAny),(⟨false,[],b⟩ : XAny)][i])) := by
   rcases i with _ | _ | _ | _ | i
   ·rfl
   ·simp [f_impl_word,impl_fmt_eq ha]
   ·rfl
   ·simp [f_impl_word,impl_fmt_eq hb]
   ·omega
  rw [f_impl_words_1,dec_nn,if_pos (by simpa using h),ix_at h,Option.bind_some,hw,Option.bind_some,if_pos (app_ok (by simp; omega) (by omega))]
 ·rw [f_impl_words_1,if_neg (by simp)]
theorem CrewLine_same {h : XHarbour} {l : List XOption} (s : HSmall h) (hl : l.length ≤ 1048576) (hp : ∀ o ∈ l,o.Passages.length ≤ 1048576) : ∃ r,f_spec_CrewLine h l = some r ∧ f_impl_CrewLine h l = some r := by
 unfold f_spec_CrewLine f_impl_CrewLine
 rw [spec_HarbourOk_eq s,impl_HarbourOk_eq s,Option.bind_some,Option.bind_some]
 cases ho : harbOk h with
 | false => exact ⟨[],by rw [if_neg (by simp)],by rw [if_neg (by simp)]⟩
 | true =>
  have ho' := ho
  simp only [harbOk,Bool.and_eq_true] at ho'
  obtain ⟨_,hc,hfl,_,hw⟩ := ho'
  rw [if_pos rfl,if_pos rfl,spec_chains_eq hl hp,impl_chains_eq hl hp,Option.bind_some,Option.bind_some]
  have hcl : (chainsOf l).length ≤ 1048576 := by simpa [chainsOf] using hl
  have hcb : ∀ x ∈ chainsOf l,x.length ≤ 1048576 := fun x hx => by
   obtain ⟨o,ho,rfl⟩ := List.mem_map.1 hx
   exact hp o ho
  have hmax : ∀ x ∈ chainsOf l,x.length ≤ maxLen := fun x hx => by have := hcb x hx; rw [maxLen_val]; omega
  have hlen := (flat_loop (L := fun _ _ _ => (none : Option Unit)) (chainsOf l) none hcl hcb (fun _ _ _ _ _ => rfl) (fun _ => rfl)).2
  obtain ⟨ra,⟨a1,a2⟩,a3,a4⟩ := TugsNeeded_same hw s.mv s.pn s.fn hc hfl (all := (chainsOf l).flatten) (by rw [maxLen_val]; omega)
  obtain ⟨rb,⟨b1,b2⟩,b3,b4⟩ := PilotsNeeded_same hw s.mv s.pn s.fn hc hfl hcl hmax
  have ia : i64 ra := ⟨by omega,by omega⟩
  have ib : i64 rb := ⟨by omega,by omega⟩
  have la := itoa_len ia
  have lb := itoa_len ib
  have hi2 : ∀ (i : Nat) (x : List XPassage) (acc : List XPassage) (hi : i < (chainsOf l).length),acc.length ≤ i * 1048576 → x ∈ chainsOf l → appB acc.length x.length 40 = true := fun i x acc hi ha hx => by
   have h1 := hcb x hx
   exact big_app (by omega) (by omega)
  refine ⟨[116,117,103,115,32] ++ itoa ra ++ [32,112,105,108,111,116,115,32] ++ itoa rb,?_,?_⟩
  ·refine (flat_loop (L := f_spec_CrewLine_1 (chainsOf l) h) (chainsOf l) (some ([116,117,103,115,32] ++ itoa ra ++ [32,112,105,108,111,116,115,32] ++ itoa rb)) hcl hcb (fun n i acc hi ha => ?_) (fun n => ?_)).1
   ·rw [f_spec_CrewLine_1,dec_nn,if_pos (by simpa using hi),ix_at hi,Option.bind_some,if_pos (hi2 i _ acc hi ha (List.getElem_mem hi))]
   ·rw [f_spec_CrewLine_1,if_neg (by simp),a3,Option.bind_some,fmt_eq ia,Option.bind_some,if_pos (catB_of (by simp; omega)),if_pos (catB_of (by simp; omega)),b3,Option.bind_some,fmt_eq ib,Option.bind_some,if_pos (catB_of (by simp; omega))]
  ·refine (flat_loop (L := f_impl_CrewLine_1 (chainsOf l) h) (chainsOf l) (some ([116,117,103,115,32] ++ itoa ra ++ [32,112,105,108,111,116,115,32] ++ itoa rb)) hcl hcb (fun n i acc hi ha => ?_) (fun n => ?_)).1
   ·rw [f_impl_CrewLine_1,dec_nn,if_pos (by simpa using hi),ix_at hi,Option.bind_some,if_pos (hi2 i _ acc hi ha (List.getElem_mem hi))]
   ·rw [f_impl_CrewLine_1,if_neg (by simp),a4,Option.bind_some,b4,Option.bind_some,words_four ia ib _ _ (by simp) (by simp),Option.bind_some]
    simp
theorem law_FnExactCrewLine (a : XHarbour) (l : List XOption) (ok : DsOk [.ag (XHarbour.row a),.sc (.sl (List.map XOption.row l))]) : f_laws_FnExactCrewLine a l = some true := by
 unfold f_laws_FnExactCrewLine
 obtain ⟨q1,q2,q3,q4,q5,s⟩ := harb_ok ok.ag.1
 obtain ⟨o1,o2⟩ := options_ok ok.ag.2.sc.1
 obtain ⟨r,e,k⟩ := szHarbour_of (a := a) (l := 1048576) (by omega) (by omega) q1 q2 q3 q4 q5 s
 by_cases hr : r < 0
 ·simp [e,hr]
 obtain ⟨b0,b1,b2,b3,b4,b5,b6⟩ := k (by omega)
 obtain ⟨r',e',k'⟩ := szOptionS_of (xs := l) (l := r) (by omega) (by omega) o1 o2
 by_cases hr' : r' < 0
 ·simp [e,hr,e',hr']
 obtain ⟨_,c1,c2⟩ := k' (by omega)
 obtain ⟨v,e1,e2⟩ := CrewLine_same (l := l) s c1 c2
 simp [e,hr,e',hr',toHarbour_eq b1 b2 b3 b4 b5 b6,toOptionS_eq c1 c2,e1,e2,eqHarbour_self q1 q2 q3 q4 q5 s.mv,eqOptionS_self o1 o2]
end Go.Vi
