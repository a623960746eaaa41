/-
  The value level: a law that returns true, as a call. No condition.
-/
import Derived.Test.YtahienmgcfgclaaDoorSVi28
namespace Go.Vi
theorem law_true {P : Program} {f : FuncId} {ds : List DV} (hf : FC P f ds [.sc (.v (.bool true))]) {w : World} (hG : GoodW w) {vs : List Value} (hv : DVRels (viewAll w) ds vs) :
  Calls P f vs.toArray w fun e w' => e = .returned (.bool true) ∧ RowKit.Below w.heap.size w w' := by
 refine (hf w (fun _ _ => True) vs hG (hv.mono fun b C h => by
  obtain ⟨c,t,fr,h1,h2⟩ := h
  exact ⟨c,t,fr,trivial,h1,h2⟩)).mono fun e w' h => ?_
 obtain ⟨v,bs,rfl,hb,hr,_⟩ := h
 refine ⟨?_,hb⟩
 cases hr with
 | one hr =>
  cases hr with | sc hr =>
  cases hr with | v hr =>
  cases hr
  rfl
 | many h => simp at h
theorem rep_str {h : View} {a : ByteArray} (ha : a.size ≤ maxLen) : DVRel h (.sc (.str a.data.toList)) (.string a) := by
 have e : (⟨a.data.toList.toArray⟩ : ByteArray) = a := by simp
 have := Rep.str (h := h) (s := a.data.toList) (by simpa using ha)
 rw [e] at this
 exact .sc this
end Go.Vi
