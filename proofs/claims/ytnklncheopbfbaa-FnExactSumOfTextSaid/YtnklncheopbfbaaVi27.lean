/-
  The value level: the rules of the evaluation, as one theorem. No condition.
-/
import Derived.Test.YtnklncheopbfbaaVi26
namespace Go.Vi

section
variable {P : Program}
theorem round_normal {ι : Type} {ok : ι → Prop} {S : ι → St} {μ : ι → Nat} {ks gs : List Nat} {i : ι} {Q : AExit → St → Prop} {σ : St} : roundQ ok S μ ks gs i Q .normal σ = Again ok S μ ks gs i σ := rfl
theorem round_exit {ι : Type} {ok : ι → Prop} {S : ι → St} {μ : ι → Nat} {ks gs : List Nat} {i : ι} {k : List Fr} {Q : AExit → St → Prop} {j : Nat} {σ : St} : roundQ ok S μ ks gs i (go0 P k Q) (.exit j) σ = go P k Q (.exit j) (some σ) := rfl
theorem round_ret {ι : Type} {ok : ι → Prop} {S : ι → St} {μ : ι → Nat} {ks gs : List Nat} {i : ι} {k : List Fr} {Q : AExit → St → Prop} {σ : St} : roundQ ok S μ ks gs i (go0 P k Q) .ret σ = go P k Q .ret (some σ) := rfl
end
theorem find_nil {α : Type} {n : Nat} : find ([] : List (Nat × α)) n = none := rfl
theorem find_cons {α : Type} {k n : Nat} {v : α} {r : List (Nat × α)} : find ((k, v) :: r) n = bif k == n then some v else find r n := rfl
theorem put_nil {α : Type} {n : Nat} {v : α} : put ([] : List (Nat × α)) n v = [(n, v)] := rfl
theorem put_cons {α : Type} {k n : Nat} {u v : α} {r : List (Nat × α)} : put ((k, u) :: r) n v = bif k == n then (k, v) :: r else (k, u) :: put r n v := rfl
theorem val_t {σ : St} {n : Nat} : σ.val (.t n) = σ.get n := rfl
theorem val_c {σ : St} {v : AV} : σ.val (.c v) = v := rfl
theorem get_mk {env bx rows} {k : Nat} : (St.mk env bx rows).get k = (find env k).getD .undef := rfl
theorem set_mk {env bx rows} {k : Nat} {v : AV} : (St.mk env bx rows).set k v = ⟨put env k v, bx, rows⟩ := rfl
theorem getD_some {α : Type} {a b : α} : (some a).getD b = a := rfl
theorem getD_none {α : Type} {b : α} : (none : Option α).getD b = b := rfl
theorem map_some {α β : Type} {f : α → β} {a : α} : (some a).map f = some (f a) := rfl
theorem map_none {α β : Type} {f : α → β} : (none : Option α).map f = none := rfl
theorem condT {α : Type} {a b : α} : cond true a b = a := rfl
theorem condF {α : Type} {a b : α} : cond false a b = b := rfl
/-! values -/
theorem slen_str {s : List UInt8} : slenV (.v (.sc (.dat (.str s)))) = some (.v (.sc (.dat (.int .i64 s.length)))) := rfl
theorem len_sl {rs : Rows} {es : List (List D)} : lenV rs (.v (.sc (.dat (.sl es)))) = some (.v (.sc (.dat (.int .i64 es.length)))) := rfl
theorem len_nil {rs : Rows} : lenV rs (.v (.sc .nil)) = some (.v (.sc (.dat (.int .i64 0)))) := rfl
theorem conv_int {k k' : IntKind} {n : Int} : convV k (.v (.sc (.dat (.int k' n)))) = some (.v (.sc (.dat (.int k (k.wrap n))))) := rfl
/-- A comparison or a sum of two of one kind. -/
theorem bin_int {op : BinOp} {k : IntKind} {x y : Int} : binV op (.v (.sc (.dat (.int k x)))) (.v (.sc (.dat (.int k y)))) = (intV op k x y).map fun d => .v (.sc (.dat d)) := by simp [binV]
theorem bin_str {op : BinOp} {x y : List UInt8} : binV op (.v (.sc (.dat (.str x)))) (.v (.sc (.dat (.str y)))) = (strV op x y).map fun d => .v (.sc (.dat d)) := rfl
theorem int_add {k : IntKind} {x y : Int} : intV .add k x y = some (.int k (k.wrap (x + y))) := rfl
theorem int_sub {k : IntKind} {x y : Int} : intV .sub k x y = some (.int k (k.wrap (x - y))) := rfl
theorem int_mul {k : IntKind} {x y : Int} : intV .mul k x y = some (.int k (k.wrap (x * y))) := rfl
theorem int_quo {k : IntKind} {x y : Int} : intV .quo k x y = bif y == 0 then none else some (.int k (k.wrap (x.tdiv y))) := by
  by_cases h : y = 0
  · simp [intV, h]
  · have h' : (y == 0) = false := by simpa using h
    simp [intV, h, h']
theorem int_rem {k : IntKind} {x y : Int} : intV .rem k x y = bif y == 0 then none else some (.int k (k.wrap (x.tmod y))) := by
  by_cases h : y = 0
  · simp [intV, h]
  · have h' : (y == 0) = false := by simpa using h
    simp [intV, h, h']
theorem int_eql {k : IntKind} {x y : Int} : intV .eql k x y = some (.bool (x == y)) := rfl
theorem int_neq {k : IntKind} {x y : Int} : intV .neq k x y = some (.bool (x != y)) := rfl
theorem int_lss {k : IntKind} {x y : Int} : intV .lss k x y = some (.bool (decide (x < y))) := rfl
theorem int_leq {k : IntKind} {x y : Int} : intV .leq k x y = some (.bool (decide (x ≤ y))) := rfl
theorem int_gtr {k : IntKind} {x y : Int} : intV .gtr k x y = some (.bool (decide (y < x))) := rfl
theorem int_geq {k : IntKind} {x y : Int} : intV .geq k x y = some (.bool (decide (y ≤ x))) := rfl
theorem str_eql {x y : List UInt8} : strV .eql x y = some (.bool (x == y)) := rfl
theorem str_neq {x y : List UInt8} : strV .neq x y = some (.bool (!(x == y))) := rfl
theorem un_not {b : Bool} : unV .not (.v (.sc (.dat (.bool b)))) = some (.v (.sc (.dat (.bool (!b))))) := rfl
theorem idx_str {s : List UInt8} {k : IntKind} {i : Int} : idxV (.v (.sc (.dat (.str s)))) (.v (.sc (.dat (.int k i)))) = (ix s i).map fun b => .v (.sc (.dat (.int .u8 b.toNat))) := rfl
theorem ix_nat {α : Type} {l : List α} {i : Nat} (h : i < l.length) : ix l (i : Int) = some l[i] := by simp [ix, h]
theorem field_ag {off : Nat} {g : Bool} {n : Nat} {cs : List AC} : fieldV off g n (.v (.ag cs)) = cellsV cs off g n := rfl
theorem cells_f {cs : List AC} {off n : Nat} : cellsV cs off false n = (cs[off]?).map fun c => .v (.sc c) := rfl
theorem clean_mk {env bx rows ks gs} : (St.mk env bx rows).clean ks gs = ⟨erase env ks, bx.filter fun p => !gs.contains p.1, rows.filter fun p => !gs.contains (p.1 / 64)⟩ := rfl
theorem drop_mk {env bx rows ks} : (St.mk env bx rows).drop ks = ⟨erase env ks, bx, rows⟩ := rfl
theorem inst_mk {env bx rows} {d : Nat} {rs : List R1} : (St.mk env bx rows).inst d rs = ⟨put env d (instAll d rs), bx, putAll rows (rowsAll d rs)⟩ := rfl
theorem instAll_one {g : Nat} {r : R1} : instAll g [r] = .v (r.inst g 0) := rfl
theorem instAll_two {g : Nat} {r r' : R1} {rs : List R1} : instAll g (r :: r' :: rs) = .tup (instList g 0 (r :: r' :: rs)) := rfl
theorem instList_nil {g j : Nat} : instList g j [] = [] := rfl
theorem instList_cons {g j : Nat} {r : R1} {rs : List R1} : instList g j (r :: rs) = r.inst g j :: instList g (j + r.width) rs := rfl
theorem width_sc {c : RC} : R1.width (.sc c) = 1 := rfl
theorem width_ag {cs : List RC} : R1.width (.ag cs) = cs.length := rfl
theorem inst_v {g j : Nat} {d : D} : RC.inst g j (.v d) = .dat d := rfl
theorem inst_o {g j sz : Nat} {es : List (List D)} : RC.inst g j (.o sz es) = .own (g * 64 + j) := rfl
theorem inst_sc {g j : Nat} {c : RC} : R1.inst g j (.sc c) = .sc (c.inst g j) := rfl
theorem inst_ag {g j : Nat} {cs : List RC} : R1.inst g j (.ag cs) = .ag (instCells g j cs) := rfl
theorem instCells_nil {g j : Nat} : instCells g j [] = [] := rfl
theorem instCells_cons {g j : Nat} {c : RC} {cs : List RC} : instCells g j (c :: cs) = c.inst g j :: instCells g (j + 1) cs := rfl
theorem rowsAll_nil {g : Nat} : rowsAll g [] = [] := rfl
theorem rowsAll_one {g : Nat} {r : R1} : rowsAll g [r] = rowsCells g 0 r.cells := by simp [rowsAll]
theorem rowsAll_two {g : Nat} {r r' : R1} : rowsAll g [r, r'] = rowsCells g 0 (r.cells ++ r'.cells) := by simp [rowsAll]
theorem cells_sc {c : RC} : R1.cells (.sc c) = [c] := rfl
theorem cells_ag {cs : List RC} : R1.cells (.ag cs) = cs := rfl
theorem rowsCells_nil {g j : Nat} : rowsCells g j [] = [] := rfl
theorem rowsCells_v {g j : Nat} {d : D} {cs : List RC} : rowsCells g j (.v d :: cs) = rowsCells g (j + 1) cs := rfl
theorem rowsCells_o {g j sz : Nat} {es : List (List D)} {cs : List RC} : rowsCells g j (.o sz es :: cs) = (g * 64 + j, sz, es) :: rowsCells g (j + 1) cs := rfl
theorem putAll_nil {rows : Rows} : putAll rows [] = rows := rfl
theorem putAll_cons {rows r : Rows} {k : Nat} {x : Nat × List (List D)} : putAll rows ((k, x) :: r) = put (putAll rows r) k x := rfl
theorem app_nil {α : Type} {l : List α} : [] ++ l = l := rfl
theorem app_cons {α : Type} {a : α} {l m : List α} : (a :: l) ++ m = a :: (l ++ m) := rfl
theorem bne_same {x : Int} : (x != x) = false := by simp
theorem beq_same {x : Int} : (x == x) = true := by simp

/-- Results without memory. -/
def flatB (rs : List R1) : Bool := (rs.flatMap R1.cells).all fun | .v d => d.flat | .o _ _ => false
theorem flat_of {rs : List R1} (h : flatB rs = true) : flatRs rs := by
  intro c hc
  have := List.all_eq_true.1 h c hc
  cases c with
  | v d => exact this
  | o => cases this

theorem rules : type_of% (And.intro @go_none (And.intro @go_nil (And.intro @go_skip (And.intro @go_reg (And.intro @go_drw (And.intro @go_fr (And.intro @go_seq (And.intro @go_block (And.intro @go_exit (And.intro @go_ret (And.intro @go_cond (And.intro @go_pickT (And.intro @go_pickF (And.intro @go_pass_exit (And.intro @go_pass_ret (And.intro @go_blk (And.intro @go_blk_ret (And.intro @go_ops_nil (And.intro @go_dops_nil (And.intro @put1_some (And.intro @go_guardT (And.intro @go_guardF (And.intro @go_gd_yes (And.intro @go_gd_noT (And.intro @go_gd_noF (And.intro @round_normal (And.intro @round_exit (And.intro @round_ret (And.intro @find_nil (And.intro @find_cons (And.intro @put_nil (And.intro @put_cons (And.intro @val_t (And.intro @val_c (And.intro @get_mk (And.intro @set_mk (And.intro @getD_some (And.intro @getD_none (And.intro @map_some (And.intro @map_none (And.intro @slen_str (And.intro @len_sl (And.intro @len_nil (And.intro @conv_int (And.intro @bin_int (And.intro @bin_str (And.intro @int_add (And.intro @int_sub (And.intro @int_mul (And.intro @int_quo (And.intro @int_rem (And.intro @int_eql (And.intro @int_neq (And.intro @int_lss (And.intro @int_leq (And.intro @int_gtr (And.intro @int_geq (And.intro @str_eql (And.intro @str_neq (And.intro @un_not (And.intro @idx_str (And.intro @ix_nat (And.intro @field_ag (And.intro @cells_f (And.intro @clean_mk (And.intro @drop_mk (And.intro @condT (And.intro @condF (And.intro @go_mv (And.intro @go_opick (And.intro @go_build (And.intro @go_load (And.intro @go_nilc (And.intro @go_bin (And.intro @go_beq (And.intro @go_un (And.intro @go_conv (And.intro @go_slc (And.intro @go_sslc (And.intro @go_faddr (And.intro @go_field (And.intro @go_iaddr (And.intro @go_idx (And.intro @go_extr (And.intro @go_len (And.intro @go_slen (And.intro @go_mm (And.intro @go_mkf (And.intro @go_store (And.intro @go_app (And.intro @go_drop (And.intro @go_box (And.intro @go_alloc (And.intro @go_bslice (And.intro @go_mksl (And.intro @go_own (And.intro @go_ownb (And.intro @go_ren (And.intro @go_frz (And.intro @go_forget (And.intro @go_blk_exit (And.intro @inst_mk (And.intro @instAll_one (And.intro @instAll_two (And.intro @instList_nil (And.intro @instList_cons (And.intro @width_sc (And.intro @width_ag (And.intro @inst_v (And.intro @inst_o (And.intro @inst_sc (And.intro @inst_ag (And.intro @instCells_nil (And.intro @instCells_cons (And.intro @rowsAll_nil (And.intro @rowsAll_one (And.intro @rowsAll_two (And.intro @cells_sc (And.intro @cells_ag (And.intro @rowsCells_nil (And.intro @rowsCells_v (And.intro @rowsCells_o (And.intro @putAll_nil (And.intro @putAll_cons (And.intro @app_nil (And.intro @app_cons (And.intro @bne_same @beq_same))))))))))))))))))))))))))))))))))))))))))))))))))))))))))))))))))))))))))))))))))))))))))))))))))))))))))))))))))))))))))))))) := And.intro @go_none (And.intro @go_nil (And.intro @go_skip (And.intro @go_reg (And.intro @go_drw (And.intro @go_fr (And.intro @go_seq (And.intro @go_block (And.intro @go_exit (And.intro @go_ret (And.intro @go_cond (And.intro @go_pickT (And.intro @go_pickF (And.intro @go_pass_exit (And.intro @go_pass_ret (And.intro @go_blk (And.intro @go_blk_ret (And.intro @go_ops_nil (And.intro @go_dops_nil (And.intro @put1_some (And.intro @go_guardT (And.intro @go_guardF (And.intro @go_gd_yes (And.intro @go_gd_noT (And.intro @go_gd_noF (And.intro @round_normal (And.intro @round_exit (And.intro @round_ret (And.intro @find_nil (And.intro @find_cons (And.intro @put_nil (And.intro @put_cons (And.intro @val_t (And.intro @val_c (And.intro @get_mk (And.intro @set_mk (And.intro @getD_some (And.intro @getD_none (And.intro @map_some (And.intro @map_none (And.intro @slen_str (And.intro @len_sl (And.intro @len_nil (And.intro @conv_int (And.intro @bin_int (And.intro @bin_str (And.intro @int_add (And.intro @int_sub (And.intro @int_mul (And.intro @int_quo (And.intro @int_rem (And.intro @int_eql (And.intro @int_neq (And.intro @int_lss (And.intro @int_leq (And.intro @int_gtr (And.intro @int_geq (And.intro @str_eql (And.intro @str_neq (And.intro @un_not (And.intro @idx_str (And.intro @ix_nat (And.intro @field_ag (And.intro @cells_f (And.intro @clean_mk (And.intro @drop_mk (And.intro @condT (And.intro @condF (And.intro @go_mv (And.intro @go_opick (And.intro @go_build (And.intro @go_load (And.intro @go_nilc (And.intro @go_bin (And.intro @go_beq (And.intro @go_un (And.intro @go_conv (And.intro @go_slc (And.intro @go_sslc (And.intro @go_faddr (And.intro @go_field (And.intro @go_iaddr (And.intro @go_idx (And.intro @go_extr (And.intro @go_len (And.intro @go_slen (And.intro @go_mm (And.intro @go_mkf (And.intro @go_store (And.intro @go_app (And.intro @go_drop (And.intro @go_box (And.intro @go_alloc (And.intro @go_bslice (And.intro @go_mksl (And.intro @go_own (And.intro @go_ownb (And.intro @go_ren (And.intro @go_frz (And.intro @go_forget (And.intro @go_blk_exit (And.intro @inst_mk (And.intro @instAll_one (And.intro @instAll_two (And.intro @instList_nil (And.intro @instList_cons (And.intro @width_sc (And.intro @width_ag (And.intro @inst_v (And.intro @inst_o (And.intro @inst_sc (And.intro @inst_ag (And.intro @instCells_nil (And.intro @instCells_cons (And.intro @rowsAll_nil (And.intro @rowsAll_one (And.intro @rowsAll_two (And.intro @cells_sc (And.intro @cells_ag (And.intro @rowsCells_nil (And.intro @rowsCells_v (And.intro @rowsCells_o (And.intro @putAll_nil (And.intro @putAll_cons (And.intro @app_nil (And.intro @app_cons (And.intro @bne_same @beq_same))))))))))))))))))))))))))))))))))))))))))))))))))))))))))))))))))))))))))))))))))))))))))))))))))))))))))))))))))))))))))))))

end Go.Vi
