/-
  The value level: the rules of the evaluation, as one theorem. No condition.
-/
import Derived.Test.YtahienmgcfgclaaDoorSVi26
namespace Go.Vi
section
variable {P : Program}
theorem round_normal {ι : Type} {ok : ι → Prop} {S : ι → St} {μ : ι → Nat} {ks gs : List Nat} {i : ι} {Q : AExit → St → Prop} {σ : St} : roundQ ok S μ ks gs i Q .normal σ = Again ok S μ ks gs i σ := rfl
theorem round_exit {ι : Type} {ok : ι → Prop} {S : ι → St} {μ : ι → Nat} {ks gs : List Nat} {i : ι} {k : List Fr} {Q : AExit → St → Prop} {j : Nat} {σ : St} : roundQ ok S μ ks gs i (go0 P k Q) (.exit j) σ = go P k Q (.exit j) (some σ) := rfl
theorem round_ret {ι : Type} {ok : ι → Prop} {S : ι → St} {μ : ι → Nat} {ks gs : List Nat} {i : ι} {k : List Fr} {Q : AExit → St → Prop} {σ : St} : roundQ ok S μ ks gs i (go0 P k Q) .ret σ = go P k Q .ret (some σ) := rfl
end
theorem find_nil {α : Type} {n : Nat} : find ([] : List (Nat × α)) n = none := rfl
theorem find_cons {α : Type} {k n : Nat} {v : α} {r : List (Nat × α)} : find ((k,v) :: r) n = bif k == n then some v else find r n := rfl
theorem put_nil {α : Type} {n : Nat} {v : α} : put ([] : List (Nat × α)) n v = [(n,v)] := rfl
theorem put_cons {α : Type} {k n : Nat} {u v : α} {r : List (Nat × α)} : put ((k,u) :: r) n v = bif k == n then (k,v) :: r else (k,u) :: put r n v := rfl
theorem val_t {σ : St} {n : Nat} : σ.val (.t n) = σ.get n := rfl
theorem val_c {σ : St} {v : AV} : σ.val (.c v) = v := rfl
theorem get_mk {env bx rows} {k : Nat} : (St.mk env bx rows).get k = (find env k).getD .undef := rfl
theorem set_mk {env bx rows} {k : Nat} {v : AV} : (St.mk env bx rows).set k v = ⟨put env k v,bx,rows⟩ := rfl
theorem getD_some {α : Type} {a b : α} : (some a).getD b = a := rfl
theorem getD_none {α : Type} {b : α} : (none : Option α).getD b = b := rfl
theorem map_some {α β : Type} {f : α → β} {a : α} : (some a).map f = some (f a) := rfl
theorem map_none {α β : Type} {f : α → β} : (none : Option α).map f = none := rfl
theorem condT {α : Type} {a b : α} : cond true a b = a := rfl
theorem condF {α : Type} {a b : α} : cond false a b = b := rfl
theorem slen_str {s : List UInt8} : slenV (.v (.sc (.dat (.str s)))) = some (.v (.sc (.dat (.int .i64 s.length)))) := rfl
theorem len_sl {rs : Rows} {es : List (List D)} : lenV rs (.v (.sc (.dat (.sl es)))) = some (.v (.sc (.dat (.int .i64 es.length)))) := rfl
theorem sconv_sl {rs : Rows} {es : List (List D)} : sconvV rs (.v (.sc (.dat (.sl es)))) = (bytesOf es).map fun b => .v (.sc (.dat (.str b))) := rfl
theorem sconv_own {rs : Rows} {id : Nat} : sconvV rs (.v (.sc (.own id))) = match find rs id with | some (_,es) => (bytesOf es).map fun b => .v (.sc (.dat (.str b))) | none => none := rfl
theorem len_nil {rs : Rows} : lenV rs (.v (.sc .nil)) = some (.v (.sc (.dat (.int .i64 0)))) := rfl
theorem conv_int {k k' : IntKind} {n : Int} : convV k (.v (.sc (.dat (.int k' n)))) = some (.v (.sc (.dat (.int k (k.wrap n))))) := rfl
theorem bin_int {op : BinOp} {k : IntKind} {x y : Int} : binV op (.v (.sc (.dat (.int k x)))) (.v (.sc (.dat (.int k y)))) = (intV op k x y).map fun d => .v (.sc (.dat d)) := by simp [binV]
theorem bin_str {op : BinOp} {x y : List UInt8} : binV op (.v (.sc (.dat (.str x)))) (.v (.sc (.dat (.str y)))) = (strV op x y).map fun d => .v (.sc (.dat d)) := rfl
theorem int_add {k : IntKind} {x y : Int} : intV .add k x y = some (.int k (k.wrap (x + y))) := rfl
theorem int_sub {k : IntKind} {x y : Int} : intV .sub k x y = some (.int k (k.wrap (x - y))) := rfl
theorem int_mul {k : IntKind} {x y : Int} : intV .mul k x y = some (.int k (k.wrap (x * y))) := rfl
theorem int_quo {k : IntKind} {x y : Int} : intV .quo k x y = bif y == 0 then none else some (.int k (k.wrap (x.tdiv y))) := by
 by_cases h : y = 0
 ·simp [intV,h]
 ·have h' : (y == 0) = false := by simpa using h
  simp [intV,h,h']
theorem int_rem {k : IntKind} {x y : Int} : intV .rem k x y = bif y == 0 then none else some (.int k (k.wrap (x.tmod y))) := by
 by_cases h : y = 0
 ·simp [intV,h]
 ·have h' : (y == 0) = false := by simpa using h
  simp [intV,h,h']
theorem int_eql {k : IntKind} {x y : Int} : intV .eql k x y = some (.bool (x == y)) := rfl
theorem int_neq {k : IntKind} {x y : Int} : intV .neq k x y = some (.bool (x != y)) := rfl
theorem int_lss {k : IntKind} {x y : Int} : intV .lss k x y = some (.bool (decide (x < y))) := rfl
theorem int_leq {k : IntKind} {x y : Int} : intV .leq k x y = some (.bool (decide (x ≤ y))) := rfl
theorem int_gtr {k : IntKind} {x y : Int} : intV .gtr k x y = some (.bool (decide (y < x))) := rfl
theorem int_geq {k : IntKind} {x y : Int} : intV .geq k x y = some (.bool (decide (y ≤ x))) := rfl
theorem str_eql {x y : List UInt8} : strV .eql x y = some (.bool (x == y)) := rfl
theorem str_neq {x y : List UInt8} : strV .neq x y = some (.bool (!(x == y))) := rfl
theorem un_not {b : Bool} : unV .not (.v (.sc (.dat (.bool b)))) = some (.v (.sc (.dat (.bool (!b))))) := rfl
theorem idx_str {s : List UInt8} {k : IntKind} {i : Int} : idxV (.v (.sc (.dat (.str s)))) (.v (.sc (.dat (.int k i)))) = (ix s i).map fun b => .v (.sc (.dat (.int .u8 b.toNat))) := rfl
theorem ix_nat {α : Type} {l : List α} {i : Nat} (h : i < l.length) : ix l (i : Int) = some l[i] := by simp [ix,h]
theorem field_ag {off : Nat} {g : Bool} {n : Nat} {cs : List AC} : fieldV off g n (.v (.ag cs)) = cellsV cs off g n := rfl
theorem cells_f {cs : List AC} {off n : Nat} : cellsV cs off false n = (cs[off]?).map fun c => .v (.sc c) := rfl
theorem clean_mk {env bx rows ks gs} : (St.mk env bx rows).clean ks gs = ⟨erase env ks,bx.filter fun p => !gs.contains p.1,rows.filter fun p => !gs.contains (p.1 / 64)⟩ := rfl
theorem drop_mk {env bx rows ks} : (St.mk env bx rows).drop ks = ⟨erase env ks,bx,rows⟩ := rfl
theorem inst_mk {env bx rows} {d : Nat} {rs : List R1} : (St.mk env bx rows).inst d rs = ⟨put env d (instAll d rs),bx,putAll rows (rowsAll d rs)⟩ := rfl
theorem instAll_one {g : Nat} {r : R1} : instAll g [r] = .v (r.inst g 0) := rfl
theorem instAll_two {g : Nat} {r r' : R1} {rs : List R1} : instAll g (r :: r' :: rs) = .tup (instList g 0 (r :: r' :: rs)) := rfl
theorem instList_nil {g j : Nat} : instList g j [] = [] := rfl
theorem instList_cons {g j : Nat} {r : R1} {rs : List R1} : instList g j (r :: rs) = r.inst g j :: instList g (j + r.width) rs := rfl
theorem width_sc {c : RC} : R1.width (.sc c) = 1 := rfl
theorem width_ag {cs : List RC} : R1.width (.ag cs) = cs.length := rfl
theorem inst_v {g j : Nat} {d : D} : RC.inst g j (.v d) = .dat d := rfl
theorem inst_o {g j sz : Nat} {es : List (List D)} : RC.inst g j (.o sz es) = .own (g * 64 + j) := rfl
theorem inst_sc {g j : Nat} {c : RC} : R1.inst g j (.sc c) = .sc (c.inst g j) := rfl
theorem inst_ag {g j : Nat} {cs : List RC} : R1.inst g j (.ag cs) = .ag (instCells g j cs) := rfl
theorem instCells_nil {g j : Nat} : instCells g j [] = [] := rfl
theorem instCells_cons {g j : Nat} {c : RC} {cs : List RC} : instCells g j (c :: cs) = c.inst g j :: instCells g (j + 1) cs := rfl
theorem rowsAll_nil {g : Nat} : rowsAll g [] = [] := rfl
theorem rowsAll_one {g : Nat} {r : R1} : rowsAll g [r] = rowsCells g 0 r.cells := by simp [rowsAll]
theorem rowsAll_two {g : Nat} {r r' : R1} : rowsAll g [r,r'] = rowsCells g 0 (r.cells ++ r'.cells) := by simp [rowsAll]
theorem cells_sc {c : RC} : R1.cells (.sc c) = [c] := rfl
theorem cells_ag {cs : List RC} : R1.cells (.ag cs) = cs := rfl
theorem rowsCells_nil {g j : Nat} : rowsCells g j [] = [] := rfl
theorem rowsCells_v {g j : Nat} {d : D} {cs : List RC} : rowsCells g j (.v d :: cs) = rowsCells g (j + 1) cs := rfl
theorem rowsCells_o {g j sz : Nat} {es : List (List D)} {cs : List RC} : rowsCells g j (.o sz es :: cs) = (g * 64 + j,sz,es) :: rowsCells g (j + 1) cs := rfl
theorem putAll_nil {rows : Rows} : putAll rows [] = rows := rfl
theorem putAll_cons {rows r : Rows} {k : Nat} {x : Nat × List (List D)} : putAll rows ((k,x) :: r) = put (putAll rows r) k x := rfl
theorem app_nil {α : Type} {l : List α} : [] ++ l = l := rfl
theorem app_cons {α : Type} {a : α} {l m : List α} : (a :: l) ++ m = a :: (l ++ m) := rfl
theorem bne_same {x : Int} : (x != x) = false := by simp
theorem beq_same {x : Int} : (x == x) = true := by simp
section
variable {P : Program} {k : List Fr} {Q : AExit → St → Prop} {σ : St} {its : List DItem} {n : Nat} {N : List Nat}
theorem d0_mv {d x} : go P (.dops ((some [],none,.mv d x) :: its) :: k) Q .normal (some σ) = go P (.ops [(none,.mv d x)] :: .dops its :: k) Q .normal (some σ) := go_dop0 rfl rfl
theorem d0_pick {d c a b} : go P (.dops ((some [],none,.pick d c a b) :: its) :: k) Q .normal (some σ) = go P (.ops [(none,.pick d c a b)] :: .dops its :: k) Q .normal (some σ) := go_dop0 rfl rfl
theorem d0_build {d zs ps} : go P (.dops ((some [],none,.build d zs ps) :: its) :: k) Q .normal (some σ) = go P (.ops [(none,.build d zs ps)] :: .dops its :: k) Q .normal (some σ) := go_dop0 rfl rfl
theorem d0_load {d x g n} : go P (.dops ((some [],none,.load d x g n) :: its) :: k) Q .normal (some σ) = go P (.ops [(none,.load d x g n)] :: .dops its :: k) Q .normal (some σ) := go_dop0 rfl rfl
theorem d0_nilc {d x} : go P (.dops ((some [],none,.nilc d x) :: its) :: k) Q .normal (some σ) = go P (.ops [(none,.nilc d x)] :: .dops its :: k) Q .normal (some σ) := go_dop0 rfl rfl
theorem d0_bin {d op x y} : go P (.dops ((some [],none,.bin d op x y) :: its) :: k) Q .normal (some σ) = go P (.ops [(none,.bin d op x y)] :: .dops its :: k) Q .normal (some σ) := go_dop0 rfl rfl
theorem d0_geq {d g ks x y} : go P (.dops ((some [],none,.geq d g ks x y) :: its) :: k) Q .normal (some σ) = go P (.ops [(none,.geq d g ks x y)] :: .dops its :: k) Q .normal (some σ) := go_dop0 rfl rfl
theorem d0_beq {d g x y} : go P (.dops ((some [],none,.beq d g x y) :: its) :: k) Q .normal (some σ) = go P (.ops [(none,.beq d g x y)] :: .dops its :: k) Q .normal (some σ) := go_dop0 rfl rfl
theorem d0_un {d op x} : go P (.dops ((some [],none,.un d op x) :: its) :: k) Q .normal (some σ) = go P (.ops [(none,.un d op x)] :: .dops its :: k) Q .normal (some σ) := go_dop0 rfl rfl
theorem d0_conv {d kd x} : go P (.dops ((some [],none,.conv d kd x) :: its) :: k) Q .normal (some σ) = go P (.ops [(none,.conv d kd x)] :: .dops its :: k) Q .normal (some σ) := go_dop0 rfl rfl
theorem d0_slc {d sz x lo hi mx} : go P (.dops ((some [],none,.slc d sz x lo hi mx) :: its) :: k) Q .normal (some σ) = go P (.ops [(none,.slc d sz x lo hi mx)] :: .dops its :: k) Q .normal (some σ) := go_dop0 rfl rfl
theorem d0_sslc {d x lo hi} : go P (.dops ((some [],none,.sslc d x lo hi) :: its) :: k) Q .normal (some σ) = go P (.ops [(none,.sslc d x lo hi)] :: .dops its :: k) Q .normal (some σ) := go_dop0 rfl rfl
theorem d0_faddr {d x off} : go P (.dops ((some [],none,.faddr d x off) :: its) :: k) Q .normal (some σ) = go P (.ops [(none,.faddr d x off)] :: .dops its :: k) Q .normal (some σ) := go_dop0 rfl rfl
theorem d0_field {d x off g n} : go P (.dops ((some [],none,.field d x off g n) :: its) :: k) Q .normal (some σ) = go P (.ops [(none,.field d x off g n)] :: .dops its :: k) Q .normal (some σ) := go_dop0 rfl rfl
theorem d0_iaddr {d x i sz} : go P (.dops ((some [],none,.iaddr d x i sz) :: its) :: k) Q .normal (some σ) = go P (.ops [(none,.iaddr d x i sz)] :: .dops its :: k) Q .normal (some σ) := go_dop0 rfl rfl
theorem d0_idx {d x i} : go P (.dops ((some [],none,.idx d x i) :: its) :: k) Q .normal (some σ) = go P (.ops [(none,.idx d x i)] :: .dops its :: k) Q .normal (some σ) := go_dop0 rfl rfl
theorem d0_extr {d x i} : go P (.dops ((some [],none,.extr d x i) :: its) :: k) Q .normal (some σ) = go P (.ops [(none,.extr d x i)] :: .dops its :: k) Q .normal (some σ) := go_dop0 rfl rfl
theorem d0_mkif {d t x} : go P (.dops ((some [],none,.mkif d t x) :: its) :: k) Q .normal (some σ) = go P (.ops [(none,.mkif d t x)] :: .dops its :: k) Q .normal (some σ) := go_dop0 rfl rfl
theorem d0_tass {d x t zc} : go P (.dops ((some [],none,.tass d x t zc) :: its) :: k) Q .normal (some σ) = go P (.ops [(none,.tass d x t zc)] :: .dops its :: k) Q .normal (some σ) := go_dop0 rfl rfl
theorem d0_len {d x} : go P (.dops ((some [],none,.len d x) :: its) :: k) Q .normal (some σ) = go P (.ops [(none,.len d x)] :: .dops its :: k) Q .normal (some σ) := go_dop0 rfl rfl
theorem d0_slen {d x} : go P (.dops ((some [],none,.slen d x) :: its) :: k) Q .normal (some σ) = go P (.ops [(none,.slen d x)] :: .dops its :: k) Q .normal (some σ) := go_dop0 rfl rfl
theorem d0_sconv {d x} : go P (.dops ((some [],none,.sconv d x) :: its) :: k) Q .normal (some σ) = go P (.ops [(none,.sconv d x)] :: .dops its :: k) Q .normal (some σ) := go_dop0 rfl rfl
theorem d0_mm {d m x y} : go P (.dops ((some [],none,.mm d m x y) :: its) :: k) Q .normal (some σ) = go P (.ops [(none,.mm d m x y)] :: .dops its :: k) Q .normal (some σ) := go_dop0 rfl rfl
theorem d0_mkf {d f caps} : go P (.dops ((some [],none,.mkf d f caps) :: its) :: k) Q .normal (some σ) = go P (.ops [(none,.mkf d f caps)] :: .dops its :: k) Q .normal (some σ) := go_dop0 rfl rfl
theorem d0_box {d x} : go P (.dops ((some [],none,.box d x) :: its) :: k) Q .normal (some σ) = go P (.ops [(none,.box d x)] :: .dops its :: k) Q .normal (some σ) := go_dop0 rfl rfl
theorem d0_alloc {d cs} : go P (.dops ((some [],none,.alloc d cs) :: its) :: k) Q .normal (some σ) = go P (.ops [(none,.alloc d cs)] :: .dops its :: k) Q .normal (some σ) := go_dop0 rfl rfl
theorem d0_bslice {d sz zs len ps} : go P (.dops ((some [],none,.bslice d sz zs len ps) :: its) :: k) Q .normal (some σ) = go P (.ops [(none,.bslice d sz zs len ps)] :: .dops its :: k) Q .normal (some σ) := go_dop0 rfl rfl
theorem d0_mksl {d sz b zs x y} : go P (.dops ((some [],none,.mksl d sz b zs x y) :: its) :: k) Q .normal (some σ) = go P (.ops [(none,.mksl d sz b zs x y)] :: .dops its :: k) Q .normal (some σ) := go_dop0 rfl rfl
theorem dN_mv {d x} : go P (.dops ((some (n :: N),none,.mv d x) :: its) :: k) Q .normal (some σ) = go P (.dops its :: k) Q .normal (takeN σ (n :: N) (some d) ((σ.less (n :: N)).step (.mv d x))) := go_dopN rfl
theorem dN_pick {d c a b} : go P (.dops ((some (n :: N),none,.pick d c a b) :: its) :: k) Q .normal (some σ) = go P (.dops its :: k) Q .normal (takeN σ (n :: N) (some d) ((σ.less (n :: N)).step (.pick d c a b))) := go_dopN rfl
theorem dN_build {d zs ps} : go P (.dops ((some (n :: N),none,.build d zs ps) :: its) :: k) Q .normal (some σ) = go P (.dops its :: k) Q .normal (takeN σ (n :: N) (some d) ((σ.less (n :: N)).step (.build d zs ps))) := go_dopN rfl
theorem dN_load {d x g m} : go P (.dops ((some (n :: N),none,.load d x g m) :: its) :: k) Q .normal (some σ) = go P (.dops its :: k) Q .normal (takeN σ (n :: N) (some d) ((σ.less (n :: N)).step (.load d x g m))) := go_dopN rfl
theorem dN_nilc {d x} : go P (.dops ((some (n :: N),none,.nilc d x) :: its) :: k) Q .normal (some σ) = go P (.dops its :: k) Q .normal (takeN σ (n :: N) (some d) ((σ.less (n :: N)).step (.nilc d x))) := go_dopN rfl
theorem dN_bin {d op x y} : go P (.dops ((some (n :: N),none,.bin d op x y) :: its) :: k) Q .normal (some σ) = go P (.dops its :: k) Q .normal (takeN σ (n :: N) (some d) ((σ.less (n :: N)).step (.bin d op x y))) := go_dopN rfl
theorem dN_geq {d g ks x y} : go P (.dops ((some (n :: N),none,.geq d g ks x y) :: its) :: k) Q .normal (some σ) = go P (.dops its :: k) Q .normal (takeN σ (n :: N) (some d) ((σ.less (n :: N)).step (.geq d g ks x y))) := go_dopN rfl
theorem dN_beq {d g x y} : go P (.dops ((some (n :: N),none,.beq d g x y) :: its) :: k) Q .normal (some σ) = go P (.dops its :: k) Q .normal (takeN σ (n :: N) (some d) ((σ.less (n :: N)).step (.beq d g x y))) := go_dopN rfl
theorem dN_un {d op x} : go P (.dops ((some (n :: N),none,.un d op x) :: its) :: k) Q .normal (some σ) = go P (.dops its :: k) Q .normal (takeN σ (n :: N) (some d) ((σ.less (n :: N)).step (.un d op x))) := go_dopN rfl
theorem dN_conv {d kd x} : go P (.dops ((some (n :: N),none,.conv d kd x) :: its) :: k) Q .normal (some σ) = go P (.dops its :: k) Q .normal (takeN σ (n :: N) (some d) ((σ.less (n :: N)).step (.conv d kd x))) := go_dopN rfl
theorem dN_slc {d sz x lo hi mx} : go P (.dops ((some (n :: N),none,.slc d sz x lo hi mx) :: its) :: k) Q .normal (some σ) = go P (.dops its :: k) Q .normal (takeN σ (n :: N) (some d) ((σ.less (n :: N)).step (.slc d sz x lo hi mx))) := go_dopN rfl
theorem dN_sslc {d x lo hi} : go P (.dops ((some (n :: N),none,.sslc d x lo hi) :: its) :: k) Q .normal (some σ) = go P (.dops its :: k) Q .normal (takeN σ (n :: N) (some d) ((σ.less (n :: N)).step (.sslc d x lo hi))) := go_dopN rfl
theorem dN_faddr {d x off} : go P (.dops ((some (n :: N),none,.faddr d x off) :: its) :: k) Q .normal (some σ) = go P (.dops its :: k) Q .normal (takeN σ (n :: N) (some d) ((σ.less (n :: N)).step (.faddr d x off))) := go_dopN rfl
theorem dN_field {d x off g m} : go P (.dops ((some (n :: N),none,.field d x off g m) :: its) :: k) Q .normal (some σ) = go P (.dops its :: k) Q .normal (takeN σ (n :: N) (some d) ((σ.less (n :: N)).step (.field d x off g m))) := go_dopN rfl
theorem dN_iaddr {d x i sz} : go P (.dops ((some (n :: N),none,.iaddr d x i sz) :: its) :: k) Q .normal (some σ) = go P (.dops its :: k) Q .normal (takeN σ (n :: N) (some d) ((σ.less (n :: N)).step (.iaddr d x i sz))) := go_dopN rfl
theorem dN_idx {d x i} : go P (.dops ((some (n :: N),none,.idx d x i) :: its) :: k) Q .normal (some σ) = go P (.dops its :: k) Q .normal (takeN σ (n :: N) (some d) ((σ.less (n :: N)).step (.idx d x i))) := go_dopN rfl
theorem dN_extr {d x i} : go P (.dops ((some (n :: N),none,.extr d x i) :: its) :: k) Q .normal (some σ) = go P (.dops its :: k) Q .normal (takeN σ (n :: N) (some d) ((σ.less (n :: N)).step (.extr d x i))) := go_dopN rfl
theorem dN_mkif {d t x} : go P (.dops ((some (n :: N),none,.mkif d t x) :: its) :: k) Q .normal (some σ) = go P (.dops its :: k) Q .normal (takeN σ (n :: N) (some d) ((σ.less (n :: N)).step (.mkif d t x))) := go_dopN rfl
theorem dN_tass {d x t zc} : go P (.dops ((some (n :: N),none,.tass d x t zc) :: its) :: k) Q .normal (some σ) = go P (.dops its :: k) Q .normal (takeN σ (n :: N) (some d) ((σ.less (n :: N)).step (.tass d x t zc))) := go_dopN rfl
theorem dN_len {d x} : go P (.dops ((some (n :: N),none,.len d x) :: its) :: k) Q .normal (some σ) = go P (.dops its :: k) Q .normal (takeN σ (n :: N) (some d) ((σ.less (n :: N)).step (.len d x))) := go_dopN rfl
theorem dN_slen {d x} : go P (.dops ((some (n :: N),none,.slen d x) :: its) :: k) Q .normal (some σ) = go P (.dops its :: k) Q .normal (takeN σ (n :: N) (some d) ((σ.less (n :: N)).step (.slen d x))) := go_dopN rfl
theorem dN_sconv {d x} : go P (.dops ((some (n :: N),none,.sconv d x) :: its) :: k) Q .normal (some σ) = go P (.dops its :: k) Q .normal (takeN σ (n :: N) (some d) ((σ.less (n :: N)).step (.sconv d x))) := go_dopN rfl
theorem dN_mm {d m x y} : go P (.dops ((some (n :: N),none,.mm d m x y) :: its) :: k) Q .normal (some σ) = go P (.dops its :: k) Q .normal (takeN σ (n :: N) (some d) ((σ.less (n :: N)).step (.mm d m x y))) := go_dopN rfl
theorem dN_mkf {d f caps} : go P (.dops ((some (n :: N),none,.mkf d f caps) :: its) :: k) Q .normal (some σ) = go P (.dops its :: k) Q .normal (takeN σ (n :: N) (some d) ((σ.less (n :: N)).step (.mkf d f caps))) := go_dopN rfl
theorem d_guardT {t : Nat} {o : AOp} {N : List Nat} : go P (.dops ((some N,some (t,true),o) :: its) :: k) Q .normal (some σ) = go P (.gdd (σ.get t) true (some N) o its :: k) Q .normal (some σ) := by
 show aguard (some (t,true)) σ _ _ = _
 rw [aguardT]
 show _ = forkV _ _ _ _
 simp only [cond_true]
 congr 1 <;> (cases o.dst <;> rfl)
theorem d_guardF {t : Nat} {o : AOp} {N : List Nat} : go P (.dops ((some N,some (t,false),o) :: its) :: k) Q .normal (some σ) = go P (.gdd (σ.get t) false (some N) o its :: k) Q .normal (some σ) := by
 show aguard (some (t,false)) σ _ _ = _
 rw [aguardF]
 show _ = forkV _ _ _ _
 simp only [cond_false]
 congr 1 <;> (cases o.dst <;> rfl)
theorem d_yes {b : Bool} {o : AOp} {N : Option (List Nat)} : go P (.gdd (.v (.sc (.dat (.bool b)))) b N o its :: k) Q .normal (some σ) = go P (.dops ((N,none,o) :: its) :: k) Q .normal (some σ) := by
 cases b <;> simp [go,go0,forkV]
theorem d_noT {o : AOp} {N : Option (List Nat)} : go P (.gdd (.v (.sc (.dat (.bool false)))) true N o its :: k) Q .normal (some σ) = go P (.dops its :: k) Q .normal (unw σ o.dst) := by
 simp only [go,go0,forkV,cond_true]
 cases o.dst <;> simp [onSome,unw]
theorem d_noF {o : AOp} {N : Option (List Nat)} : go P (.gdd (.v (.sc (.dat (.bool true)))) false N o its :: k) Q .normal (some σ) = go P (.dops its :: k) Q .normal (unw σ o.dst) := by
 simp only [go,go0,forkV,cond_false]
 cases o.dst <;> simp [onSome,unw]
theorem d_no0 {w : Bool} {o : AOp} {N : Option (List Nat)} : go P (.gdd .no w N o its :: k) Q .normal (some σ) = go P (.dops its :: k) Q .normal (unw σ o.dst) := by
 simp only [go,go0,forkV]
 cases o.dst <;> simp [onSome,unw]
theorem go_gd_no0 {w : Bool} {o : AOp} {its : List AItem} : go P (.gd .no w o its :: k) Q .normal (some σ) = go P (.ops its :: k) Q .normal (unw σ o.dst) := by
 simp only [go,go0,forkV]
 cases o.dst <;> simp [onSome,unw]
theorem d_gdd {b w : Bool} {o : AOp} {N : Option (List Nat)} (h1 : b = w → go P (.dops ((N,none,o) :: its) :: k) Q .normal (some σ)) (h2 : b = !w → go P (.dops its :: k) Q .normal (unw σ o.dst)) :
  go P (.gdd (.v (.sc (.dat (.bool b)))) w N o its :: k) Q .normal (some σ) := by
 cases b <;> cases w
 ·rw [d_yes]; exact h1 rfl
 ·rw [d_noT]; exact h2 rfl
 ·rw [d_noF]; exact h2 rfl
 ·rw [d_yes]; exact h1 rfl
theorem go_gd {b w : Bool} {o : AOp} {its : List AItem} (h1 : b = w → go P (.ops ((none,o) :: its) :: k) Q .normal (some σ)) (h2 : b = !w → go P (.ops its :: k) Q .normal (unw σ o.dst)) :
  go P (.gd (.v (.sc (.dat (.bool b)))) w o its :: k) Q .normal (some σ) := by
 cases b <;> cases w
 ·rw [go_gd_yes]; exact h1 rfl
 ·rw [go_gd_noT]; exact h2 rfl
 ·rw [go_gd_noF]; exact h2 rfl
 ·rw [go_gd_yes]; exact h1 rfl
end
def memN (k : Nat) : List Nat → Bool
 | [] => false
 | n :: r => bif k == n then true else memN k r
def keepB {α : Type} (f : Nat → Nat) (N : List Nat) : List (Nat × α) → List (Nat × α)
 | [] => []
 | (k,v) :: r => bif memN (f k) N then keepB f N r else (k,v) :: keepB f N r
theorem memN_eq (k : Nat) : ∀ N : List Nat,memN k N = N.contains k
 | [] => rfl
 | n :: r => by
  simp only [memN,List.contains_cons,memN_eq k r]
  cases k == n <;> rfl
theorem keepB_eq {α : Type} (f : Nat → Nat) (N : List Nat) : ∀ l : List (Nat × α),keepB f N l = l.filter fun p => !N.contains (f p.1)
 | [] => rfl
 | (k,v) :: r => by
  simp only [keepB,memN_eq,List.filter_cons,keepB_eq f N r]
  cases N.contains (f k) <;> rfl
theorem less_mk {env bx rows} {n : Nat} {N : List Nat} : (St.mk env bx rows).less (n :: N) = ⟨env,keepB id (n :: N) bx,keepB (· / 64) (n :: N) rows⟩ := by
 rw [keepB_eq,keepB_eq]
 rfl
theorem memN_nil {k : Nat} : memN k [] = false := rfl
theorem memN_cons {k n : Nat} {r : List Nat} : memN k (n :: r) = bif k == n then true else memN k r := rfl
theorem keep_nil {α : Type} {f : Nat → Nat} {N : List Nat} : keepB f N ([] : List (Nat × α)) = [] := rfl
theorem keep_id {α : Type} {N : List Nat} {k : Nat} {v : α} {r : List (Nat × α)} : keepB id N ((k,v) :: r) = bif memN k N then keepB id N r else (k,v) :: keepB id N r := rfl
theorem keep_64 {α : Type} {N : List Nat} {k : Nat} {v : α} {r : List (Nat × α)} : keepB (· / 64) N ((k,v) :: r) = bif memN (k / 64) N then keepB (· / 64) N r else (k,v) :: keepB (· / 64) N r := rfl
theorem take_some {σ τ : St} {N : List Nat} {d : Nat} : takeN σ N (some d) (some τ) = bif (τ.get d).avoids N then some (σ.set d (τ.get d)) else none := rfl
theorem unw_some {σ : St} {d : Nat} : unw σ (some d) = some (σ.set d .no) := rfl
theorem av_dat {N : List Nat} {d : D} : AV.avoids N (.v (.sc (.dat d))) = true := by simp [AV.avoids,AV.cells,V1.cells,AC.avoids,AC.uses]
theorem av_nil {N : List Nat} : AV.avoids N (.v (.sc .nil)) = true := by simp [AV.avoids,AV.cells,V1.cells,AC.avoids,AC.uses]
theorem av_own {N : List Nat} {i : Nat} : AV.avoids N (.v (.sc (.own i))) = !memN (i / 64) N := by
 rw [memN_eq]
 induction N with
 | nil => rfl
 | cons n N ih =>
  simp only [AV.avoids,AV.cells,V1.cells,AC.avoids,AC.uses,List.all_cons,List.all_nil,Bool.and_true,List.contains_cons] at ih ⊢
  rw [ih]
  cases (i / 64 == n) <;> simp
theorem av_pb {N : List Nat} {i o : Nat} : AV.avoids N (.v (.sc (.pb i o))) = !memN i N := by
 rw [memN_eq]
 induction N with
 | nil => rfl
 | cons n N ih =>
  simp only [AV.avoids,AV.cells,V1.cells,AC.avoids,AC.uses,List.all_cons,List.all_nil,Bool.and_true,List.contains_cons] at ih ⊢
  rw [ih]
  cases (i == n) <;> simp
theorem av_pe {N : List Nat} {i x o : Nat} : AV.avoids N (.v (.sc (.pe i x o))) = !memN (i / 64) N := by
 rw [memN_eq]
 induction N with
 | nil => rfl
 | cons n N ih =>
  simp only [AV.avoids,AV.cells,V1.cells,AC.avoids,AC.uses,List.all_cons,List.all_nil,Bool.and_true,List.contains_cons] at ih ⊢
  rw [ih]
  cases (i / 64 == n) <;> simp
theorem av_ag0 {N : List Nat} : AV.avoids N (.v (.ag [])) = true := rfl
theorem av_ag {N : List Nat} {c : AC} {cs : List AC} : AV.avoids N (.v (.ag (c :: cs))) = ((AV.v (.sc c)).avoids N && (AV.v (.ag cs)).avoids N) := by simp [AV.avoids,AV.cells,V1.cells]
theorem not_false' : (!false) = true := rfl
theorem not_true' : (!true) = false := rfl
theorem and_tt : (true && true) = true := rfl
theorem dst_mv {d x} : AOp.dst (.mv d x) = some d := rfl
theorem dst_pick {d c a b} : AOp.dst (.pick d c a b) = some d := rfl
theorem dst_build {d zs ps} : AOp.dst (.build d zs ps) = some d := rfl
theorem dst_load {d x g n} : AOp.dst (.load d x g n) = some d := rfl
theorem dst_nilc {d x} : AOp.dst (.nilc d x) = some d := rfl
theorem dst_bin {d op x y} : AOp.dst (.bin d op x y) = some d := rfl
theorem dst_geq {d g ks x y} : AOp.dst (.geq d g ks x y) = some d := rfl
theorem dst_beq {d g x y} : AOp.dst (.beq d g x y) = some d := rfl
theorem dst_un {d op x} : AOp.dst (.un d op x) = some d := rfl
theorem dst_conv {d kd x} : AOp.dst (.conv d kd x) = some d := rfl
theorem dst_slc {d sz x lo hi mx} : AOp.dst (.slc d sz x lo hi mx) = some d := rfl
theorem dst_sslc {d x lo hi} : AOp.dst (.sslc d x lo hi) = some d := rfl
theorem dst_faddr {d x off} : AOp.dst (.faddr d x off) = some d := rfl
theorem dst_field {d x off g n} : AOp.dst (.field d x off g n) = some d := rfl
theorem dst_iaddr {d x i sz} : AOp.dst (.iaddr d x i sz) = some d := rfl
theorem dst_idx {d x i} : AOp.dst (.idx d x i) = some d := rfl
theorem dst_extr {d x i} : AOp.dst (.extr d x i) = some d := rfl
theorem dst_mkif {d t x} : AOp.dst (.mkif d t x) = some d := rfl
theorem dst_tass {d x t zc} : AOp.dst (.tass d x t zc) = some d := rfl
theorem dst_len {d x} : AOp.dst (.len d x) = some d := rfl
theorem dst_slen {d x} : AOp.dst (.slen d x) = some d := rfl
theorem dst_sconv {d x} : AOp.dst (.sconv d x) = some d := rfl
theorem dst_mm {d m x y} : AOp.dst (.mm d m x y) = some d := rfl
theorem dst_mkf {d f caps} : AOp.dst (.mkf d f caps) = some d := rfl
theorem dst_box {d x} : AOp.dst (.box d x) = some d := rfl
theorem dst_alloc {d cs} : AOp.dst (.alloc d cs) = some d := rfl
theorem dst_bslice {d sz zs len ps} : AOp.dst (.bslice d sz zs len ps) = some d := rfl
theorem dst_mksl {d sz b zs x y} : AOp.dst (.mksl d sz b zs x y) = some d := rfl
theorem dst_call {d f args} : AOp.dst (.call d f args) = some d := rfl
theorem dst_callv {d x args} : AOp.dst (.callv d x args) = some d := rfl
def flatB (rs : List R1) : Bool := (rs.flatMap R1.cells).all fun | .v d => d.flat | .o _ _ => false
theorem flat_of {rs : List R1} (h : flatB rs = true) : flatRs rs := by
 intro c hc
 have := List.all_eq_true.1 h c hc
 cases c with
 | v d => exact this
 | o => cases this
end Go.Vi
