/- An abstract evaluator of the model's code over typed contents: definitions alone. -/
import Derived.Orders
import Derived.KernelRfl
set_option linter.unusedVariables false
set_option linter.unusedSimpArgs false
namespace Go.Ev
open Go
set_option linter.unusedVariables false
inductive ET where
  | int (k : IntKind)
  | bool
  | str
  | pair (k : IntKind)
  | ilist (k : IntKind)
@[reducible] def ET.T : ET → Type
  | .int _ => Int
  | .bool => Bool
  | .str => ByteArray
  | .pair _ => Int × Int
  | .ilist _ => List Int
def ET.size : ET → Nat
  | .pair _ => 2
  | _ => 1
def flatE : ET → Bool
  | .ilist _ => false
  | _ => true
inductive AV where
  | dead
  | sc (v : Value)
  | run (e : ET) (l : List e.T)
  | sl (e : ET) (l : List e.T) (tight : Bool)
  | slg (vs : List AV) (tight : Bool)
  | pt (c : List AV) (ty : Option TypeId) (s i j : Nat)
  | os (r s i len : Nat) (whole tight full : Bool)
  | ps (r s i j : Nat)
  | agg (c : List AV) (loose : Bool)
  | fn (f : Fn) (first caps : List AV)
  | iface (t : TypeId) (v : AV)
  | tuple (vs : List AV)
structure Row where
  c : List AV
  vr : Bool
  ty : TypeId
  fz : Bool
  loose : Bool
  kin : Option (Nat × Bool) := none
abbrev Hp := List (Option Row)
abbrev Fr := List (Nat × AV)
@[reducible] def vint (k : IntKind) (n : Int) : AV := .sc (.int k n)
@[reducible] def vi (n : Int) : AV := .sc (.int .i64 n)
@[reducible] def vb (b : Bool) : AV := .sc (.bool b)
def tree : AV → Bool
  | .sc _ => true
  | .run _ _ => true
  | .sl _ _ t => !t
  | .slg _ t => !t
  | .pt _ _ _ _ _ => true
  | .agg _ l => !l
  | .iface _ _ => true
  | .fn _ first caps => first.isEmpty && caps.isEmpty
  | _ => false
inductive Tree (α : Type) where
  | leaf (a : α)
  | fail
  | br (b : Bool) (t e : Tree α)
def Tree.val {α : Type} : Tree α → Option α
  | .leaf a => some a
  | .fail => none
  | .br b t e => cond b t.val e.val
def Tree.go {α R : Type} : Tree α → (α → Option R) → Option R
  | .leaf a, f => f a
  | .fail, _ => none
  | .br b t e, f => cond b (t.go f) (e.go f)
inductive HP (α : Type) : Type 1 where
  | ret (a : α)
  | fail
  | chk (b : Bool) (p : HP α)
  | opt (β : Type) (o : Option β) (k : β → HP α)
  | tree (β : Type) (t : Tree β) (k : β → HP α)
  | rd (r : Nat) (k : Row → HP α)
  | wr (r : Nat) (row : Option Row) (p : HP α)
  | kill (r : Nat) (p : HP α)
  | new (row : Row) (k : Nat → HP α)
namespace HP
def bind {α β : Type} (p : HP α) (f : α → HP β) : HP β :=
  match p with
  | .ret a => f a
  | .fail => .fail
  | .chk b p => .chk b (p.bind f)
  | .opt γ o k => .opt γ o fun x => (k x).bind f
  | .tree γ t k => .tree γ t fun x => (k x).bind f
  | .rd r k => .rd r fun x => (k x).bind f
  | .wr r row p => .wr r row (p.bind f)
  | .kill r p => .kill r (p.bind f)
  | .new row k => .new row fun x => (k x).bind f
instance : Monad HP where
  pure := HP.ret
  bind := HP.bind
end HP
def oM {β R : Type} (o : Option β) (f : β → Option R) : Option R := match o with
  | some x => f x
  | none => none
def HP.run {α R : Type} : HP α → (α → Hp → List Nat → List Nat → Option R) → Hp → List Nat → List Nat → Option R
  | .ret a, k => fun H rs ws => k a H rs ws
  | .fail, _ => fun _ _ _ => none
  | .chk b p, k => fun H rs ws => cond b (p.run k H rs ws) none
  | .opt _ o f, k => fun H rs ws => oM o fun x => (f x).run k H rs ws
  | .tree _ t f, k => fun H rs ws => t.go fun x => (f x).run k H rs ws
  | .rd r f, k => fun H rs ws => match H[r]? with
    | some (some row) => (f row).run k H (r :: rs) ws
    | _ => none
  | .wr r row p, k => fun H rs ws => match H[r]? with
    | some (some _) => p.run k (H.set r row) rs (r :: ws)
    | _ => none
  | .kill r p, k => fun H rs ws => match H[r]? with
    | some _ => p.run k (H.set r none) rs (r :: ws)
    | none => none
  | .new row f, k => fun H rs ws => (f H.length).run k (H ++ [some row]) rs (H.length :: ws)
section types
variable (P : Program)
def desc (t : TypeId) : TypeDesc := (P.underlying t).getD .invalid
def szOf (t : TypeId) : Nat := P.cellsOf t
def etOf (t : TypeId) : Option ET :=
  match desc P t with
  | .int k => some (.int k)
  | .bool => some .bool
  | .string => some .str
  | .array n e => match n, desc P e with
    | 2, .int k => some (.pair k)
    | _, _ => none
  | _ => none
def arrOf (fuel : Nat) (t : TypeId) : Option (ET × Nat) :=
  match fuel with
  | 0 => none
  | fuel + 1 =>
    match desc P t with
    | .int k => some (.int k, 1)
    | .bool => some (.bool, 1)
    | .string => some (.str, 1)
    | .array n e => match arrOf fuel e with
      | some (x, m) => some (x, n * m)
      | none => none
    | _ => none
def zeroE : (e : ET) → e.T
  | .int _ => (0 : Int)
  | .bool => false
  | .str => (⟨#[]⟩ : ByteArray)
  | .pair _ => ((0 : Int), (0 : Int))
  | .ilist _ => ([] : List Int)
def zeroC (fuel : Nat) (t : TypeId) : Option (List AV) :=
  match fuel with
  | 0 => none
  | fuel + 1 =>
    match desc P t with
    | .int k => some [.sc (.int k 0)]
    | .bool => some [.sc (.bool false)]
    | .string => some [.sc (.string ⟨#[]⟩)]
    | .pointer _ => some [.sc (.pointer none)]
    | .func _ _ _ => some [.sc .nilFunc]
    | .interface _ => some [.sc .nilIface]
    | .slice _ => some [.sc (.slice none 0 0)]
    | .array n e => match arrOf P 8 e with
      | some (x, m) => some [.run x (List.replicate (n * m) (zeroE x))]
      | none => match zeroC fuel e with
        | some c => some (List.replicate n c).flatten
        | none => none
    | .struct fs => fs.toList.foldl (fun acc f => match acc, zeroC fuel f.type with
        | some a, some c => some (a ++ c)
        | _, _ => none) (some [])
    | _ => none
def nsegs (t : TypeId) : Nat := ((zeroC P 8 t).map (·.length)).getD 0
def fieldSeg (fs : List Field) (f : Nat) : Nat := (fs.take f).foldl (fun n g => n + nsegs P g.type) 0
end types
def cst (v : Value) : AV :=
  match v with
  | .func f a b => match a.isEmpty && b.isEmpty with
    | true => .fn f [] []
    | false => .dead
  | .agg _ => .dead
  | .tuple _ => .dead
  | v => .sc v
def contentOf : AV → List AV
  | .agg c _ => c
  | v => [v]
def binV (op : BinOp) (x y : Value) : Option Value :=
  match x, y with
  | .int k a, .int k' b =>
    match op with
    | .shl => cond (decide (0 ≤ b)) (some (.int k (k.wrap (a * 2 ^ (min b.toNat k.bits))))) none
    | .shr => cond (decide (0 ≤ b)) (some (.int k (a.fdiv (2 ^ (min b.toNat k.bits))))) none
    | op => cond (decide (k = k')) (match op with
      | .add => some (.int k (k.wrap (a + b)))
      | .sub => some (.int k (k.wrap (a - b)))
      | .mul => some (.int k (k.wrap (a * b)))
      | .quo => cond (decide (b = 0)) none (some (.int k (k.wrap (a.tdiv b))))
      | .rem => cond (decide (b = 0)) none (some (.int k (a.tmod b)))
      | .and => some (.int k (k.wrap (BitVec.ofInt k.bits a &&& BitVec.ofInt k.bits b).toNat))
      | .or => some (.int k (k.wrap (BitVec.ofInt k.bits a ||| BitVec.ofInt k.bits b).toNat))
      | .xor => some (.int k (k.wrap (BitVec.ofInt k.bits a ^^^ BitVec.ofInt k.bits b).toNat))
      | .andNot => some (.int k (k.wrap (BitVec.ofInt k.bits a &&& ~~~(BitVec.ofInt k.bits b)).toNat))
      | .eql => some (.bool (a == b))
      | .neq => some (.bool (a != b))
      | .lss => some (.bool (decide (a < b)))
      | .leq => some (.bool (decide (a ≤ b)))
      | .gtr => some (.bool (decide (a > b)))
      | .geq => some (.bool (decide (a ≥ b)))
      | _ => none) none
  | _, _ => none
def unV (op : UnOp) (x : Value) : Option Value :=
  match op, x with
  | .neg, .int k a => some (.int k (k.wrap (0 - a)))
  | .not, .bool b => some (.bool !b)
  | _, _ => none
def outOf {α : Type} : Option α → HP α
  | some a => .ret a
  | none => .fail
def elemV : (e : ET) → e.T → AV
  | .int k, a => .sc (.int k a)
  | .bool, b => .sc (.bool b)
  | .str, s => .sc (.string s)
  | .pair k, p => .agg [.run (.int k) ([p.1, p.2] : List Int)] false
  | .ilist k, l => .sl (.int k) l false
def elemOfV : (e : ET) → AV → Option e.T
  | .int k, .sc (.int k' a) => cond (decide (k = k')) (some a) none
  | .bool, .sc (.bool b) => some b
  | .str, .sc (.string s) => some s
  | .pair k, .agg [.run (.int k') l] _ => cond (decide (k = k')) (match (l : List Int) with
    | [a, b] => some (a, b)
    | _ => none) none
  | .ilist k, .sl (.int k') l _ => cond (decide (k = k')) (some l) none
  | .ilist _, .sc (.slice none 0 0) => some []
  | _, _ => none
def get : Fr → Nat → AV
  | [], _ => .dead
  | p :: fr, t => match Nat.beq p.1 t with
    | true => p.2
    | false => get fr t
def put (fr : Fr) (d : Option Nat) (v : AV) : Fr := match d with
  | some d => (d, v) :: fr
  | none => fr
inductive Out where
  | nrm
  | ext (id : Nat)
  | ret
structure Tab where
  P : Program
  il : Bool
  fn : FuncId → Option Func
  glob : Nat → Option (List AV × TypeId)
  refm : FuncId → List Nat
  keep : FuncId → Nat → List Nat
  gc : FuncId → Nat → Option (Bool × List Nat)
  callR : FuncId → List AV → Hp → Tree (AV × Hp)
  loopT : FuncId → Nat → Nat → List AV → Hp → Tree (Out × List AV × Hp)
  nest : Bool := false
  ext : Bool := false
  flat : Bool := false
  lay : Bool := false
def room (n bytes : Nat) : Bool := Nat.ble (n * (bytes + 1)) 70368744177664
section ops
variable (T : Tab)
def opv (fr : Fr) : Operand → AV
  | .tmp t => get fr t
  | .const v => cst v
  | .global g => match T.glob g with
    | some (c, ty) => .pt c (some ty) 0 0 0
    | none => .dead
  | .func f => .fn (.func f) [] []
def nilRow (v : AV) : HP AV := match v with
  | .sl e l tight => match tight with
    | true => match l with
      | [] => .new { c := [.run e []], vr := false, ty := 0, fz := false, loose := false } fun r => .ret (.os r 0 0 0 true false true)
      | l => .ret (.sl e l true)
    | false => .ret (.sl e l false)
  | .slg vs tight => match tight with
    | true => match vs with
      | [] => .new { c := [], vr := false, ty := 0, fz := false, loose := false } fun r => .ret (.os r 0 0 0 true false true)
      | vs => .ret (.slg vs true)
    | false => .ret (.slg vs false)
  | v => .ret v
def etOf2 (T : Tab) (t : TypeId) : Option ET := match etOf T.P t with
  | some x => some x
  | none => match T.il with
    | false => none
    | true => match desc T.P t with
      | .slice e => match desc T.P e with
        | .int k => some (.ilist k)
        | _ => none
      | _ => none
def typeNil (T : Tab) (t : TypeId) (v : AV) : AV := match v with
  | .sc (.slice none 0 0) => match T.il with
    | false => .sc (.slice none 0 0)
    | true => match desc T.P t with
      | .slice e => match etOf2 T e with
        | some x => .sl x [] true
        | none => .slg [] true
      | _ => .sc (.slice none 0 0)
  | v => v
def slNil (v : AV) : AV := match v with
  | .sc (.slice none 0 0) => .slg [] true
  | v => v
def mapH {α β : Type} (f : α → HP β) : List α → HP (List β)
  | [] => .ret []
  | a :: l => (f a).bind fun b => (mapH f l).bind fun bs => .ret (b :: bs)
def single : AV → Bool
  | .run _ _ => false
  | _ => true
def rowTy (row : Row) : Option TypeId := match row.vr with
  | true => some row.ty
  | false => none
def dropTake {α : Type} (l : List α) (i len : Nat) : List α := match i with
  | 0 => l.take len
  | i + 1 => (l.drop (i + 1)).take len
def part (c : List AV) (s i len : Nat) (whole : Bool) : HP AV :=
  match whole with
  | true => match c with
    | [.run e l] => .ret (.sl e l false)
    | c => match c.all single with
      | true => .ret (.slg c false)
      | false => .fail
  | false => match c[s]? with
    | some (.run e l) => .chk (decide (i + len ≤ l.length)) (.ret (.sl e (dropTake l i len) false))
    | some _ => match c.all single, i with
      | true, 0 => .ret (.slg ((c.drop s).take len) false)
      | _, _ => .fail
    | none => .fail
def norm : Nat → AV → HP (AV × List Nat)
  | 0, _ => .fail
  | n + 1, v => match v with
    | .sc x => .ret (.sc x, [])
    | .sl e l _ => .ret (.sl e l false, [])
    | .slg vs _ => .ret (.slg vs false, [])
    | .pt c ty s i j => .ret (.pt c ty s i j, [])
    | .os r s i len whole _ _ => .rd r fun row => match row.loose with
      | false => (part row.c s i len whole).bind fun v => .ret (v, [r])
      | true => (mapH (norm n) row.c).bind fun ps => (part (ps.map (·.1)) s i len whole).bind fun v => .ret (v, r :: (ps.map (·.2)).flatten)
    | .ps r s i j => .rd r fun row => .chk (Nat.blt s row.c.length) (match row.loose with
      | false => .ret (.pt row.c (rowTy row) s i j, [r])
      | true => (mapH (norm n) row.c).bind fun ps => .ret (.pt (ps.map (·.1)) (rowTy row) s i j, r :: (ps.map (·.2)).flatten))
    | .agg c false => .ret (.agg c false, [])
    | .agg c true => (mapH (norm n) c).bind fun ps => .ret (.agg (ps.map (·.1)) false, (ps.map (·.2)).flatten)
    | .run e l => .ret (.run e l, [])
    | .fn f first caps => (mapH (norm n) first).bind fun ps => (mapH (norm n) caps).bind fun qs =>
        .ret (.fn f (ps.map (·.1)) (qs.map (·.1)), (ps.map (·.2)).flatten ++ (qs.map (·.2)).flatten)
    | .iface t v => .ret (.iface t v, [])
    | .tuple vs => (mapH (norm n) vs).bind fun ps => .ret (.tuple (ps.map (·.1)), (ps.map (·.2)).flatten)
    | .dead => .ret (.dead, [])
def killKin {α : Type} (row : Row) (p : HP α) : HP α := match row.kin with
  | none => p
  | some q => .kill q.1 p
def killAll {α : Type} : List Nat → HP α → HP α
  | [], p => p
  | r :: l, p => .kill r (killAll l p)
def rdAll {α : Type} : List Nat → HP α → HP α
  | [], p => p
  | r :: l, p => .rd r fun _ => rdAll l p
def freezeR : List Nat → HP Unit
  | [] => .ret ()
  | r :: l => .rd r fun row => killKin row (.wr r (some { row with fz := true, kin := none }) (freezeR l))
def normF (v : AV) : HP AV := (norm 6 v).bind fun p => (freezeR p.2).bind fun _ => .ret p.1
def comp : (e : ET) → e.T → Nat → HP AV
  | .pair k, p, 0 => .ret (.sc (.int k p.1))
  | .pair k, p, 1 => .ret (.sc (.int k p.2))
  | .pair _, _, _ => .fail
  | e, x, 0 => .ret (elemV e x)
  | _, _, _ => .fail
def getAt (c : List AV) (s i j : Nat) : HP AV :=
  match c[s]? with
  | some (.run e l) => .opt e.T (l[i]?) fun x => comp e x j
  | some v => match i, j with
    | 0, 0 => .ret v
    | _, _ => .fail
  | none => .fail
def oneCell : AV → Bool
  | .run _ _ => false
  | .agg _ _ => false
  | .tuple _ => false
  | .dead => false
  | .sc (.agg _) => false
  | .sc (.tuple _) => false
  | _ => true
def zOf : AV → Nat
  | .run e _ => e.size
  | _ => 1
def cellOK : AV → Bool
  | .run _ _ => true
  | v => oneCell v
def cellsOK (c : List AV) : Bool := c.all cellOK
def setPair (k : IntKind) (p : Int × Int) (j : Nat) (v : AV) : Option (Int × Int) := match v with
  | .sc (.int k' a) => match j with
    | 0 => cond (decide (k = k')) (some (a, p.2)) none
    | 1 => cond (decide (k = k')) (some (p.1, a)) none
    | _ => none
  | _ => none
def setOne (e : ET) (j : Nat) (v : AV) : Option e.T := match j with
  | 0 => elemOfV e v
  | _ => none
def setComp : (e : ET) → e.T → Nat → AV → Option e.T
  | .pair k, p, j, v => setPair k p j v
  | .int k, _, j, v => setOne (.int k) j v
  | .bool, _, j, v => setOne .bool j v
  | .str, _, j, v => setOne .str j v
  | .ilist k, _, j, v => setOne (.ilist k) j v
def setAt (c : List AV) (s i j : Nat) (v : AV) : HP (List AV) :=
  match c[s]? with
  | some (.run e l) => .opt e.T (l[i]?) fun x => match setComp e x j v with
    | some y => .ret (c.set s (.run e (l.set i y)))
    | none => .fail
  | some _ => match oneCell v, i, j with
    | true, 0, 0 => .ret (c.set s v)
    | _, _, _ => .fail
  | none => .fail
def segSize : AV → Nat
  | .run e l => l.length * e.size
  | _ => 1
def segSizes (P : Program) (t : TypeId) : List Nat := ((zeroC P 8 t).getD []).map segSize
def isAggT (P : Program) (t : TypeId) : Option Bool := match P.underlying t with
  | none => none
  | some d => match d with
    | .struct _ => some true
    | .array _ _ => some true
    | _ => some false
def pairAt (l : List (Int × Int)) (i : Nat) : Option (Int × Int) := l[i]?
def wholeT (P : Program) (t : TypeId) (ty : Option TypeId) (s : Nat) : Bool := match ty with
  | some u => decide (segSizes P t = ((segSizes P u).drop s).take (segSizes P t).length) && decide ((segSizes P t).sum = szOf P t) && Nat.blt s (segSizes P u).length
  | none => false
def loadC (P : Program) (t : TypeId) (c : List AV) (ty : Option TypeId) (loose : Bool) (s i j : Nat) : HP AV :=
  match isAggT P t with
  | none => .fail
  | some false => getAt c s i j
  | some true => match wholeT P t ty s with
    | true => match i, j with
      | 0, 0 => let sub := (c.drop s).take (segSizes P t).length
        .ret (.agg sub (match loose with | false => false | true => sub.any fun v => !tree v))
      | _, _ => .fail
    | false => match c[s]? with
      | some (.run e l) => match e, l with
        | .pair k, l => match j, decide (szOf P t = 2) with
          | 0, true => .opt (Int × Int) (pairAt l i) fun p => .ret (.agg [.run (.int k) ([p.1, p.2] : List Int)] false)
          | _, _ => .fail
        | .ilist _, _ => .fail
        | e, l => match j with
          | 0 => .chk (decide (szOf P t + i ≤ l.length)) (.ret (.agg [.run e ((l.drop i).take (szOf P t))] false))
          | _ => .fail
      | _ => .fail
def storeC (P : Program) (t : TypeId) (c : List AV) (ty : Option TypeId) (s i j : Nat) (v : AV) : HP (List AV) :=
  match isAggT P t with
  | none => .fail
  | some false => match decide (szOf P t = 1) with
    | true => setAt c s i j v
    | false => .fail
  | some true => match wholeT P t ty s with
    | true => match v, i, j with
      | .agg c' _, 0, 0 => match decide (c'.length = (segSizes P t).length) && decide (c'.map zOf = ((c.drop s).take c'.length).map zOf) && cellsOK c' with
        | true => .chk (decide (c'.map segSize = segSizes P t)) (.ret (c.take s ++ (c' ++ c.drop (s + c'.length))))
        | false => .fail
      | _, _, _ => .fail
    | false => match v, c[s]? with
      | .agg [.run (.int k') l'] _, some (.run (.pair k) l) => match j, (l' : List Int) with
        | 0, [a, b] => match decide (k = k'), decide (szOf P t = 2) with
          | true, true => .opt (Int × Int) (pairAt l i) fun _ => .ret (c.set s (.run (.pair k) (List.set (α := Int × Int) l i (a, b))))
          | _, _ => .fail
        | _, _ => .fail
      | _, _ => .fail
def load (t : TypeId) (a : AV) : HP AV := match a with
  | .pt c ty s i j => loadC T.P t c ty false s i j
  | .ps r s i j => .rd r fun row => loadC T.P t row.c (rowTy row) row.loose s i j
  | _ => .fail
def storeVal (r s : Nat) (v : AV) : HP AV := .rd r fun row => match row.c[s]? with
  | some (.run (.ilist _) _) => normF v
  | _ => nilRow v
def store (t : TypeId) (a v : AV) : HP Unit := match a with
  | .ps r s i j => (storeVal r s v).bind fun v => .rd r fun row => match row.fz with
    | true => .fail
    | false => (storeC T.P t row.c (rowTy row) s i j v).bind fun c =>
      killKin row (.wr r (some { row with c := c, loose := (match row.loose with | true => true | false => !tree v), kin := none }) (.ret ()))
  | _ => .fail
def fits (P : Program) (t : TypeId) (c : List AV) (p : HP AV) : HP AV :=
  match decide (c.length = (segSizes P t).length) && (c.all fun | .run e _ => decide (e.size = 1) | v => oneCell v) with
  | true => .chk (decide (c.map segSize = segSizes P t)) p
  | false => .fail
def boxV (t : TypeId) (v : AV) : HP AV :=
  match v with
  | .agg c false => fits T.P t c (.new { c := c, vr := true, ty := t, fz := false, loose := false } fun r => .ret (.ps r 0 0 0))
  | .agg c true => (mapH nilRow c).bind fun c => fits T.P t c (.new { c := c, vr := true, ty := t, fz := false, loose := true } fun r => .ret (.ps r 0 0 0))
  | v => (nilRow v).bind fun v => fits T.P t [v] (.new { c := [v], vr := true, ty := t, fz := false, loose := !tree v } fun r => .ret (.ps r 0 0 0))
def flatZ : AV → List Value
  | .sc v => [v]
  | .run e l => match e, l with
    | .int k, l => (l : List Int).map (.int k)
    | .bool, l => (l : List Bool).map .bool
    | .str, l => (l : List ByteArray).map .string
    | .pair k, l => ((l : List (Int × Int)).map fun p => [Value.int k p.1, Value.int k p.2]).flatten
    | .ilist _, _ => [.tuple #[]]
  | .sl _ l _ => match l with
    | [] => [.slice none 0 0]
    | _ => [.tuple #[]]
  | .slg vs _ => match vs with
    | [] => [.slice none 0 0]
    | _ => [.tuple #[]]
  | _ => [.tuple #[]]
def sameV : Value → Value → Bool
  | .int k a, .int k' b => decide (k = k') && decide (a = b)
  | .bool a, .bool b => a == b
  | .string a, .string b => decide (a.data = b.data)
  | .pointer none, .pointer none => true
  | .slice none 0 0, .slice none 0 0 => true
  | .nilFunc, .nilFunc => true
  | .nilIface, .nilIface => true
  | _, _ => false
def sameVs : List Value → List Value → Bool
  | [], [] => true
  | a :: l, b :: l' => sameV a b && sameVs l l'
  | _, _ => false
def zeroT (P : Program) (t : TypeId) : Option (List AV) := match zeroC P 8 t with
  | some c => match P.info? t with
    | some i => match i.zero with
      | some z => match sameVs ((c.map flatZ).flatten) z.cells.toList && decide (i.size = (c.map segSize).sum) with
        | true => some c
        | false => none
      | none => none
    | none => none
  | none => none
def allocV (t : TypeId) : HP AV := match zeroT T.P t with
  | some c => boxV T t (.agg c (c.any fun v => !tree v))
  | none => .fail
def ixB (v : AV) (n : Nat) (k : Nat → HP AV) : HP AV := match v with
  | .sc (.int _ i) => .chk (decide (0 ≤ i)) (.chk (decide (i < (n : Int))) (k i.toNat))
  | _ => .fail
def stepIn (P : Program) (e : TypeId) (c : List AV) (s i : Nat) (slice : Bool) (x : Nat) (k : Nat → Nat → Nat → HP AV) : HP AV :=
  match c[s]? with
  | some (.run q _) => match q with
    | .pair _ => match slice with
      | true => match decide (szOf P e = 2) with
        | true => k s (x + i) 0
        | false => .fail
      | false => match decide (szOf P e = 1) with
        | true => k s i x
        | false => .fail
    | _ => match szOf P e with
      | 1 => k s (x + i) 0
      | m => match slice || decide (m = 0) with
        | false => k s (x * m + i) 0
        | true => .fail
  | some _ => match c.all single && decide (szOf P e = 1), i with
    | true, 0 => .chk (decide (x + s < c.length)) (k (x + s) 0 0)
    | _, _ => .fail
  | none => .fail
def isArrT (P : Program) (e : TypeId) : Bool := match desc P e with
  | .array _ _ => true
  | _ => false
def indexAddr (t : TypeId) (x ix : AV) : HP AV :=
  match desc T.P t with
  | .slice e => match x with
    | .os r s i len _ _ _ => ixB ix len fun n => .rd r fun row => stepIn T.P e row.c s i true n fun s i j => .ret (.ps r s i j)
    | .sl k l _ => ixB ix l.length fun n => match decide (szOf T.P e = k.size) with
      | true => .ret (.pt [.run k l] none 0 n 0)
      | false => .fail
    | .slg vs _ => ixB ix vs.length fun n => match decide (szOf T.P e = 1) with
      | true => .ret (.pt vs none n 0 0)
      | false => .fail
    | _ => .fail
  | .array n e => match x with
    | .ps r s i j => match T.nest with
      | true => ixB ix n fun x => match isArrT T.P e with
        | true => match Nat.blt 0 (szOf T.P e) with
          | true => .ret (.ps r s i (x * szOf T.P e + j))
          | false => .fail
        | false => .rd r fun row => match row.c[s]? with
          | some (.run q _) => match decide (szOf T.P e = 1) && decide (q.size = 1) with
            | true => .ret (.ps r s (x + (j + i)) 0)
            | false => .fail
          | _ => match j with
            | 0 => stepIn T.P e row.c s i true x fun s i j => .ret (.ps r s i j)
            | _ => .fail
      | false => match j with
        | 0 => ixB ix n fun n => .rd r fun row => stepIn T.P e row.c s i false n fun s i j => .ret (.ps r s i j)
        | _ => .fail
    | .pt c ty s i 0 => ixB ix n fun n => stepIn T.P e c s i false n fun s i j => .ret (.pt c ty s i j)
    | _ => .fail
  | _ => .fail
def fieldAddr (t : TypeId) (x : AV) (f : Nat) : HP AV :=
  match desc T.P t with
  | .struct fs => match fs.toList[f]? with
    | some g =>
      let k := fieldSeg T.P fs.toList f
      match decide (((segSizes T.P t).take k).sum = g.offset) && Nat.blt k (segSizes T.P t).length && Nat.blt 0 (szOf T.P g.type) with
      | true => match x with
        | .ps r s 0 0 => .rd r fun row => match wholeT T.P t (rowTy row) s with
          | true => .ret (.ps r (k + s) 0 0)
          | false => .fail
        | .pt c ty s 0 0 => match wholeT T.P t ty s with
          | true => .ret (.pt c ty (k + s) 0 0)
          | false => .fail
        | _ => .fail
      | false => .fail
    | none => .fail
  | _ => .fail
def index (t : TypeId) (x ix : AV) : HP AV :=
  match desc T.P t, x with
  | .array n e, .agg [.run k l] _ => match szOf T.P e, isAggT T.P e, decide (k.size = 1) with
    | 1, some false, true => ixB ix n fun i => .opt k.T (l[i]?) fun y => .ret (elemV k y)
    | _, _, _ => .fail
  | .array n e, .agg c _ => match szOf T.P e, isAggT T.P e, c.all single with
    | 1, some false, true => ixB ix n fun i => .opt AV (c[i]?) fun y => .ret y
    | _, _, _ => .fail
  | .string, .sc (.string s) => match ix with
    | .sc (.int _ i) => .chk (decide (0 ≤ i)) (.opt UInt8 (s[i.toNat]?) fun b => .ret (.sc (.int .u8 b.toNat)))
    | _ => .fail
  | _, _ => .fail
def asI (v : AV) : Option Int := match v with
  | .sc (.int _ n) => some n
  | _ => none
def bnds (len : Nat) (lo hi : Option AV) (k : Option Nat → Option Nat → HP AV) : HP AV :=
  match lo.map asI, hi.map asI with
  | none, none => k none none
  | some (some a), none => .chk (decide (0 ≤ a)) (.chk (decide (a ≤ (len : Int))) (k (some a.toNat) none))
  | none, some (some b) => .chk (decide (0 ≤ b)) (.chk (decide (b ≤ (len : Int))) (k none (some b.toNat)))
  | some (some a), some (some b) => .chk (decide (0 ≤ a)) (.chk (decide (a ≤ b)) (.chk (decide (b ≤ (len : Int))) (k (some a.toNat) (some b.toNat))))
  | _, _ => .fail
def mxB (il nest : Bool) (len : Nat) (hi mx : Option AV) (k : Bool → HP AV) : HP AV := match mx with
  | none => k false
  | some m => match asI m, hi.map asI with
    | some c, some (some b) => match il with
      | true => match nest with
        | false => .chk (decide (c = b)) (k true)
        | true => .tree Bool (.br (decide (c = b)) (.leaf true) (.br (decide (b ≤ c) && decide (c ≤ (len : Int))) (.leaf false) .fail)) k
      | false => .chk (decide (b ≤ c)) (.chk (decide (c ≤ (len : Int))) (k (decide (c = b))))
    | _, _ => .fail
def cutL {α : Type} (l : List α) : Option Nat → Option Nat → List α
  | none, none => l
  | some a, none => l.drop a
  | none, some b => l.take b
  | some a, some b => (l.take b).drop a
def wholeIf (il whole : Bool) (mx : Option AV) (b len : Nat) : Bool := match il with
  | true => false
  | false => match mx with
    | some _ => false
    | none => match decide (b = len) with
      | true => whole
      | false => false
def tightIf (il tight th : Bool) (mx : Option AV) (b len : Nat) : Bool := match il with
  | true => th
  | false => match mx with
    | some _ => th
    | none => match decide (b = len) with
      | true => tight
      | false => th
def keepF (full : Bool) (mx : Option AV) : Bool := match mx with
  | none => full
  | some _ => false
def osDrop (e : TypeId) (r s i n : Nat) (k : Nat → Nat → HP AV) : HP AV := .rd r fun row => match row.c[s]? with
  | some (.run q _) => match decide (szOf T.P e = q.size) with
    | true => k (n + i) s
    | false => .fail
  | some _ => match row.c.all single && decide (szOf T.P e = 1), i with
    | true, 0 => .chk (decide (n + s ≤ row.c.length)) (k 0 (n + s))
    | _, _ => .fail
  | none => .fail
def extendTo (il full : Bool) (len : Nat) (hi mx : Option AV) : Option Nat := match il with
  | true => none
  | false => match full, hi, mx with
    | true, some (.sc (.int _ b)), none => match decide ((len : Int) < b) with
      | true => some b.toNat
      | false => none
    | _, _, _ => none
def sliceExt (e : TypeId) (r s i b : Nat) (lo : Option AV) : HP AV := .rd r fun row => match row.c[s]? with
  | some (.run q l) => match decide (szOf T.P e = q.size) with
    | true => .chk (decide (i + b ≤ l.length)) (match lo.map asI with
      | none => .ret (.os r s i b false false true)
      | some (some a) => .chk (decide (0 ≤ a)) (.chk (decide (a ≤ (b : Int))) (.ret (.os r s (a.toNat + i) (b - a.toNat) false false true)))
      | some none => .fail)
    | false => .fail
  | _ => .fail
def extB (ext full : Bool) (len : Nat) (hi mx : Option AV) (k : Nat → HP AV) (p : HP AV) : HP AV := match ext, full, hi, mx with
  | true, true, some (.sc (.int _ b)), none => .tree Bool (.br (decide ((len : Int) < b)) (.leaf true) (.leaf false)) fun x => match x with
    | true => k b.toNat
    | false => p
  | _, _, _, _ => p
def sliceV (t : TypeId) (x : AV) (lo hi mx : Option AV) : HP AV :=
  match desc T.P t, x with
  | .array n e, .ps r s i 0 => .rd r fun row => match szOf T.P e, row.c[s]? with
    | 1, some (.run k l) => match decide (k.size = 1), mx with
      | true, none => bnds n lo hi fun a b => .chk (decide (n + i ≤ l.length)) (.ret (match a, b with
        | none, none => .os r s i n false false false
        | none, some b => .os r s i b false false false
        | some a, none => .os r s (a + i) (n - a) false false false
        | some a, some b => .os r s (a + i) (b - a) false false false))
      | _, _ => .fail
    | _, _ => .fail
  | .array n e, .pt c _ s i 0 => match szOf T.P e, c[s]? with
    | 1, some (.run k l) => match decide (k.size = 1), mx with
      | true, none => bnds n lo hi fun a b => .chk (decide (n + i ≤ l.length)) (.ret (.sl k (cutL ((l.drop i).take n) a b) false))
      | _, _ => .fail
    | _, _ => .fail
  | .slice e, .os r s i len whole tight full => match extendTo T.il full len hi mx with
    | some b => sliceExt T e r s i b lo
    | none => extB T.ext full len hi mx (fun b => sliceExt T e r s i b lo) (match decide (szOf T.P e = 0) with
    | true => .fail
    | false => bnds len lo hi fun a b => mxB T.il T.ext len hi mx fun th => (match a, b with
      | none, none => .ret (.os r s i len whole tight (keepF full mx))
      | none, some b => .ret (.os r s i b (wholeIf T.il whole mx b len) (tightIf T.il tight th mx b len) (keepF full mx))
      | some a, none => osDrop T e r s i a fun i s => .ret (.os r s i (len - a) false tight (keepF full mx))
      | some a, some b => osDrop T e r s i a fun i s => .ret (.os r s i (b - a) false th (keepF full mx))))
  | .slice e, .sl k l tight => match decide (szOf T.P e = k.size) with
    | true => bnds l.length lo hi fun a b => mxB T.il T.ext l.length hi mx fun th => .ret (.sl k (cutL l a b) (match b with
      | none => tight
      | some b => tightIf T.il tight th mx b l.length))
    | false => .fail
  | .slice e, .slg vs tight => match decide (szOf T.P e = 1) with
    | true => bnds vs.length lo hi fun a b => mxB T.il T.ext vs.length hi mx fun th => .ret (.slg (cutL vs a b) (match b with
      | none => tight
      | some b => tightIf T.il tight th mx b vs.length))
    | false => .fail
  | .string, .sc (.string s) => match mx with
    | none => bnds s.size lo hi fun a b => .ret (.sc (.string (s.extract (a.getD 0) (b.getD s.size))))
    | some _ => .fail
  | _, _ => .fail
def sliceN (t : TypeId) (x : AV) (lo hi mx : Option AV) : HP AV := match T.flat, x with
  | true, .ps r s 0 j => .rd r fun row => match row.c[s]? with
    | some (.run k l) => match decide (k.size = 1) with
      | true => sliceV T t (.ps r s j 0) lo hi mx
      | false => .fail
    | _ => .fail
  | _, x => sliceV T t x lo hi mx
def pairSl (t : TypeId) (v : AV) : Option IntKind := match T.nest with
  | false => none
  | true => match desc T.P t with
    | .array _ e => match etOf T.P e with
      | some (.pair k) => match v with
        | .ps _ _ _ 0 => some k
        | _ => none
      | _ => none
    | _ => none
def pairUp (n : Nat) (l : List Int) : List (Int × Int) := (List.range n).map fun i => (l.getD (i * 2) 0, l.getD (i * 2 + 1) 0)
def pairSlice (t : TypeId) (k : IntKind) (v : AV) (lo hi mx : Option AV) : HP AV := (normF v).bind fun v => match desc T.P t, v, mx with
  | .array n e, .pt c _ s 0 0, none => match c[s]? with
    | some (.run (.int k') l) => match decide (szOf T.P e = 2) && decide (k = k') with
      | true => bnds n lo hi fun a b => .chk (decide (n * 2 ≤ (l : List Int).length)) (.ret (.sl (.pair k) (cutL (pairUp n l) a b) false))
      | false => .fail
    | _ => .fail
  | _, _, _ => .fail
def elemsOfV (e : ET) : List AV → Option (List e.T)
  | [] => some []
  | v :: l => match elemOfV e v, elemsOfV e l with
    | some x, some xs => some (x :: xs)
    | _, _ => none
def appended (y : AV) : HP AV := match y with
  | .os _ _ _ _ _ _ _ => normF y
  | y => .ret y
def slLen : AV → Nat
  | .sl _ l _ => l.length
  | .slg vs _ => vs.length
  | _ => 0
def castL : (q q' : ET) → List q'.T → Option (List q.T)
  | .int k, .int k', l => cond (decide (k = k')) (some l) none
  | .bool, .bool, l => some l
  | .str, .str, l => some l
  | .pair k, .pair k', l => cond (decide (k = k')) (some l) none
  | .ilist k, .ilist k', l => cond (decide (k = k')) (some l) none
  | _, _, _ => none
def joined (c : List AV) (y : AV) : Option (List AV) :=
  match y with
  | .sl e' l' _ => match c with
    | [] => match decide (e'.size = 1) with
      | true => some [.run e' l']
      | false => none
    | [.run e l] => match castL e e' l' with
      | some x => some [.run e (l ++ x)]
      | none => none
    | _ => none
  | .slg vs _ => match c.all single && vs.all oneCell with
    | true => some (c ++ vs)
    | false => none
  | _ => none
def newSl (c : List AV) (len : Nat) (e : TypeId) (fz loose : Bool) : HP AV :=
  .new { c := c, vr := false, ty := e, fz := fz, loose := loose } fun r => .ret (.os r 0 0 len true false true)
def growR (r : Nat) (row : Row) (c : List AV) (len : Nat) (e : TypeId) (loose : Bool) : HP AV :=
  killKin row (.new { c := c, vr := false, ty := e, fz := row.fz, loose := loose, kin := some (r, true) } fun i => .wr r (some { row with kin := some (i, false) }) (.ret (.os i 0 0 len true false true)))
def elemOK (P : Program) (e : TypeId) (c : List AV) : Bool := (match c with
  | [.run q _] => decide (szOf P e = q.size)
  | _ => decide (szOf P e = 1)) && (zeroT P e).isSome
def appWhole (e : TypeId) (r len : Nat) (y : AV) : HP AV := .rd r fun row => match elemOK T.P e row.c, joined row.c y with
  | true, some c => .chk (room (len + slLen y) (T.P.bytesOf e)) (growR r row c (len + slLen y) e row.loose)
  | _, _ => .fail
def appPart (e : TypeId) (r s i len : Nat) (tight : Bool) (y : AV) : HP AV := .chk tight (.chk (decide (0 < slLen y)) (.rd r fun row => match row.loose with
  | true => .fail
  | false => (part row.c s i len false).bind fun p => match p with
    | .sl e' l _ => match elemOK T.P e [.run e' l], joined [.run e' l] y with
      | true, some c => .chk (room (len + slLen y) (T.P.bytesOf e)) (newSl c (len + slLen y) e false false)
      | _, _ => .fail
    | _ => .fail))
def appSl (e : TypeId) (e' : ET) (l : List e'.T) (tight : Bool) (y : AV) : HP AV := .chk tight (match elemOK T.P e [.run e' l], joined [.run e' l] y with
  | true, some c => .chk (cond (decide (0 < slLen y)) true l.isEmpty) (.chk (room (l.length + slLen y) (T.P.bytesOf e)) (newSl c (l.length + slLen y) e false false))
  | _, _ => .fail)
def appSlg (e : TypeId) (vs : List AV) (tight : Bool) (y : AV) : HP AV := .chk tight (match elemOK T.P e vs, joined vs y with
  | true, some c => .chk (cond (decide (0 < slLen y)) true vs.isEmpty) (.chk (room (vs.length + slLen y) (T.P.bytesOf e)) (newSl c (vs.length + slLen y) e false false))
  | _, _ => .fail)
def appNil (e : TypeId) (vs : List AV) (tight : Bool) (y : AV) : HP AV := match vs, y with
  | [], .sl q l t => appSl T e q [] tight (.sl q l t)
  | vs, y => appSlg T e vs tight y
def handy (c : List AV) (s : Nat) : Bool := match c with
  | [] => false
  | c => Nat.ble s c.length && c.all oneCell
def isOs (il : Bool) (y : AV) : Option (Nat × Nat × Nat) := match il with
  | true => none
  | false => match y with
    | .os r s 0 len _ _ _ => some (r, s, len)
    | _ => none
def over {α : Type} (l : List α) (i n : Nat) (l' : List α) : List α := l.take i ++ l'.take n ++ l.drop (i + n)
def appIn (e : TypeId) (r s i len : Nat) (y : AV) : HP AV := (norm 6 y).bind fun y => .rd r fun row => match row.fz, row.c[s]?, y.1 with
  | false, some (.run q l), .sl q' l' _ => match decide (szOf T.P e = q.size), flatE q, castL q q' l' with
    | true, true, some x => .chk (decide (i + len + x.length ≤ l.length)) (killKin row (.wr r (some { row with c := row.c.set s (.run q (over l (i + len) x.length x)), kin := none }) (.ret (.os r s i (len + x.length) false false true))))
    | _, _, _ => .fail
  | _, _, _ => .fail
def appInH (e : TypeId) (r s len : Nat) (y : AV) : HP AV := match isOs false y with
  | none => .fail
  | some (ry, sy, ly) => .rd ry fun rowy => match handy rowy.c sy && decide (szOf T.P e = 1) with
    | false => .fail
    | true => .rd r fun row => match row.fz, row.c.all single with
      | false, true => .chk (decide (s + len + ly ≤ row.c.length ∧ 0 < ly)) (killKin row (.wr r (some { row with c := row.c.take (s + len) ++ ((rowy.c.drop sy).take ly ++ row.c.drop (s + len + ly)), loose := true, kin := none }) (.ret (.os r s 0 (len + ly) false false true))))
      | _, _ => .fail
def inRow (il : Bool) (x : AV) : Option (Nat × Nat × Nat × Nat) := match il with
  | true => none
  | false => match x with
    | .os r s i len false false true => some (r, s, i, len)
    | _ => none
def appH (e : TypeId) (vs : List AV) (n : Nat) (x : AV) : HP AV := match decide (szOf T.P e = 1) && (zeroT T.P e).isSome with
  | false => .fail
  | true => match x with
    | .os r 0 0 len true _ _ => .rd r fun row => match row.c.all single with
      | true => .chk (room (len + n) (T.P.bytesOf e)) (growR r row (row.c ++ vs) (len + n) e true)
      | false => .fail
    | .slg [] true => .chk (decide (0 < n)) (.chk (room n (T.P.bytesOf e)) (newSl vs n e false true))
    | _ => .fail
def appOld (e : TypeId) (x y : AV) : HP AV := (appended y).bind fun y => match x with
  | .os r s i len true _ _ => appWhole T e r len y
  | .os r s i len false tight _ => appPart T e r s i len tight y
  | .sl e' l tight => appSl T e e' l tight y
  | .slg vs tight => appNil T e vs tight y
  | _ => .fail
def appendV (e : TypeId) (x y : AV) : HP AV := match inRow (T.il && !T.ext) x with
  | some (r, s, i, len) => .rd r fun row => match row.c.all single, i with
    | true, 0 => appInH T e r s len y
    | _, _ => appIn T e r s i len y
  | none => match isOs T.il y with
    | some (ry, sy, ly) => .rd ry fun rowy => match handy rowy.c sy with
      | true => appH T e ((rowy.c.drop sy).take ly) ly x
      | false => appOld T e x y
    | none => appOld T e x y
def keepsH (T : Tab) : Bool := match T.il with
  | true => false
  | false => true
def buildSl (t : TypeId) (len : Nat) (parts : List (Nat × AV)) : HP AV :=
  match desc T.P t with
  | .slice e => match decide (parts.map (·.1) = List.range len) && decide (len * szOf T.P e ≤ 16777216), zeroT T.P e with
    | true, some _ => match keepsH T with
      | true => match etOf2 T e with
        | some x => match elemsOfV x (parts.map (·.2)), decide (szOf T.P e = x.size) with
          | some l, true => .new { c := [.run x l], vr := false, ty := e, fz := false, loose := false } fun r => .ret (.os r 0 0 len true true true)
          | _, _ => .fail
        | none => match decide (szOf T.P e = 1) && (parts.map (·.2)).all oneCell with
        | true => .new { c := parts.map (·.2), vr := false, ty := e, fz := false, loose := true } fun r => .ret (.os r 0 0 len true true true)
        | false => .fail
      | false => (mapH normF (parts.map (·.2))).bind fun vs => match etOf2 T e with
      | some x => match elemsOfV x vs, decide (szOf T.P e = x.size) with
        | some l, true => .ret (.sl x l true)
        | _, _ => .fail
      | none => match decide (szOf T.P e = 1) && vs.all oneCell with
        | true => .ret (.slg vs true)
        | false => .fail
    | _, _ => .fail
  | _ => .fail
def fillP (P : Program) (t : TypeId) : List (Nat × AV) → List AV → HP (List AV)
  | [], c => .ret c
  | p :: l, c => match desc P t with
    | .struct fs => match fs.toList[p.1]? with
      | some g =>
        let s := fieldSeg P fs.toList p.1
        let ts := segSizes P g.type
        let w := contentOf p.2
        match decide (((segSizes P t).take s).sum = g.offset) && decide (ts = ((segSizes P t).drop s).take ts.length) && decide (ts.sum = szOf P g.type) && Nat.blt s (segSizes P t).length && cellsOK w && decide (w.map zOf = ((c.drop s).take ts.length).map zOf) with
        | true => .chk (decide (w.map segSize = ts)) (fillP P t l (c.take s ++ (w ++ c.drop (s + ts.length))))
        | false => .fail
      | none => .fail
    | .array _ e => match decide (szOf P e = 1) && (match c with | [.run k _] => decide (k.size = 1) | _ => false) with
      | true => (setAt c 0 p.1 0 p.2).bind fun c => fillP P t l c
      | false =>
        let w := contentOf p.2
        match decide (szOf P e = 1) && (segSizes P t).all (fun n => decide (n = 1)) && Nat.blt p.1 (segSizes P t).length && cellsOK w && decide (w.map zOf = ((c.drop p.1).take 1).map zOf) with
        | true => .chk (decide (w.map segSize = [1])) (fillP P t l (c.take p.1 ++ (w ++ c.drop (p.1 + 1))))
        | false => .fail
    | _ => .fail
def infosOK (P : Program) (t : TypeId) : Bool := match desc P t with
  | .struct fs => fs.toList.all fun g => (P.info? g.type).isSome
  | .array _ e => (P.info? e).isSome
  | _ => false
def buildV (t : TypeId) (parts : List (Nat × AV)) : HP AV := match infosOK T.P t, zeroT T.P t with
  | true, some c => (fillP T.P t parts c).bind fun c => .ret (.agg c (c.any fun v => !tree v))
  | _, _ => .fail
def zElem : ET → List Value
  | .int k => [.int k 0]
  | .bool => [.bool false]
  | .str => [.string ⟨#[]⟩]
  | .pair k => [.int k 0, .int k 0]
  | .ilist _ => [.slice none 0 0]
def zeroIs (P : Program) (e : TypeId) (vs : List Value) : Bool := match P.info? e with
  | some i => match i.zero with
    | some z => sameVs vs z.cells.toList && decide (i.size = vs.length)
    | none => false
  | none => false
def makeSl (t : TypeId) (n m : AV) : HP AV :=
  match desc T.P t, asI n, asI m with
  | .slice e, some a, some b => .chk (decide (0 ≤ a)) (.chk (decide (a = b)) (.chk (room a.toNat (T.P.bytesOf e)) (match zeroT T.P e, etOf2 T e with
    | some _, some x => match zeroIs T.P e (zElem x) with
      | true => .new { c := [.run x (List.replicate a.toNat (zeroE x))], vr := false, ty := e, fz := false, loose := false } fun r => .ret (.os r 0 0 a.toNat true true true)
      | false => .fail
    | some [z], none => match decide (szOf T.P e = 1) && oneCell z with
      | true => .new { c := List.replicate a.toNat z, vr := false, ty := e, fz := false, loose := true } fun r => .ret (.os r 0 0 a.toNat true true true)
      | false => .fail
    | _, _ => .fail)))
  | _, _, _ => .fail
def eqV (P : Program) (t : TypeId) (x y : AV) : HP Bool :=
  match desc P t, x, y with
  | .bool, .sc (.bool a), .sc (.bool b) => .ret (a == b)
  | .string, .sc (.string a), .sc (.string b) => .ret (a == b)
  | .array n d, .agg [.run e l] _, .agg [.run e' l'] _ => match desc P d, decide (szOf P d = 1), e, e', l, l' with
    | .int _, true, .int k, .int k', l, l' => match decide (k = k') with
      | true => .chk (decide (l.length = n)) (.chk (decide (l'.length = n)) (.ret (l == l')))
      | false => .fail
    | .bool, true, .bool, .bool, l, l' => .chk (decide (l.length = n)) (.chk (decide (l'.length = n)) (.ret (l == l')))
    | _, _, _, _, _, _ => .fail
  | .pointer _, .sc (.pointer none), .sc (.pointer none) => .ret true
  | .pointer _, .sc (.pointer none), .ps _ _ _ _ => .ret false
  | .pointer _, .ps _ _ _ _, .sc (.pointer none) => .ret false
  | .pointer _, .sc (.pointer none), .pt _ _ _ _ _ => .ret false
  | .pointer _, .pt _ _ _ _ _, .sc (.pointer none) => .ret false
  | .func _ _ _, .sc .nilFunc, .fn _ _ _ => .ret false
  | .func _ _ _, .fn _ _ _, .sc .nilFunc => .ret false
  | .func _ _ _, .sc .nilFunc, .sc .nilFunc => .ret true
  | .slice _, .sc (.slice none 0 0), .sc (.slice none 0 0) => .ret true
  | .slice _, .os _ _ _ len _ _ _, .sc (.slice none 0 0) => .chk (decide (0 < len)) (.ret false)
  | .slice _, .sl _ l _, .sc (.slice none 0 0) => .chk (decide (0 < l.length)) (.ret false)
  | .slice _, .slg vs _, .sc (.slice none 0 0) => .chk (decide (0 < vs.length)) (.ret false)
  | _, _, _ => .fail
def intOp (op : BinOp) (k : IntKind) (a : Int) (k' : IntKind) (b : Int) : HP AV := match op with
  | .shl => .chk (decide (0 ≤ b)) (.ret (.sc (.int k (k.wrap (a * 2 ^ (min b.toNat k.bits))))))
  | .shr => .chk (decide (0 ≤ b)) (.ret (.sc (.int k (a.fdiv (2 ^ (min b.toNat k.bits))))))
  | .quo => match decide (k = k') with
    | true => .chk (!decide (b = 0)) (.ret (.sc (.int k (k.wrap (a.tdiv b)))))
    | false => .fail
  | .rem => match decide (k = k') with
    | true => .chk (!decide (b = 0)) (.ret (.sc (.int k (a.tmod b))))
    | false => .fail
  | op => match binV op (.int k a) (.int k' b) with
    | some v => .ret (.sc v)
    | none => .fail
def binA (P : Program) (op : BinOp) (t : TypeId) (x y : AV) : HP AV :=
  match x, y with
  | .sc (.int k a), .sc (.int k' b) => intOp op k a k' b
  | x, y => match op with
    | .eql => (eqV P t x y).bind fun b => .ret (vb b)
    | .neq => (eqV P t x y).bind fun b => .ret (vb (!b))
    | .add => match x, y with
      | .sc (.string a), .sc (.string b) => .chk (room (a.size + b.size) 1) (.ret (.sc (.string (a ++ b))))
      | _, _ => .fail
    | _ => .fail
def idsOf : Nat → AV → List Nat
  | 0, _ => []
  | n + 1, v => match v with
    | .os r _ _ _ _ _ _ => [r]
    | .ps r _ _ _ => [r]
    | .agg c true => (c.map (idsOf n)).flatten
    | .fn _ first caps => (first.map (idsOf n)).flatten ++ (caps.map (idsOf n)).flatten
    | .tuple vs => (vs.map (idsOf n)).flatten
    | _ => []
def renV : Nat → (Nat → Nat) → AV → AV
  | 0, _, v => match v with
    | .run e l => .run e l
    | _ => .dead
  | n + 1, f, v => match v with
    | .os r s i len a b c => .os (f r) s i len a b c
    | .ps r s i j => .ps (f r) s i j
    | .agg c true => .agg (c.map (renV n f)) true
    | .fn g first caps => .fn g (first.map (renV n f)) (caps.map (renV n f))
    | .tuple vs => .tuple (vs.map (renV n f))
    | v => v
def renKin (f : Nat → Nat) (k : Option (Nat × Bool)) : Option (Nat × Bool) := match k with
  | none => none
  | some q => some (f q.1, q.2)
def renRow (f : Nat → Nat) (row : Row) : Row := match row.loose with
  | true => { row with c := row.c.map (renV 6 f), kin := renKin f row.kin }
  | false => { row with kin := renKin f row.kin }
def rowIds (H : Hp) (r : Nat) : List Nat := match H[r]? with
  | some (some row) => match row.loose with
    | true => (row.c.map (idsOf 6)).flatten
    | false => []
  | _ => []
def reach (H : Hp) : Nat → List Nat → List Nat → Option (List Nat)
  | 0, todo, seen => match todo with
    | [] => some seen
    | _ => none
  | n + 1, todo, seen => match todo with
    | [] => some seen
    | r :: todo => match seen.contains r with
      | true => reach H n todo seen
      | false => reach H n (todo ++ rowIds H r) (seen ++ [r])
def seenFrom (base : Nat) (vs : List AV) (H : Hp) : Option (List Nat) :=
  reach H 200 ((vs.map (idsOf 6)).flatten ++ ((List.range base).map (rowIds H)).flatten) (List.range base)
def renBy (seen : List Nat) (r : Nat) : Nat := seen.idxOf r
def keepKin (seen : List Nat) (k : Option (Nat × Bool)) : Option (Nat × Bool) := match k with
  | none => none
  | some q => match seen.contains q.1 with
    | true => some (renBy seen q.1, q.2)
    | false => none
def gcRow (seen : List Nat) (row : Row) : Row := { renRow (renBy seen) row with kin := keepKin seen row.kin }
def renH (seen : List Nat) (H : Hp) : Hp := seen.map fun r => match H[r]? with
  | some (some row) => some (gcRow seen row)
  | _ => none
def meets (a b : List Nat) : Bool := a.any fun x => b.contains x
def leaksV : Nat → AV → Bool
  | 0, _ => true
  | n + 1, v => match v with
    | .dead => false
    | .sc _ => false
    | .os _ _ _ _ _ _ _ => false
    | .ps _ _ _ _ => false
    | .run e _ => !flatE e
    | .sl _ l tight => match tight with
      | true => match l with
        | [] => false
        | _ => true
      | false => true
    | .slg vs tight => match tight with
      | true => match vs with
        | [] => false
        | _ => true
      | false => true
    | .agg c _ => c.any (leaksV n)
    | .tuple vs => vs.any (leaksV n)
    | .fn _ first caps => first.any (leaksV n) || caps.any (leaksV n)
    | .iface _ v => leaksV n v
    | .pt _ _ _ _ _ => true
def leaksRow (o : Option Row) : Bool := match o with
  | none => false
  | some row => row.c.any (leaksV 6)
def prepH (mask : List Nat) : Nat → List AV → HP (List (AV × List Nat))
  | _, [] => .ret []
  | n, v :: l => match mask.contains n with
    | true => (prepH mask (n + 1) l).bind fun ps => .ret ((v, []) :: ps)
    | false => (norm 6 v).bind fun p => (prepH mask (n + 1) l).bind fun ps => .ret (p :: ps)
def idsRow (row : Row) : List Nat := match row.loose with
  | true => (row.c.map (idsOf 6)).flatten
  | false => []
def reachH : Nat → List Nat → List (Nat × Row) → HP (List (Nat × Row))
  | 0, todo, seen => match todo with
    | [] => .ret seen
    | _ => .fail
  | n + 1, todo, seen => match todo with
    | [] => .ret seen
    | r :: todo => match (seen.map (·.1)).contains r with
      | true => reachH n todo seen
      | false => .rd r fun row => reachH n (todo ++ idsRow row) (seen ++ [(r, row)])
def newsH {α : Type} : Nat → (List Nat → HP α) → HP α
  | 0, k => k []
  | n + 1, k => .new { c := [], vr := false, ty := 0, fz := false, loose := false } fun r => newsH n fun l => k (r :: l)
def eqL {α : Type} (f : α → α → Bool) : List α → List α → Bool
  | [], [] => true
  | a :: l, b :: l' => cond (f a b) (eqL f l l') false
  | _, _ => false
def eqT : (q : ET) → q.T → q.T → Bool
  | .int _, a, b => decide (a = b)
  | .bool, a, b => a == b
  | .str, a, b => decide (a.data = b.data)
  | .pair _, a, b => cond (decide (a.1 = b.1)) (decide (a.2 = b.2)) false
  | .ilist _, a, b => eqL (fun x y => decide (x = y)) a b
def sameA : Nat → AV → AV → Bool
  | 0, _, _ => false
  | n + 1, a, b => match a, b with
    | .sc v, .sc v' => sameV v v'
    | .run q l, .run q' l' => match castL q q' l' with
      | some x => eqL (eqT q) l x
      | none => false
    | .sl q l t, .sl q' l' t' => match castL q q' l' with
      | some x => cond (t == t') (eqL (eqT q) l x) false
      | none => false
    | .os r s i len x y z, .os r' s' i' len' x' y' z' => Nat.beq r r' && Nat.beq s s' && Nat.beq i i' && Nat.beq len len' && x == x' && y == y' && z == z'
    | .ps r s i j, .ps r' s' i' j' => Nat.beq r r' && Nat.beq s s' && Nat.beq i i' && Nat.beq j j'
    | .agg c l, .agg c' l' => cond (l == l') (eqL (sameA n) c c') false
    | .slg c t, .slg c' t' => cond (t == t') (eqL (sameA n) c c') false
    | .dead, .dead => true
    | _, _ => false
def sameKin : Option (Nat × Bool) → Option (Nat × Bool) → Bool
  | none, none => true
  | some p, some q => Nat.beq p.1 q.1 && p.2 == q.2
  | _, _ => false
def sameRow (a b : Row) : Bool := match a.vr == b.vr && Nat.beq a.ty b.ty && a.fz == b.fz && a.loose == b.loose && sameKin a.kin b.kin with
  | true => eqL (sameA 6) a.c b.c
  | false => false
def wrAll {α : Type} (il : Bool) : List (Nat × Option Row) → HP α → HP α
  | [], p => p
  | q :: l, p => match il, q.2 with
    | false, some row => .rd q.1 fun old => match sameRow old row with
      | true => wrAll il l p
      | false => .wr q.1 (some row) (wrAll il l p)
    | _, x => .wr q.1 x (wrAll il l p)
def outK (ids : List Nat) (k : Option (Nat × Bool)) : Option (Nat × Bool) := match k with
  | none => none
  | some q => match ids.contains q.1 with
    | true => none
    | false => some q
def passRow (ids : List Nat) (row : Row) : Row := match outK ids row.kin with
  | none => renRow (renBy ids) row
  | some q => { renRow (renBy ids) row with fz := (match q.2 with | true => true | false => row.fz), kin := none }
def outsOf (b : Bool) : List (Option (Nat × Bool)) → List Nat
  | [] => []
  | o :: l => match o with
    | none => outsOf b l
    | some q => match b, q.2 with
      | true, true => q.1 :: outsOf b l
      | false, false => q.1 :: outsOf b l
      | _, _ => outsOf b l
def backRow (f : Nat → Nat) (out : Option (Nat × Bool)) (row : Row) : Row := match row.kin, out with
  | none, some (y, true) => { renRow f row with kin := some (y, true) }
  | _, _ => renRow f row
def backRows (f : Nat → Nat) : List (Option (Nat × Bool)) → Hp → Hp
  | _, [] => []
  | [], o :: H => o.map (backRow f none) :: backRows f [] H
  | out :: outs, o :: H => o.map (backRow f out) :: backRows f outs H
def lostRows : List (Option (Nat × Bool)) → Hp → List Nat
  | [], _ => []
  | out :: outs, H => match out with
    | some (y, true) => match H with
      | some row :: H => match row.kin with
        | none => lostRows outs H
        | some _ => y :: lostRows outs H
      | _ => y :: lostRows outs H.tail
    | _ => lostRows outs H.tail
def mergeH (il : Bool) (ids : List Nat) (outs : List (Option (Nat × Bool))) (q : AV × Hp) : HP AV :=
  newsH (q.2.length - ids.length) fun names =>
    let back : Nat → Nat := fun i => (ids ++ names).getD i 0
    wrAll il ((ids ++ names).zip (backRows back outs q.2)) (killAll (lostRows outs q.2) (.ret (renV 6 back q.1)))
def callH (f : FuncId) (args : List AV) : HP AV :=
  (prepH (T.refm f) 0 args).bind fun ps =>
  (reachH 200 ((ps.map fun p => idsOf 6 p.1).flatten) []).bind fun seen =>
  let ids := seen.map (·.1)
  let outs := seen.map fun p => outK ids p.2.kin
  let lent := (ps.map (·.2)).flatten ++ outsOf true outs
  match meets lent (ids ++ outsOf false outs) with
  | true => .fail
  | false => rdAll (outsOf true outs) (killAll (outsOf false outs)
    (.tree (AV × Hp) (T.callR f (ps.map fun p => renV 6 (renBy ids) p.1) (seen.map fun p => some (passRow ids p.2))) fun q =>
    match leaksV 6 q.1 || q.2.any leaksRow with
    | true => match outsOf true outs with
      | [] => (freezeR lent).bind fun _ => mergeH T.il ids outs q
      | _ => .fail
    | false => mergeH T.il ids outs q))
def segNil (T : Tab) : List TypeId → List AV → List AV
  | t :: ts, v :: c => (match v with
    | .sc (.slice none 0 0) => match desc T.P t with
      | .slice e => match etOf2 T e with
        | some x => .sl x [] false
        | none => .sc (.slice none 0 0)
      | _ => .sc (.slice none 0 0)
    | v => v) :: segNil T ts c
  | _, c => c
def aggNil (T : Tab) (t : TypeId) (v : AV) : AV := match T.nest with
  | false => typeNil T t v
  | true => match v with
    | .agg c false => match desc T.P t with
      | .struct fs => .agg (segNil T (fs.toList.map (·.type)) c) false
      | _ => .agg c false
    | v => typeNil T t v
def argsNil : List TypeId → List AV → List AV
  | t :: ts, v :: vs => aggNil T t v :: argsNil ts vs
  | _, vs => vs
def callee (fr : Fr) (c : Call) : Option (FuncId × List AV) :=
  match c.callee with
  | .value x => match opv T fr x with
    | .fn (.func f) first caps => some (f, first ++ argsNil T c.argTypes.toList (c.args.toList.map (opv T fr)) ++ caps)
    | _ => none
  | _ => none
def mmStep (mx : Bool) (acc : Option AV) (v : AV) : Option AV := match acc with
  | some (.sc (.int k a)) => match v with
    | .sc (.int k' b) => cond (decide (k = k')) (some (.sc (.int k (match mx with
      | true => (if b > a then b else a)
      | false => (if b < a then b else a))))) none
    | _ => none
  | _ => none
def foldMM (mx : Bool) : List AV → Option AV
  | [] => none
  | .sc (.int k a) :: l => l.foldl (mmStep mx) (some (.sc (.int k a)))
  | _ => none
def lenV (t : TypeId) (x : AV) : HP AV := match desc T.P t, x with
  | .slice _, .os _ _ _ len _ _ _ => .ret (vi len)
  | .slice _, .sl _ l _ => .ret (vi l.length)
  | .slice _, .slg vs _ => .ret (vi vs.length)
  | .string, .sc (.string s) => .ret (vi s.size)
  | .array n _, _ => .ret (vi n)
  | _, _ => .fail
def capV (t : TypeId) (x : AV) : HP AV := match desc T.P t, x with
  | .slice _, .os _ _ _ len _ tight _ => .chk tight (.ret (vi len))
  | .slice _, .sl _ l tight => .chk tight (.ret (vi l.length))
  | .slice _, .slg vs tight => .chk tight (.ret (vi vs.length))
  | .array n _, _ => .ret (vi n)
  | _, _ => .fail
def copyOld (e : TypeId) (x y : AV) : HP AV :=
  (norm 6 y).bind fun y =>
  match x with
  | .os r s i len _ _ _ => .rd r fun row => match row.fz, row.c[s]?, y.1 with
    | false, some (.run q l), .sl q' l' _ => match decide (szOf T.P e = q.size), (match flatE q with | true => true | false => y.2.isEmpty), castL q q' l' with
      | true, true, some x => .chk (decide (i + len ≤ l.length)) (killKin row (.wr r (some { row with c := row.c.set s (.run q (over l i (min x.length len) x)), kin := none }) (.ret (vi ((min x.length len : Nat) : Int)))))
      | _, _, _ => .fail
    | _, _, _ => .fail
  | _ => .fail
def copyH (e : TypeId) (r s len ry sy ly : Nat) (old : HP AV) : HP AV := .rd ry fun rowy => match handy rowy.c sy && decide (szOf T.P e = 1) with
  | false => old
  | true => .rd r fun row => match row.fz, row.c.all single with
    | false, true => .chk (decide (s + min ly len ≤ row.c.length ∧ 0 < min ly len)) (killKin row (.wr r (some { row with c := row.c.take s ++ (((rowy.c.drop sy).take ly).take (min ly len) ++ row.c.drop (s + min ly len)), loose := true, kin := none }) (.ret (vi ((min ly len : Nat) : Int)))))
    | _, _ => .fail
def copyV (e : TypeId) (x y : AV) : HP AV := match isOs T.il x with
  | some (r, s, len) => match isOs T.il y with
    | some (ry, sy, ly) => copyH T e r s len ry sy ly (copyOld T e x y)
    | none => copyOld T e x y
  | none => copyOld T e x y
def clearV (e : TypeId) (x : AV) : HP AV :=
  match x with
  | .os r s i len _ _ _ => .rd r fun row => match row.fz, row.c[s]? with
    | false, some (.run q l) => match zeroIs T.P e (zElem q), flatE q with
      | true, true => .chk (decide (i + len ≤ l.length)) (killKin row (.wr r (some { row with c := row.c.set s (.run q (over l i len (List.replicate len (zeroE q)))), kin := none }) (.ret (.tuple []))))
      | _, _ => .fail
    | _, _ => .fail
  | _ => .fail
def appZero (t' e : TypeId) (x y : AV) : HP AV := match desc T.P t', x, asI y with
  | .int _, .slg [] true, some n => .chk (decide (0 < n)) (.chk (room n.toNat (T.P.bytesOf e)) (match zeroT T.P e, etOf T.P e with
    | some _, some q => match zeroIs T.P e (zElem q) with
      | true => newSl [.run q (List.replicate n.toNat (zeroE q))] n.toNat e false false
      | false => .fail
    | _, _ => .fail))
  | _, _, _ => .fail
def builtinV (b : Builtin) (ats : List TypeId) (args : List AV) : HP AV :=
  match b with
  | .len => match ats, args with
    | [t], [x] => lenV T t x
    | _, _ => .fail
  | .cap => match ats, args with
    | [t], [x] => capV T t x
    | _, _ => .fail
  | .append => match ats, args with
    | [t, t'], [x, y] => match desc T.P t, decide (t' = t) with
      | .slice e, true => appendV T e x y
      | .slice e, false => appZero T t' e x y
      | _, _ => .fail
    | _, _ => .fail
  | .copy => match ats, args with
    | [t, _], [x, y] => match desc T.P t with
      | .slice e => copyV T e x y
      | _ => .fail
    | _, _ => .fail
  | .clear => match ats, args with
    | [t], [x] => match desc T.P t with
      | .slice e => clearV T e x
      | _ => .fail
    | _, _ => .fail
  | .min => outOf (foldMM false args)
  | .max => outOf (foldMM true args)
  | _ => .fail
def runesStr (l : List Int) : ByteArray := ⟨(l.flatMap fun n => (Utf8.encode n).data.toList).toArray⟩
def bytesStr (l : List Int) : ByteArray := ⟨(l.map fun n => UInt8.ofNat n.toNat).toArray⟩
def isIntT (P : Program) (e : TypeId) (k : IntKind) : Bool := match desc P e with
  | .int k' => decide (k' = k)
  | _ => false
def strOf (P : Program) (e : TypeId) (v : AV) : HP AV := match v with
  | .sl (.int k) l _ => match isIntT P e .i32 && decide (k = .i32) with
    | true => .ret (.sc (.string (runesStr l)))
    | false => match isIntT P e .u8 && decide (k = .u8) with
      | true => .ret (.sc (.string (bytesStr l)))
      | false => .fail
  | _ => .fail
def convV (src dst : TypeId) (x : AV) : HP AV := match desc T.P src, desc T.P dst, x with
  | .int _, .int k, .sc (.int _ n) => .ret (.sc (.int k (k.wrap n)))
  | .slice e, .string, x => (norm 6 x).bind fun p => strOf T.P e p.1
  | _, _, _ => .fail
def evOp (o : Oper) (fr : Fr) : HP AV :=
  let ρ := opv T fr
  match o.op with
  | .move x => nilRow (typeNil T o.type (ρ x))
  | .assign x => nilRow (typeNil T o.type (ρ x))
  | .alloc t => allocV T t
  | .box t x => boxV T t (ρ x)
  | .build t ps => buildV T t (ps.toList.map fun p => (p.1, ρ p.2))
  | .buildSlice t n ps => buildSl T t n (ps.toList.map fun p => (p.1, ρ p.2))
  | .load t a => load T t (ρ a)
  | .store t a x => (store T t (ρ a) (ρ x)).bind fun _ => .ret .dead
  | .nilCheck x => match ρ x with
    | .ps r s i j => .ret (.ps r s i j)
    | .pt c ty s i j => .ret (.pt c ty s i j)
    | .fn f a b => match f with
      | .func _ => .ret (.fn f a b)
      | _ => .fail
    | _ => .fail
  | .binOp op t x y _ => binA T.P op t (ρ x) (ρ y)
  | .unOp op _ x => match ρ x with
    | .sc v => match unV op v with
      | some u => .ret (.sc u)
      | none => .fail
    | _ => .fail
  | .convert s t x => convV T s t (ρ x)
  | .makeFunc f first caps => .ret (.fn f (first.toList.map ρ) (caps.toList.map ρ))
  | .makeInterface t x => match T.P.underlying t with
    | none => .fail
    | some d => match d with
      | .interface _ => .fail
      | _ => (normF (ρ x)).bind fun v => .ret (.iface t v)
  | .makeSlice t n m => makeSl T t (ρ n) (ρ m)
  | .slice t x lo hi mx => match pairSl T t (ρ x) with
    | some k => pairSlice T t k (ρ x) (lo.map ρ) (hi.map ρ) (mx.map ρ)
    | none => sliceN T t (slNil (ρ x)) (lo.map ρ) (hi.map ρ) (mx.map ρ)
  | .fieldAddr t x f => fieldAddr T t (ρ x) f
  | .indexAddr t x ix => indexAddr T t (ρ x) (ρ ix)
  | .index t x ix => index T t (ρ x) (ρ ix)
  | .extract x n => match ρ x with
    | .tuple vs => match vs[n]? with
      | some v => .ret v
      | none => .fail
    | _ => .fail
  | .call c => match c.callee with
    | .builtin b => builtinV T b c.argTypes.toList (c.args.toList.map fun x => slNil (ρ x))
    | _ => match callee T fr c with
      | some (f, args) => callH T f args
      | none => .fail
  | _ => .fail
def eqTy (a b : Option TypeId) : Bool := match a, b with
  | some x, some y => Nat.beq x y
  | none, none => true
  | _, _ => false
def layOK (H H' : Hp) : List Nat → Bool
  | [] => true
  | r :: ws => match H[r]? with
    | some (some a) => match H'[r]? with
      | some (some b) => eqTy (rowTy a) (rowTy b) && layOK H H' ws
      | _ => false
    | some none => false
    | none => layOK H H' ws
def layB (lay : Bool) (H H' : Hp) (ws : List Nat) : Bool := match lay with
  | false => true
  | true => layOK H H' ws
def keepR (lay : Bool) (o : Op) (rs : List Nat) : List Nat := match lay with
  | false => rs
  | true => match o with
    | .fieldAddr _ _ _ => []
    | _ => rs
def evDo {R : Type} (o : Oper) (k : Fr → Hp → List Nat → List Nat → Option R) (fr : Fr) (H : Hp) (rs ws : List Nat) : Option R :=
  match o.op with
  | .pick (.tmp c) a b => match get fr c with
    | .sc (.bool t) => cond t (k (put ((c, vb true) :: fr) o.dst (opv T fr a)) H rs ws) (k (put ((c, vb false) :: fr) o.dst (opv T fr b)) H rs ws)
    | _ => none
  | _ => (evOp T o fr).run (fun v H' rs ws => match layB T.lay H H' ws with
    | true => k (put fr o.dst v) H' (keepR T.lay o.op rs) ws
    | false => none) H rs ws
def evOps {R : Type} (ops : List Oper) (k : Fr → Hp → List (List Nat × List Nat) → Option R) : List Oper → List (List Nat × List Nat) → Fr → Hp → Option R
  | [], acc => fun fr H => k fr H acc
  | o :: rest, acc => fun fr H =>
    match o.guard with
    | none => evDo T o (fun fr H rs ws => evOps ops k rest (acc ++ [(rs, ws)]) fr H) fr H [] []
    | some (j, want) => match (ops[j]?).bind (·.dst) with
      | none => none
      | some g => match get fr g with
        | .sc (.bool b) => cond b
          (match want with
            | true => evDo T o (fun fr H rs ws => evOps ops k rest (acc ++ [(rs, ws)]) fr H) ((g, vb true) :: fr) H [] []
            | false => evOps ops k rest (acc ++ [([], [])]) (put ((g, vb true) :: fr) o.dst (.sc (.tuple #[]))) H)
          (match want with
            | false => evDo T o (fun fr H rs ws => evOps ops k rest (acc ++ [(rs, ws)]) fr H) ((g, vb false) :: fr) H [] []
            | true => evOps ops k rest (acc ++ [([], [])]) (put ((g, vb false) :: fr) o.dst (.sc (.tuple #[]))) H)
        | .sc (.tuple _) => evOps ops k rest (acc ++ [([], [])]) (put fr o.dst (.sc (.tuple #[]))) H
        | _ => none
def looks (ops : List Oper) (o : Oper) : List Nat :=
  (o.op.operands.toList.filterMap fun | .tmp t => some t | _ => none) ++ (match o.guard with
    | some (j, _) => ((ops[j]?).bind (·.dst)).toList
    | none => [])
def depsOf : List Oper → List Nat → List Nat
  | [], acc => acc
  | o :: rest, acc => depsOf rest (acc ++ [o.after.toList.foldl (fun m e => match Region.binds .any e with
      | true => Nat.lor m (Nat.lor (2 ^ e.on) (acc.getD e.on 0))
      | false => m) 0])
def allFrom {α : Type} (f : Nat → α → Bool) : Nat → List α → Bool
  | _, [] => true
  | n, a :: l => f n a && allFrom f (n + 1) l
def tempsOK (ops : List Oper) : Bool :=
  let deps := depsOf ops []
  allFrom (fun j y => allFrom (fun i x => Nat.testBit (deps.getD j 0) i || Nat.ble j i ||
    !(meets x.dst.toList (looks ops y) || meets x.dst.toList y.dst.toList || meets (looks ops x) y.dst.toList)) 0 ops) 0 ops
def rowsOK (ops : List Oper) (acc : List (List Nat × List Nat)) : Bool :=
  let deps := depsOf ops []
  allFrom (fun j y => allFrom (fun i x => (meets x.2 y.1 || meets x.2 y.2 || meets x.1 y.2) == false || Nat.ble j i || Nat.testBit (deps.getD j 0) i) 0 acc) 0 acc
def edgesOK (ops : List Oper) : Bool := allFrom (fun j o => o.after.toList.all fun e => match Region.binds .any e with
  | true => Nat.blt e.on j
  | false => true) 0 ops
def ordered (ops : List Oper) (acc : List (List Nat × List Nat)) : Bool := edgesOK ops && tempsOK ops && rowsOK ops acc
def firstReg : Code → Option Nat
  | .region id _ _ => some id
  | .seq a b => match firstReg a with
    | some n => some n
    | none => firstReg b
  | .cond _ a b => match firstReg a with
    | some n => some n
    | none => firstReg b
  | .block _ c => firstReg c
  | .loop c => firstReg c
  | .scope c => firstReg c
  | _ => none
def mkFr : List Nat → List AV → Fr
  | t :: l, v :: vs => (t, v) :: mkFr l vs
  | _, _ => []
def argFr : Nat → List AV → Fr
  | n, v :: vs => (n, v) :: argFr (n + 1) vs
  | _, [] => []
def unkin (r : Nat) (H : Hp) : Hp := match H[r]? with
  | some (some row) => match row.kin with
    | some (q, false) => match H[q]? with
      | some (some rowq) => match rowq.kin with
        | some (r', _) => match Nat.beq r' r with
          | true => (H.set r none).set q (some { rowq with kin := none })
          | false => H
        | none => H
      | _ => H
    | _ => H
  | _ => H
def unbase (seen : List Nat) : List Nat → Hp → Hp
  | [], H => H
  | r :: l, H => unbase seen l (match seen.contains r with
    | true => H
    | false => unkin r H)
def sweep {R : Type} (fid id base : Nat) (k : Fr → Hp → Option R) (fr : Fr) (H : Hp) : Option R := match T.gc fid id with
  | none => k fr H
  | some (b, keep) =>
    let kv := keep.map (get fr)
    match (match b with
      | false => some H
      | true => match reach H 200 ((kv.map (idsOf 6)).flatten) [] with
        | none => none
        | some seen => some (unbase seen (List.range base) H)) with
    | none => none
    | some H1 => match seenFrom base kv H1 with
      | none => none
      | some seen => k (mkFr keep (kv.map (renV 6 (renBy seen)))) (renH seen H1)
def evC {R : Type} (fid base : Nat) : Code → (Out → Fr → Hp → Option R) → Fr → Hp → Option R
  | .skip, k => k .nrm
  | .ret, k => k .ret
  | .exit id, k => k (.ext id)
  | .region id ops draw, k => match draw with
    | false => evOps T ops.toList (fun fr H _ => sweep T fid id base (k .nrm) fr H) ops.toList []
    | true => evOps T ops.toList (fun fr H acc => match ordered ops.toList acc with
      | true => sweep T fid id base (k .nrm) fr H
      | false => none) ops.toList []
  | .seq a b, k => evC fid base a fun o => match o with
    | .nrm => evC fid base b k
    | o => k o
  | .cond c a b, k => match c with
    | .tmp t => fun fr H => match get fr t with
      | .sc (.bool x) => cond x (evC fid base a k ((t, vb true) :: fr) H) (evC fid base b k ((t, vb false) :: fr) H)
      | _ => none
    | .const (.bool x) => cond x (evC fid base a k) (evC fid base b k)
    | _ => fun _ _ => none
  | .block id c, k => evC fid base c fun o => match o with
    | .ext j => match Nat.beq j id with
      | true => k .nrm
      | false => k (.ext j)
    | o => k o
  | .loop c, k => fun fr H => match firstReg c with
    | none => none
    | some lid =>
      let kv := (T.keep fid lid).map (get fr)
      match seenFrom base kv H with
      | none => none
      | some seen => (T.loopT fid lid base (kv.map (renV 6 (renBy seen))) (renH seen H)).go fun p => k p.1 (mkFr (T.keep fid lid) p.2.1) p.2.2
  | _, _ => fun _ _ => none
def lpStep (fid lid base : Nat) (c : Code) (again : List AV → Hp → Option (Out × List AV × Hp)) (kv : List AV) (H : Hp) : Option (Out × List AV × Hp) :=
  evC T fid base c (fun o fr H =>
      let kv := (T.keep fid lid).map (get fr)
      match seenFrom base kv H with
      | none => none
      | some seen => match o with
        | .nrm => again (kv.map (renV 6 (renBy seen))) (renH seen H)
        | o => some (o, kv.map (renV 6 (renBy seen)), renH seen H)) (mkFr (T.keep fid lid) kv) H
def lpRun (fid lid base : Nat) (c : Code) : Nat → List AV → Hp → Option (Out × List AV × Hp)
  | 0 => fun _ _ => none
  | m + 1 => lpStep T fid lid base c (lpRun fid lid base c m)
def oneOf (vs : List AV) : AV := match vs with
  | [v] => v
  | vs => .tuple vs
def resV (fr : Fr) : ResultVar → HP AV
  | .tmp t => .ret (get fr t)
  | .cell a t => load T t (get fr a)
def evBody (f : FuncId) (args : List AV) (H : Hp) : Option (AV × Hp) :=
  match T.fn f with
  | none => none
  | some fn => match fn.body with
    | none => none
    | some c => match Nat.ble args.length fn.ntmps with
      | false => none
      | true => evC T f H.length c (fun o fr H' => match o with
        | .ext _ => none
        | _ => (mapH (resV T fr) fn.results.toList).run (fun vs H' _ _ =>
            match seenFrom H.length vs H' with
            | none => none
            | some seen => some (renV 6 (renBy seen) (oneOf vs), renH seen H')) H' [] [])
          (argFr 0 args) H
def distinct : List Nat → Bool
  | [] => true
  | a :: l => !l.contains a && distinct l
end ops
def loopsIn : Code → List (Nat × Code)
  | .seq a b => loopsIn a ++ loopsIn b
  | .cond _ a b => loopsIn a ++ loopsIn b
  | .block _ c => loopsIn c
  | .loop c => match firstReg c with
    | some n => (n, c) :: loopsIn c
    | none => loopsIn c
  | .scope c => loopsIn c
  | _ => []
def loopIn (lid : Nat) : List (Nat × Code) → Option Code
  | [] => none
  | p :: l => match Nat.beq p.1 lid with
    | true => some p.2
    | false => loopIn lid l
def loopOf (fn : FuncId → Option Func) (fid lid : Nat) : Option Code := match fn fid with
  | none => none
  | some f => match f.body with
    | none => none
    | some c => loopIn lid (loopsIn c)
def codeOK (n : Nat) : Code → Bool
  | .region _ ops _ => ops.toList.all fun o => match o.dst with
    | some d => Nat.blt d n
    | none => true
  | .seq a b => codeOK n a && codeOK n b
  | .cond _ a b => codeOK n a && codeOK n b
  | .block _ c => codeOK n c
  | .loop c => codeOK n c
  | .scope c => codeOK n c
  | _ => true
def fnOK (f : Func) : Bool := match f.body with
  | some c => codeOK f.ntmps c && distinct ((loopsIn c).map (·.1)) && Nat.ble f.params.size f.ntmps && !(f.name == "runtime.NumGoroutine")
  | none => false
def fnsOf (P : Program) (f : FuncId) : Option Func := match P.funcs[f]? with
  | some fn => match fnOK fn with
    | true => some fn
    | false => none
  | none => none
/-! Values worked out before one goes on: no thing turns by it; for runs in the kernel alone. -/
def fNat {α : Type} (n : Nat) (k : Nat → α) : α := match n with
  | 0 => k 0
  | p + 1 => k (p + 1)
def fInt {α : Type} (n : Int) (k : Int → α) : α := match n with
  | .ofNat m => fNat m fun m => k (.ofNat m)
  | .negSucc m => fNat m fun m => k (.negSucc m)
def fBool {α : Type} (b : Bool) (k : Bool → α) : α := match b with
  | true => k true
  | false => k false
def fList {α β : Type} (fe : β → (β → α) → α) : List β → (List β → α) → α
  | [], k => k []
  | x :: xs, k => fe x fun x => fList fe xs fun xs => k (x :: xs)
def fRun {α : Type} : (e : ET) → List e.T → (List e.T → α) → α
  | .int _, l, k => fList fInt l k
  | .bool, l, k => fList fBool l k
  | .pair _, l, k => fList (fun p k => fInt p.1 fun a => fInt p.2 fun b => k (a, b)) l k
  | .ilist _, l, k => fList (fun x k => fList fInt x k) l k
  | .str, l, k => fList (fun x k => k x) l k
def fVal {α : Type} (v : Value) (k : Value → α) : α := match v with
  | .int t n => fInt n fun n => k (.int t n)
  | .bool b => fBool b fun b => k (.bool b)
  | v => k v
def fAV {α : Type} : Nat → AV → (AV → α) → α
  | 0, v, k => k v
  | n + 1, v, k => match v with
    | .sc v => fVal v fun v => k (.sc v)
    | .run e l => fRun e l fun l => k (.run e l)
    | .os r s i len a b c => fNat r fun r => fNat i fun i => fNat len fun len => fBool b fun b => k (.os r s i len a b c)
    | .ps r s i j => fNat r fun r => fNat s fun s => fNat i fun i => k (.ps r s i j)
    | .agg c l => fList (fAV n) c fun c => fBool l fun l => k (.agg c l)
    | .tuple vs => fList (fAV n) vs fun vs => k (.tuple vs)
    | .fn f a b => fList (fAV n) a fun a => fList (fAV n) b fun b => k (.fn f a b)
    | v => k v
def fKin {α : Type} (o : Option (Nat × Bool)) (k : Option (Nat × Bool) → α) : α := match o with
  | none => k none
  | some q => fNat q.1 fun a => fBool q.2 fun b => k (some (a, b))
def fRow {α : Type} (row : Row) (k : Row → α) : α := fList (fAV 6) row.c fun c => fBool row.fz fun fz => fBool row.loose fun loose => fKin row.kin fun kin =>
  k { c := c, vr := row.vr, ty := row.ty, fz := fz, loose := loose, kin := kin }
def fHp {α : Type} (H : Hp) (k : Hp → α) : α := fList (fun o k => match o with
  | none => k none
  | some row => fRow row fun row => k (some row)) H k
def lpForced (T : Tab) (fid lid base : Nat) (c : Code) : Nat → List AV → Hp → Option (Out × List AV × Hp)
  | 0 => fun _ _ => none
  | m + 1 => lpStep T fid lid base c fun kv H => fList (fAV 6) kv fun kv => fHp H fun H => lpForced T fid lid base c m kv H
def carried (T : Tab) (rounds : Nat) : Nat → Tab
  | 0 => { T with callR := fun _ _ _ => .fail, loopT := fun _ _ _ _ _ => .fail }
  | n + 1 => { T with
      callR := fun f args H => fList (fAV 6) args fun args => fHp H fun H => match evBody (carried T rounds n) f args H with
        | some (v, H) => fAV 6 v fun v => fHp H fun H => .leaf (v, H)
        | none => .fail
      loopT := fun fid lid base kv H => match loopOf T.fn fid lid with
        | some c => match lpForced (carried T rounds n) fid lid base c rounds kv H with
          | some (o, kv, H) => fList (fAV 6) kv fun kv => fHp H fun H => .leaf (o, kv, H)
          | none => .fail
        | none => .fail }
end Go.Ev
namespace Go.Ev
open Go
set_option linter.unusedVariables false
structure Place where
  b : Nat
  n : Nat
  w : Nat
  z : Nat
  lay : Nat → Nat
abbrev Loc := Nat → Option (Option Place)
abbrev Stab := Nat → Nat → Prop
abbrev CellF := Nat → Option Value
@[reducible] def noLoc : Loc := fun _ => none
def contSize : List AV → Nat
  | [] => 0
  | v :: c => segSize v + contSize c
def cellsAt (w : World) (b : Nat) : CellF := fun o => w.cell? ⟨b, o, none⟩
def zAt (c : List AV) (s : Nat) : Nat := match c[s]? with
  | some (.run e _) => e.size
  | _ => 1
def ElR0 : (e : ET) → e.T → CellF → Nat → Prop
  | .int k, x, F, o => F o = some (.int k x)
  | .bool, x, F, o => F o = some (.bool x)
  | .str, x, F, o => F o = some (.string x)
  | .pair k, p, F, o => F o = some (.int k p.1) ∧ F (o + 1) = some (.int k p.2)
  | .ilist _, _, _, _ => False
def StR (S : Stab) (b o n : Nat) : Prop := ∀ i, i < n → S b (o + i)
def SlR0 (S : Stab) (w : World) (e : ET) (l : List e.T) (t : Bool) (u : Value) : Prop :=
  ∃ a cap, u = .slice a l.length cap ∧ l.length ≤ cap ∧ (t = true → cap = l.length) ∧
    (l ≠ [] → ∃ b o, a = some ⟨b, o, none⟩ ∧ (∀ i x, l[i]? = some x → ElR0 e x (cellsAt w b) (o + i * e.size)) ∧ StR S b o (l.length * e.size))
def ElR (S : Stab) (w : World) : (e : ET) → e.T → CellF → Nat → Prop
  | .ilist k, l, F, o => ∃ u, F o = some u ∧ SlR0 S w (.int k) l false u
  | .int k, x, F, o => ElR0 (.int k) x F o
  | .bool, x, F, o => ElR0 .bool x F o
  | .str, x, F, o => ElR0 .str x F o
  | .pair k, x, F, o => ElR0 (.pair k) x F o
def RunR (S : Stab) (w : World) (e : ET) (l : List e.T) (F : CellF) (o : Nat) : Prop :=
  ∀ i x, l[i]? = some x → ElR S w e x F (o + i * e.size)
def SlR (S : Stab) (w : World) (e : ET) (l : List e.T) (t : Bool) (u : Value) : Prop :=
  ∃ a cap, u = .slice a l.length cap ∧ l.length ≤ cap ∧ (t = true → cap = l.length) ∧
    (l ≠ [] → ∃ b o, a = some ⟨b, o, none⟩ ∧ RunR S w e l (cellsAt w b) o ∧ StR S b o (l.length * e.size))
def OsR (L : Loc) (r s i len : Nat) (whole tight full : Bool) (u : Value) : Prop :=
  match L r with
  | none => False
  | some none => len = 0 ∧ i = 0 ∧ s = 0 ∧ ∃ a, u = .slice a 0 0
  | some (some p) => ∃ a cap, u = .slice a len cap ∧ (cap ≠ 0 → a = some ⟨p.b, p.lay s + i * p.z, none⟩) ∧ len ≤ cap ∧ (tight = true → cap = len) ∧
      p.lay s + i * p.z + cap * p.z ≤ p.n ∧ p.lay s + i * p.z + len * p.z ≤ p.w ∧ (whole = true → s = 0 ∧ i = 0 ∧ p.lay 0 = 0 ∧ len * p.z = p.w ∧ cap * p.z = p.n) ∧
      (full = true → p.w ≤ p.lay s + i * p.z + cap * p.z)
def PsR (L : Loc) (r s i j : Nat) (u : Value) : Prop :=
  match L r with
  | some (some p) => u = .pointer (some ⟨p.b, p.lay s + i * p.z + j, none⟩)
  | _ => False
mutual
def Rel (P : Program) (S : Stab) (w : World) : AV → Loc → Value → Prop
  | .dead, _, _ => True
  | .sc v, _, u => u = v
  | .run _ _, _, _ => False
  | .sl e l t, _, u => SlR S w e l t u
  | .slg vs t, _, u => (∀ v ∈ vs, single v = true) ∧ ∃ a cap, u = .slice a vs.length cap ∧ vs.length ≤ cap ∧ (t = true → cap = vs.length) ∧
      (vs ≠ [] → ∃ b o, a = some ⟨b, o, none⟩ ∧ Cont P S w vs noLoc (cellsAt w b) o ∧ StR S b o vs.length)
  | .pt c ty s i j, _, u => ∃ b o, u = .pointer (some ⟨b, o + contSize (c.take s) + i * zAt c s + j, none⟩) ∧ Cont P S w c noLoc (cellsAt w b) o ∧
      StR S b o (contSize c) ∧ (∀ t, ty = some t → c.map segSize = segSizes P t)
  | .os r s i len whole tight full, L, u => OsR L r s i len whole tight full u
  | .ps r s i j, L, u => PsR L r s i j u
  | .agg c loose, L, u => ∃ arr : Array Value, u = .agg arr ∧ arr.size = contSize c ∧ Cont P S w c (match loose with | true => L | false => noLoc) (fun i => arr[i]?) 0
  | .fn f first caps, L, u => ∃ fa ca : Array Value, u = .func f fa ca ∧ RelL P S w first L fa.toList ∧ RelL P S w caps L ca.toList
  | .iface t v, _, u => ∃ x, u = .iface t x ∧ Rel P S w v noLoc x
  | .tuple vs, L, u => ∃ arr : Array Value, u = .tuple arr ∧ RelL P S w vs L arr.toList
def RelL (P : Program) (S : Stab) (w : World) : List AV → Loc → List Value → Prop
  | [], _, us => us = []
  | v :: vs, L, us => ∃ u rest, us = u :: rest ∧ Rel P S w v L u ∧ RelL P S w vs L rest
def Cont (P : Program) (S : Stab) (w : World) : List AV → Loc → CellF → Nat → Prop
  | [], _, _, _ => True
  | v :: c, L, F, o => (∀ e l, v = .run e l → RunR S w e l F o) ∧ (single v = true → ∃ u, F o = some u ∧ Rel P S w v L u) ∧ Cont P S w c L F (o + segSize v)
end
def Stays (S : Stab) (w w' : World) : Prop := ∀ b o, S b o → w'.cell? ⟨b, o, none⟩ = w.cell? ⟨b, o, none⟩
def Loc.le (L L' : Loc) : Prop := ∀ r x, L r = some x → L' r = some x
theorem Loc.le_refl (L : Loc) : L.le L := fun _ _ h => h
theorem noLoc_le (L : Loc) : noLoc.le L := fun _ _ h => by cases h
section mono
variable {P : Program} {S S' : Stab} {w w' : World}
theorem StR.mono (hS : ∀ b o, S b o → S' b o) {b o n : Nat} (h : StR S b o n) : StR S' b o n := fun i hi => hS _ _ (h i hi)
theorem ElR0.stays {e : ET} {x : e.T} {b o : Nat} (hw : Stays S w w') (hs : StR S b o e.size) (h : ElR0 e x (cellsAt w b) o) : ElR0 e x (cellsAt w' b) o := by
  cases e with
  | int k => simp only [ElR0, cellsAt] at *; rw [hw _ _ (by simpa using hs 0 (by simp [ET.size]))]; exact h
  | bool => simp only [ElR0, cellsAt] at *; rw [hw _ _ (by simpa using hs 0 (by simp [ET.size]))]; exact h
  | str => simp only [ElR0, cellsAt] at *; rw [hw _ _ (by simpa using hs 0 (by simp [ET.size]))]; exact h
  | pair k =>
    simp only [ElR0, cellsAt] at *
    rw [hw _ _ (by simpa using hs 0 (by simp [ET.size])), hw _ _ (hs 1 (by simp [ET.size]))]; exact h
  | ilist k => exact h.elim
theorem StR.part {b o n i m : Nat} (h : StR S b o n) (hi : i + m ≤ n) : StR S b (o + i) m := fun k hk => by
  have := h (i + k) (by omega)
  rwa [← Nat.add_assoc] at this
theorem mul_lt_part {i n z : Nat} (h : i < n) : i * z + z ≤ n * z := by
  have := Nat.mul_le_mul_right z (Nat.succ_le_of_lt h)
  rwa [Nat.succ_mul] at this
theorem SlR0.mono (hS : ∀ b o, S b o → S' b o) (hw : Stays S w w') {e : ET} {l : List e.T} {t : Bool} {u : Value} (h : SlR0 S w e l t u) : SlR0 S' w' e l t u := by
  obtain ⟨a, cap, hu, hc, ht, hl⟩ := h
  refine ⟨a, cap, hu, hc, ht, fun hne => ?_⟩
  obtain ⟨b, o, ha, hr, hs⟩ := hl hne
  refine ⟨b, o, ha, fun i x hx => ?_, hs.mono hS⟩
  have hi : i < l.length := by
    rcases Nat.lt_or_ge i l.length with h | h
    · exact h
    · simp [List.getElem?_eq_none h] at hx
  exact ElR0.stays hw (hs.part (mul_lt_part hi)) (hr i x hx)
theorem ElR.mono (hS : ∀ b o, S b o → S' b o) (hw : Stays S w w') {e : ET} {x : e.T} {F F' : CellF} {o : Nat} (hF : ∀ i, i < e.size → F' (o + i) = F (o + i)) (h : ElR S w e x F o) : ElR S' w' e x F' o := by
  cases e with
  | int k => simp only [ElR, ElR0] at *; rw [← h]; simpa using hF 0 (by simp [ET.size])
  | bool => simp only [ElR, ElR0] at *; rw [← h]; simpa using hF 0 (by simp [ET.size])
  | str => simp only [ElR, ElR0] at *; rw [← h]; simpa using hF 0 (by simp [ET.size])
  | pair k =>
    simp only [ElR, ElR0] at *
    have h0 := hF 0 (by simp [ET.size])
    have h1 := hF 1 (by simp [ET.size])
    simp only [Nat.add_zero] at h0
    rw [h0, h1]; exact h
  | ilist k =>
    obtain ⟨u, hu, hs⟩ := h
    have h0 := hF 0 (by simp [ET.size])
    simp only [Nat.add_zero] at h0
    exact ⟨u, by rw [h0]; exact hu, hs.mono hS hw⟩
theorem RunR.mono (hS : ∀ b o, S b o → S' b o) (hw : Stays S w w') {e : ET} {l : List e.T} {F F' : CellF} {o : Nat}
    (hF : ∀ i, i < l.length * e.size → F' (o + i) = F (o + i)) (h : RunR S w e l F o) : RunR S' w' e l F' o := by
  intro i x hx
  have hi : i < l.length := by
    rcases Nat.lt_or_ge i l.length with h | h
    · exact h
    · simp [List.getElem?_eq_none h] at hx
  refine ElR.mono hS hw (fun k hk => ?_) (h i x hx)
  have := hF (i * e.size + k) (by have := mul_lt_part (z := e.size) hi; omega)
  rwa [← Nat.add_assoc] at this
theorem SlR.mono (hS : ∀ b o, S b o → S' b o) (hw : Stays S w w') {e : ET} {l : List e.T} {t : Bool} {u : Value} (h : SlR S w e l t u) : SlR S' w' e l t u := by
  obtain ⟨a, cap, hu, hc, ht, hl⟩ := h
  refine ⟨a, cap, hu, hc, ht, fun hne => ?_⟩
  obtain ⟨b, o, ha, hr, hs⟩ := hl hne
  exact ⟨b, o, ha, RunR.mono hS hw (fun i hi => by simp only [cellsAt]; exact hw _ _ (hs i hi)) hr, hs.mono hS⟩
theorem OsR.mono {L L' : Loc} (hL : L.le L') {r s i len : Nat} {a b c : Bool} {u : Value} (h : OsR L r s i len a b c u) : OsR L' r s i len a b c u := by
  unfold OsR at *
  cases hr : L r with
  | none => rw [hr] at h; exact h.elim
  | some x => rw [hL r x hr]; rw [hr] at h; exact h
theorem PsR.mono {L L' : Loc} (hL : L.le L') {r s i j : Nat} {u : Value} (h : PsR L r s i j u) : PsR L' r s i j u := by
  unfold PsR at *
  cases hr : L r with
  | none => rw [hr] at h; exact h.elim
  | some x => rw [hL r x hr]; rw [hr] at h; exact h
theorem segSize_single {v : AV} (h : single v = true) : segSize v = 1 := by
  cases v <;> first | rfl | (simp [single] at h)
theorem contSize_single {vs : List AV} (h : ∀ v ∈ vs, single v = true) : contSize vs = vs.length := by
  induction vs with
  | nil => rfl
  | cons v vs ih =>
    have hv := h v (by simp)
    have := ih fun x hx => h x (by simp [hx])
    simp only [contSize, segSize_single hv, List.length_cons]; omega
mutual
theorem Rel.mono (hS : ∀ b o, S b o → S' b o) (hw : Stays S w w') : (v : AV) → {L L' : Loc} → {u : Value} → L.le L' → Rel P S w v L u → Rel P S' w' v L' u
  | .dead, _, _, _, _, _ => by simp only [Rel]
  | .sc v, _, _, _, _, h => by simpa only [Rel] using h
  | .run _ _, _, _, _, _, h => by simp only [Rel] at h
  | .sl e l t, _, _, _, _, h => by simp only [Rel] at *; exact h.mono hS hw
  | .slg vs t, _, _, _, _, h => by
    simp only [Rel] at *
    obtain ⟨hsg, a, cap, hu, hc, ht, hl⟩ := h
    refine ⟨hsg, a, cap, hu, hc, ht, fun hne => ?_⟩
    obtain ⟨b, o, ha, hr, hs⟩ := hl hne
    have hsz : contSize vs = vs.length := contSize_single hsg
    exact ⟨b, o, ha, Cont.mono hS hw vs (Loc.le_refl _) (fun i hi => by simp only [cellsAt]; exact hw _ _ (hs i (by omega))) hr, hs.mono hS⟩
  | .pt c ty s i j, _, _, _, _, h => by
    simp only [Rel] at *
    obtain ⟨b, o, hu, hc, hs, ht⟩ := h
    exact ⟨b, o, hu, Cont.mono hS hw c (Loc.le_refl _) (fun i hi => by simp only [cellsAt]; exact hw _ _ (hs i hi)) hc, hs.mono hS, ht⟩
  | .os _ _ _ _ _ _ _, _, _, _, hL, h => by simp only [Rel] at *; exact h.mono hL
  | .ps _ _ _ _, _, _, _, hL, h => by simp only [Rel] at *; exact h.mono hL
  | .agg c loose, L, L', _, hL, h => by
    simp only [Rel] at *
    obtain ⟨arr, hu, hsz, hc⟩ := h
    refine ⟨arr, hu, hsz, Cont.mono hS hw c ?_ (fun _ _ => rfl) hc⟩
    cases loose
    · exact Loc.le_refl _
    · exact hL
  | .fn f first caps, _, _, _, hL, h => by
    simp only [Rel] at *
    obtain ⟨fa, ca, hu, h1, h2⟩ := h
    exact ⟨fa, ca, hu, RelL.mono hS hw first hL h1, RelL.mono hS hw caps hL h2⟩
  | .iface t v, _, _, _, _, h => by
    simp only [Rel] at *
    obtain ⟨x, hu, hx⟩ := h
    exact ⟨x, hu, Rel.mono hS hw v (Loc.le_refl _) hx⟩
  | .tuple vs, _, _, _, hL, h => by
    simp only [Rel] at *
    obtain ⟨arr, hu, h1⟩ := h
    exact ⟨arr, hu, RelL.mono hS hw vs hL h1⟩
theorem RelL.mono (hS : ∀ b o, S b o → S' b o) (hw : Stays S w w') : (vs : List AV) → {L L' : Loc} → {us : List Value} → L.le L' → RelL P S w vs L us → RelL P S' w' vs L' us
  | [], _, _, _, _, h => by simpa only [RelL] using h
  | v :: vs, _, _, _, hL, h => by
    simp only [RelL] at *
    obtain ⟨u, rest, hu, h1, h2⟩ := h
    exact ⟨u, rest, hu, Rel.mono hS hw v hL h1, RelL.mono hS hw vs hL h2⟩
theorem Cont.mono (hS : ∀ b o, S b o → S' b o) (hw : Stays S w w') : (c : List AV) → {L L' : Loc} → {F F' : CellF} → {o : Nat} → L.le L' →
    (∀ i, i < contSize c → F' (o + i) = F (o + i)) → Cont P S w c L F o → Cont P S' w' c L' F' o
  | [], _, _, _, _, _, _, _, _ => by simp only [Cont]
  | v :: c, L, L', F, F', o, hL, hF, h => by
    simp only [Cont] at *
    obtain ⟨h0, h1, h2⟩ := h
    refine ⟨fun e l hv => ?_, fun hs => ?_, Cont.mono hS hw c hL (fun i hi => by have := hF (segSize v + i) (by simp only [contSize]; omega); rwa [← Nat.add_assoc] at this) h2⟩
    · subst hv
      exact RunR.mono hS hw (fun i hi => hF i (by simp only [contSize, segSize]; omega)) (h0 e l rfl)
    · obtain ⟨u, hu, hr⟩ := h1 hs
      refine ⟨u, ?_, Rel.mono hS hw v hL hr⟩
      have := hF 0 (by have := segSize_single hs; simp only [contSize]; omega)
      simp only [Nat.add_zero] at this
      rw [this]; exact hu
end
end mono
end Go.Ev
namespace Go.Ev
open Go
set_option linter.unusedVariables false
abbrev Hs := Nat → Option Row
def upd (h : Hs) (r : Nat) (row : Option Row) : Hs := fun x => if x = r then row else h x
theorem upd_same (h : Hs) (r : Nat) (row : Option Row) : upd h r row r = row := by simp [upd]
theorem upd_ne (h : Hs) {r x : Nat} (row : Option Row) (hx : x ≠ r) : upd h r row x = h x := by simp [upd, hx]
def setL (L : Loc) (r : Nat) (x : Option Place) : Loc := fun y => if y = r then some x else L y
theorem setL_same (L : Loc) (r : Nat) (x : Option Place) : setL L r x r = some x := by simp [setL]
theorem setL_ne (L : Loc) {r y : Nat} (x : Option Place) (h : y ≠ r) : setL L r x y = L y := by simp [setL, h]
theorem setL_le {L : Loc} {r : Nat} (x : Option Place) (h : L r = none) : L.le (setL L r x) := by
  intro y z hy
  by_cases e : y = r
  · subst e; rw [h] at hy; cases hy
  · rw [setL_ne L x e]; exact hy
def lOf (loose : Bool) (L : Loc) : Loc := match loose with
  | true => L
  | false => noLoc
theorem lOf_le {l : Bool} {L L' : Loc} (h : L.le L') : (lOf l L).le (lOf l L') := by
  cases l
  · exact Loc.le_refl _
  · exact h
structure RowOK (P : Program) (S : Stab) (w : World) (L : Loc) (row : Row) (p : Place) : Prop where
  blk : ∃ arr bt, w.heap[p.b]? = some (.cells arr bt (0, 0)) ∧ arr.size = p.n ∧ Cont P S w row.c (lOf row.loose L) (fun i => arr[i]?) 0
  size : contSize row.c = p.w
  le : p.w ≤ p.n
  lay : ∀ s, s ≤ row.c.length → p.lay s = contSize (row.c.take s)
  zz : ∀ s, s < row.c.length → zAt row.c s = p.z
  vr : row.vr = true → row.c.map segSize = segSizes P row.ty
  st : ∀ o, S p.b o → row.fz = true ∧ o < p.w
  zp : 0 < p.z ∧ (row.c = [] → p.z = 1)
def NilOK (row : Row) : Prop := row.c = [] ∨ ∃ e, row.c = [.run e []]
def KinOK (row row' : Row) (r r' : Nat) (p p' : Place) : Prop := row.kin = some (r', true) ∧ row'.kin = some (r, false) ∧ p'.w ≤ p.w
structure Inv (P : Program) (S : Stab) (w : World) (L : Loc) (h : Hs) : Prop where
  rows : ∀ r row, h r = some row → (L r = some none ∧ NilOK row) ∨ ∃ p, L r = some (some p) ∧ RowOK P S w L row p
  disj : ∀ r r' row row' p p', h r = some row → h r' = some row' → L r = some (some p) → L r' = some (some p') → p.b = p'.b → r = r' ∨ KinOK row row' r r' p p' ∨ KinOK row' row r' r p' p
  stab : ∀ b o, S b o → b < w.heap.size
def ownOf (L : Loc) (b : Nat) : Prop := ∃ r p, L r = some (some p) ∧ p.b = b
def Sole (L : Loc) (h : Hs) (r : Nat) (p : Place) : Prop := ∀ y rowy py, h y = some rowy → L y = some (some py) → py.b = p.b → y = r
structure Ext (w : World) (S : Stab) (L : Loc) (w' : World) (S' : Stab) (L' : Loc) : Prop where
  sub : ∀ b o, S b o → S' b o
  stays : Stays S w w'
  le : L.le L'
  Snew : ∀ b o, S' b o → S b o ∨ w.heap.size ≤ b ∨ ownOf L b
  blocks : ∀ b, b < w.heap.size → ¬ ownOf L b → w'.heap[b]? = w.heap[b]?
  size : w.heap.size ≤ w'.heap.size
  os : w'.os = w.os
  tape : w'.tape = w.tape
  output : w'.output = w.output
  Lnew : ∀ r p, L' r = some (some p) → ownOf L p.b ∨ w.heap.size ≤ p.b
  frz : ∀ a, a.block < w.heap.size → w'.frozen? a = w.frozen? a
  shape : ∀ (b : Nat) (arr : Array Value) (bt : TypeId), w.heap[b]? = some (.cells arr bt (0, 0)) → ∃ arr' : Array Value, w'.heap[b]? = some (.cells arr' bt (0, 0)) ∧ arr'.size = arr.size
theorem Ext.refl (w : World) (S : Stab) (L : Loc) : Ext w S L w S L :=
  ⟨fun _ _ h => h, fun _ _ _ => rfl, Loc.le_refl _, fun _ _ h => .inl h, fun _ _ _ => rfl, Nat.le_refl _, rfl, rfl, rfl, fun r p h => .inl ⟨r, p, h, rfl⟩, fun _ _ => rfl, fun b arr bt h => ⟨arr, h, rfl⟩⟩
theorem Ext.own {w w' : World} {S S' : Stab} {L L' : Loc} (h : Ext w S L w' S' L') {b : Nat} (hb : ownOf L' b) : ownOf L b ∨ w.heap.size ≤ b := by
  obtain ⟨r, p, hr, rfl⟩ := hb
  exact h.Lnew r p hr
theorem Ext.trans {w w1 w2 : World} {S S1 S2 : Stab} {L L1 L2 : Loc} (h : Ext w S L w1 S1 L1) (h' : Ext w1 S1 L1 w2 S2 L2) : Ext w S L w2 S2 L2 where
  sub b o hb := h'.sub b o (h.sub b o hb)
  stays b o hb := by rw [h'.stays b o (h.sub b o hb), h.stays b o hb]
  le r x hx := h'.le r x (h.le r x hx)
  Snew b o hb := by
    rcases h'.Snew b o hb with h1 | h1 | h1
    · exact h.Snew b o h1
    · exact .inr (.inl (Nat.le_trans h.size h1))
    · rcases h.own h1 with h2 | h2
      · exact .inr (.inr h2)
      · exact .inr (.inl h2)
  blocks b hb hn := by
    rw [h'.blocks b (Nat.lt_of_lt_of_le hb h.size) (fun ho => by
      rcases h.own ho with h2 | h2
      · exact hn h2
      · omega), h.blocks b hb hn]
  size := Nat.le_trans h.size h'.size
  os := by rw [h'.os, h.os]
  tape := by rw [h'.tape, h.tape]
  output := by rw [h'.output, h.output]
  frz a ha := by rw [h'.frz a (Nat.lt_of_lt_of_le ha h.size), h.frz a ha]
  shape b arr bt hb := by
    obtain ⟨arr1, h1, h2⟩ := h.shape b arr bt hb
    obtain ⟨arr2, h3, h4⟩ := h'.shape b arr1 bt h1
    exact ⟨arr2, h3, by rw [h4, h2]⟩
  Lnew r p hr := by
    rcases h'.Lnew r p hr with h1 | h1
    · exact h.own h1
    · exact .inr (Nat.le_trans h.size h1)
def GlobOK (T : Tab) (S : Stab) (w : World) : Prop := ∀ g c ty, T.glob g = some (c, ty) → Rel T.P S w (.pt c (some ty) 0 0 0) noLoc (.pointer (some ⟨g, 0, none⟩))
structure St (T : Tab) (S : Stab) (w : World) (L : Loc) (h : Hs) (ids : List Nat) : Prop where
  inv : Inv T.P S w L h
  nd : ids.Nodup ∧ ∀ b, ids.getLast? = some b → ∀ i ∈ ids, i ≤ b
  fresh : ∀ i, (i ∈ ids ∨ ∃ b, ids.getLast? = some b ∧ b ≤ i) → L i = none
  dom : ∀ r, L r = none → h r = none
  glob : GlobOK T S w
theorem St.tail {T : Tab} {S : Stab} {w : World} {L : Loc} {h : Hs} {i : Nat} {rest : List Nat} (hst : St T S w L h (i :: rest)) :
    (rest.Nodup ∧ ∀ b, rest.getLast? = some b → ∀ j ∈ rest, j ≤ b) ∧ ∀ j, (j ∈ rest ∨ ∃ b, rest.getLast? = some b ∧ b ≤ j) → j ≠ i ∧ L j = none := by
  obtain ⟨h1, h2⟩ := hst.nd
  have h3 := List.nodup_cons.1 h1
  cases rest with
  | nil => exact ⟨⟨List.nodup_nil, fun b hb => by simp at hb⟩, fun j hj => by simp at hj⟩
  | cons k rest =>
    have hl : (i :: k :: rest).getLast? = (k :: rest).getLast? := by simp [List.getLast?_cons]
    rw [hl] at h2
    refine ⟨⟨h3.2, fun b hb j hj => h2 b hb j (List.mem_cons_of_mem _ hj)⟩, fun j hj => ⟨?_, hst.fresh j ?_⟩⟩
    · rcases hj with hj | ⟨b, hb, hbj⟩
      · rintro rfl; exact h3.1 hj
      · have hi := h2 b hb i (by simp)
        have hm : b ∈ k :: rest := List.mem_of_getLast? hb
        have : i ≠ b := by rintro rfl; exact h3.1 hm
        omega
    · rw [hl]
      rcases hj with hj | hj
      · exact .inl (List.mem_cons_of_mem _ hj)
      · exact .inr hj
theorem Tree.go_some {α R : Type} {f : α → Option R} {x : R} : ∀ {t : Tree α}, t.go f = some x → ∃ y, t.val = some y ∧ f y = some x
  | .leaf a, h => ⟨a, rfl, h⟩
  | .fail, h => by cases h
  | .br b t e, h => by
    cases b with
    | true => exact Tree.go_some (t := t) h
    | false => exact Tree.go_some (t := e) h
def HP.post {α : Type} : HP α → Hs → List Nat → (α → Hs → List Nat → Prop) → Prop
  | .ret a, h, ids, Q => Q a h ids
  | .fail, _, _, _ => False
  | .chk b p, h, ids, Q => b = true ∧ p.post h ids Q
  | .opt _ o k, h, ids, Q => ∃ x, o = some x ∧ (k x).post h ids Q
  | .tree _ t k, h, ids, Q => ∃ x, t.val = some x ∧ (k x).post h ids Q
  | .rd r k, h, ids, Q => ∃ row, h r = some row ∧ (k row).post h ids Q
  | .wr r row p, h, ids, Q => (∃ old, h r = some old) ∧ p.post (upd h r row) ids Q
  | .kill r p, h, ids, Q => p.post (upd h r none) ids Q
  | .new row k, h, ids, Q => match ids with
    | [] => False
    | i :: rest => (k i).post (upd h i (some row)) rest Q
theorem HP.post_mono {α : Type} (p : HP α) : ∀ {h : Hs} {ids : List Nat} {Q Q' : α → Hs → List Nat → Prop}, (∀ a h ids, Q a h ids → Q' a h ids) → p.post h ids Q → p.post h ids Q' := by
  induction p with
  | ret a => intro h ids Q Q' hq hp; exact hq _ _ _ hp
  | fail => intro h ids Q Q' hq hp; exact hp
  | chk b p ih => intro h ids Q Q' hq hp; exact ⟨hp.1, ih hq hp.2⟩
  | opt β o k ih => intro h ids Q Q' hq hp; obtain ⟨x, hx, hp⟩ := hp; exact ⟨x, hx, ih x hq hp⟩
  | tree β t k ih => intro h ids Q Q' hq hp; obtain ⟨x, hx, hp⟩ := hp; exact ⟨x, hx, ih x hq hp⟩
  | rd r k ih => intro h ids Q Q' hq hp; obtain ⟨x, hx, hp⟩ := hp; exact ⟨x, hx, ih x hq hp⟩
  | wr r row p ih => intro h ids Q Q' hq hp; exact ⟨hp.1, ih hq hp.2⟩
  | kill r p ih => intro h ids Q Q' hq hp; exact ih (h := upd h r none) hq hp
  | new row k ih =>
    intro h ids Q Q' hq hp
    cases ids with
    | nil => exact hp
    | cons i rest => exact ih i hq hp
theorem HP.post_bind {α β : Type} (p : HP α) (f : α → HP β) : ∀ {h : Hs} {ids : List Nat} {Q : β → Hs → List Nat → Prop},
    (p.bind f).post h ids Q ↔ p.post h ids fun a h ids => (f a).post h ids Q := by
  induction p with
  | ret a => intro h ids Q; rfl
  | fail => intro h ids Q; rfl
  | chk b p ih => intro h ids Q; simp only [HP.bind, HP.post, ih]
  | opt β o k ih => intro h ids Q; simp only [HP.bind, HP.post, ih]
  | tree β t k ih => intro h ids Q; simp only [HP.bind, HP.post, ih]
  | rd r k ih => intro h ids Q; simp only [HP.bind, HP.post, ih]
  | wr r row p ih => intro h ids Q; simp only [HP.bind, HP.post, ih]
  | kill r p ih => intro h ids Q; simp only [HP.bind, HP.post, ih]
  | new row k ih =>
    intro h ids Q
    cases ids with
    | nil => rfl
    | cons i rest => simp only [HP.bind, HP.post, ih]
def look (H : Hp) : Hs := fun r => (H[r]?).getD none
theorem look_some {H : Hp} {r : Nat} {row : Row} : look H r = some row ↔ H[r]? = some (some row) := by
  unfold look
  cases hr : H[r]? with
  | none => simp
  | some x => simp
theorem run_acc {α R : Type} (p : HP α) : ∀ {k : α → Hp → List Nat → List Nat → Option R} {H : Hp} {rs ws : List Nat} {x : R},
    p.run k H rs ws = some x → ∃ a H' rs' ws' news, k a H' (rs' ++ rs) (ws' ++ ws) = some x ∧ H'.length = H.length + news ∧
      (∀ r, r ∉ ws' → look H' r = look H r) ∧ (∀ r, H.length ≤ r → r < H'.length → r ∈ ws') ∧ (∀ r ∈ ws', r < H'.length) ∧
      ∀ (h : Hs) (more : List Nat), (∀ r ∈ rs' ++ ws', r < H.length → h r = look H r) →
        p.post h ((List.range news).map (· + H.length) ++ more) fun a' h' ids' => a' = a ∧ ids' = more ∧ (∀ r ∈ ws', h' r = look H' r) ∧ ∀ r, r ∉ ws' → h' r = h r := by
  induction p with
  | ret a =>
    intro k H rs ws x hp
    exact ⟨a, H, [], [], 0, by simpa [HP.run] using hp, by simp, fun _ _ => rfl, fun r h1 h2 => by omega, by simp, fun h more hh => by simp [HP.post]⟩
  | fail => intro k H rs ws x hp; simp [HP.run] at hp
  | chk b p ih =>
    intro k H rs ws x hp
    simp only [HP.run] at hp
    cases b with
    | false => simp at hp
    | true =>
      obtain ⟨a, H', rs', ws', news, h1, h2, h3, h4, h5, h6⟩ := ih (by simpa using hp)
      exact ⟨a, H', rs', ws', news, h1, h2, h3, h4, h5, fun h more hh => ⟨rfl, h6 h more hh⟩⟩
  | opt β o f ih =>
    intro k H rs ws x hp
    simp only [HP.run] at hp
    cases o with
    | none => simp [oM] at hp
    | some y =>
      obtain ⟨a, H', rs', ws', news, h1, h2, h3, h4, h5, h6⟩ := ih y (by simpa [oM] using hp)
      exact ⟨a, H', rs', ws', news, h1, h2, h3, h4, h5, fun h more hh => ⟨y, rfl, h6 h more hh⟩⟩
  | tree β t f ih =>
    intro k H rs ws x hp
    simp only [HP.run] at hp
    obtain ⟨y, hy, hp⟩ := Tree.go_some hp
    obtain ⟨a, H', rs', ws', news, h1, h2, h3, h4, h5, h6⟩ := ih y hp
    exact ⟨a, H', rs', ws', news, h1, h2, h3, h4, h5, fun h more hh => ⟨y, hy, h6 h more hh⟩⟩
  | rd r f ih =>
    intro k H rs ws x hp
    simp only [HP.run] at hp
    split at hp
    · rename_i row hr
      obtain ⟨a, H', rs', ws', news, h1, h2, h3, h4, h5, h6⟩ := ih row hp
      refine ⟨a, H', rs' ++ [r], ws', news, by simpa using h1, h2, h3, h4, h5, fun h more hh => ⟨row, ?_, h6 h more fun r' hr' hl => hh r' (by simp at hr' ⊢; rcases hr' with h | h <;> simp [h]) hl⟩⟩
      have hl : r < H.length := by
        rcases Nat.lt_or_ge r H.length with h | h
        · exact h
        · simp [List.getElem?_eq_none h] at hr
      rw [hh r (by simp) hl]
      exact look_some.2 hr
    · simp at hp
  | wr r row p ih =>
    intro k H rs ws x hp
    simp only [HP.run] at hp
    split at hp
    · rename_i old hr
      have hl : r < H.length := by
        rcases Nat.lt_or_ge r H.length with h | h
        · exact h
        · simp [List.getElem?_eq_none h] at hr
      obtain ⟨a, H', rs', ws', news, h1, h2, h3, h4, h5, h6⟩ := ih hp
      have hlk : ∀ r', r' ≠ r → look (H.set r row) r' = look H r' := by
        intro r' hne; unfold look; rw [List.getElem?_set_ne (Ne.symm hne)]
      have hlr : look (H.set r row) r = row := by unfold look; simp [List.getElem?_set_self hl]
      refine ⟨a, H', rs', ws' ++ [r], news, by simpa using h1, by simpa using h2, fun r' hr' => ?_, fun r' h7 h8 => by have := h4 r' (by simpa using h7) h8; simp [this], fun r' hr' => ?_, fun h more hh => ⟨⟨old, ?_⟩, ?_⟩⟩
      · simp at hr'
        rw [h3 r' hr'.1, hlk r' hr'.2]
      · simp at hr'
        rcases hr' with h | h
        · exact h5 r' h
        · subst h; rw [h2]; simp; omega
      · rw [hh r (by simp) hl]; exact look_some.2 hr
      · have := h6 (upd h r row) more (fun r' hr' hl' => by
          by_cases e : r' = r
          · subst e; rw [upd_same, hlr]
          · rw [upd_ne _ _ e, hlk r' e]
            refine hh r' ?_ (by simpa using hl')
            simp at hr' ⊢; rcases hr' with h | h <;> simp [h])
        simp only [List.length_set] at this
        refine HP.post_mono p (fun a' h' ids' ⟨q1, q2, q3, q4⟩ => ⟨q1, q2, fun r' hr' => ?_, fun r' hr' => ?_⟩) this
        · simp at hr'
          rcases hr' with e | e
          · exact q3 r' e
          · subst e
            by_cases hm : r' ∈ ws'
            · exact q3 r' hm
            · rw [q4 r' hm, upd_same, h3 r' hm, hlr]
        · simp at hr'
          rw [q4 r' hr'.1, upd_ne _ _ hr'.2]
    · simp at hp
  | kill r p ih =>
    intro k H rs ws x hp
    simp only [HP.run] at hp
    split at hp
    · rename_i old hr
      have hl : r < H.length := by
        rcases Nat.lt_or_ge r H.length with h | h
        · exact h
        · simp [List.getElem?_eq_none h] at hr
      obtain ⟨a, H', rs', ws', news, h1, h2, h3, h4, h5, h6⟩ := ih hp
      have hlk : ∀ r', r' ≠ r → look (H.set r none) r' = look H r' := by
        intro r' hne; unfold look; rw [List.getElem?_set_ne (Ne.symm hne)]
      have hlr : look (H.set r none) r = none := by unfold look; simp [List.getElem?_set_self hl]
      refine ⟨a, H', rs', ws' ++ [r], news, by simpa using h1, by simpa using h2, fun r' hr' => ?_, fun r' h7 h8 => by have := h4 r' (by simpa using h7) h8; simp [this], fun r' hr' => ?_, fun h more hh => ?_⟩
      · simp at hr'
        rw [h3 r' hr'.1, hlk r' hr'.2]
      · simp at hr'
        rcases hr' with h | h
        · exact h5 r' h
        · subst h; rw [h2]; simp; omega
      · have := h6 (upd h r none) more (fun r' hr' hl' => by
          by_cases e : r' = r
          · subst e; rw [upd_same, hlr]
          · rw [upd_ne _ _ e, hlk r' e]
            refine hh r' ?_ (by simpa using hl')
            simp at hr' ⊢; rcases hr' with h | h <;> simp [h])
        simp only [List.length_set] at this
        refine HP.post_mono p (fun a' h' ids' ⟨q1, q2, q3, q4⟩ => ⟨q1, q2, fun r' hr' => ?_, fun r' hr' => ?_⟩) this
        · simp at hr'
          rcases hr' with e | e
          · exact q3 r' e
          · subst e
            by_cases hm : r' ∈ ws'
            · exact q3 r' hm
            · rw [q4 r' hm, upd_same, h3 r' hm, hlr]
        · simp at hr'
          rw [q4 r' hr'.1, upd_ne _ _ hr'.2]
    · simp at hp
  | new row f ih =>
    intro k H rs ws x hp
    simp only [HP.run] at hp
    obtain ⟨a, H', rs', ws', news, h1, h2, h3, h4, h5, h6⟩ := ih _ hp
    have hlk : ∀ r', r' ≠ H.length → look (H ++ [some row]) r' = look H r' := by
      intro r' hne; unfold look
      rcases Nat.lt_or_ge r' H.length with h | h
      · rw [List.getElem?_append_left h]
      · rw [List.getElem?_eq_none h, List.getElem?_eq_none (by simp; omega)]
    have hlr : look (H ++ [some row]) H.length = some row := by unfold look; simp
    simp only [List.length_append, List.length_singleton] at h2 h4 h6
    refine ⟨a, H', rs', ws' ++ [H.length], news + 1, by simpa using h1, by omega, fun r' hr' => ?_, fun r' h7 h8 => ?_, fun r' hr' => ?_, fun h more hh => ?_⟩
    · simp at hr'
      rw [h3 r' hr'.1, hlk r' hr'.2]
    · by_cases e : r' = H.length
      · simp [e]
      · have := h4 r' (by omega) h8; simp [this]
    · simp at hr'
      rcases hr' with h | h
      · exact h5 r' h
      · omega
    · have e : (List.range (news + 1)).map (· + H.length) = H.length :: (List.range news).map (· + (H.length + 1)) := by
        rw [List.range_succ_eq_map]
        simp only [List.map_cons, List.map_map, Nat.zero_add]
        congr 1
        apply List.map_congr_left
        intro n hn; simp; omega
      rw [e, List.cons_append]
      show (f H.length).post (upd h H.length (some row)) _ _
      have := h6 (upd h H.length (some row)) more (fun r' hr' hl' => by
        by_cases e : r' = H.length
        · subst e; rw [upd_same, hlr]
        · rw [upd_ne _ _ e, hlk r' e]
          refine hh r' ?_ (by omega)
          simp at hr' ⊢; rcases hr' with h | h <;> simp [h])
      refine HP.post_mono _ (fun a' h' ids' ⟨q1, q2, q3, q4⟩ => ⟨q1, q2, fun r' hr' => ?_, fun r' hr' => ?_⟩) this
      · simp at hr'
        rcases hr' with e | e
        · exact q3 r' e
        · subst e
          by_cases hm : H.length ∈ ws'
          · exact q3 _ hm
          · rw [q4 _ hm, upd_same, h3 _ hm, hlr]
      · simp at hr'
        rw [q4 r' hr'.1, upd_ne _ _ hr'.2]
end Go.Ev
