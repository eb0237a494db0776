import Derived.Test.YtnmljkjdflfdoaaDoorOX5
set_option linter.all false
set_option linter.unusedVariables false
namespace Go.Aes

/-! ### what is worked off ahead of all else when two forms are held against each other -/
def tl0 : Nat := 0
def tl1 : Nat := tl0
def tl2 : Nat := tl1
def tl3 : Nat := tl2
def tl4 : Nat := tl3
def tl5 : Nat := tl4
def tl6 : Nat := tl5
def tl7 : Nat := tl6
def tl8 : Nat := tl7
def tl9 : Nat := tl8
def tl10 : Nat := tl9
def tl11 : Nat := tl10
def tl12 : Nat := tl11
def tl13 : Nat := tl12
def tl14 : Nat := tl13
def tl15 : Nat := tl14
def tl16 : Nat := tl15
def tl17 : Nat := tl16
def tl18 : Nat := tl17
def tl19 : Nat := tl18
def tl20 : Nat := tl19
def tl21 : Nat := tl20
def tl22 : Nat := tl21
def tl23 : Nat := tl22
def tl24 : Nat := tl23
def tl25 : Nat := tl24
def tl26 : Nat := tl25
def tl27 : Nat := tl26
def tl28 : Nat := tl27
def tl29 : Nat := tl28
def tl30 : Nat := tl29
def tl31 : Nat := tl30
def tl32 : Nat := tl31
def tl33 : Nat := tl32
def tl34 : Nat := tl33
def tl35 : Nat := tl34
def tl36 : Nat := tl35
def tl37 : Nat := tl36
def tl38 : Nat := tl37
def tl39 : Nat := tl38
def tl40 : Nat := tl39
def tl41 : Nat := tl40
def tl42 : Nat := tl41
def tl43 : Nat := tl42
def tl44 : Nat := tl43
def tl45 : Nat := tl44
def tl46 : Nat := tl45
def tl47 : Nat := tl46
def tl48 : Nat := tl47
def tl49 : Nat := tl48
def tl50 : Nat := tl49
def tl51 : Nat := tl50
def tl52 : Nat := tl51
def tl53 : Nat := tl52
def tl54 : Nat := tl53
def tl55 : Nat := tl54
def tl56 : Nat := tl55
def tl57 : Nat := tl56
def tl58 : Nat := tl57
def tl59 : Nat := tl58
def tl60 : Nat := tl59

/-! ### answers: what fails, and what goes round -/
class Mon (R : Type) where
  fail : R
  pan : AV → AH → R
  fix : ((List AV → AH → R) → List AV → AH → R) → List AV → AH → R
abbrev fail {R : Type} [Mon R] : R := Mon.fail

abbrev KT (R : Type) := List AV → AH → R
abbrev Env := List (Nat × AV)

def fixN {R : Type} (e : R) (F : KT R → KT R) : Nat → KT R
  | 0 => fun _ _ => e
  | n + 1 => F (fixN e F n)

/-! ### the slots opened -/
@[reducible] def Cur (R : Type) : Nat → Type
  | 0 => R
  | n + 1 => AV → Cur R n

section
variable {R : Type} [Mon R]

def opn : (n : Nat) → List AV → Cur R n → R
  | 0, l, f => match l with
    | [] => f
    | _ :: _ => fail
  | n + 1, l, f => match l with
    | [] => fail
    | a :: r => opn n r (f a)

def cur : (n : Nat) → (List AV → R) → Cur R n
  | 0, g => g []
  | n + 1, g => fun a => cur n fun l => g (a :: l)

def sel : Nat → List AV → AV
  | _, [] => undef
  | 0, a :: _ => a
  | n + 1, _ :: r => sel n r

def zipE : List Nat → List AV → Env
  | t :: ts, a :: as => (t, a) :: zipE ts as
  | _, _ => []

def lk (t : Nat) : Env → Option AV
  | [] => none
  | p :: r => bif t.beq p.1 then some p.2 else lk t r

def odef (x : Option AV) : AV :=
  match x with
  | some v => v
  | none => undef

def mkF : List Nat → Env → List AV
  | [], _ => []
  | s :: r, e => odef (lk s e) :: mkF r e

def gO {α : Type} (x : Option α) (k : α → R) : R := (fun (_ : Nat) => match x with
  | some v => k v
  | none => fail) tl60

def gB (b : Bool) (x y : R) : R := (fun (_ : Nat) => match b with
  | true => x
  | false => y) tl60

theorem gB_true (x y : R) : gB true x y = x := rfl
theorem gB_false (x y : R) : gB false x y = y := rfl

/-! ### the steps -/
def qO {α : Type} (x : Option α) (k : α → R) : R :=
  match x with
  | some v => k v
  | none => fail

def qRes (r : Option Res) (k : AV → AH → R) : R :=
  match r with
  | some r => (match r with
    | .val v H => k v H
    | .panic v H => Mon.pan v H)
  | none => fail

/-- of those none may panic -/
def qResN (r : Option Res) (k : AV → AH → R) : R :=
  match r with
  | some r => (match r with
    | .val v H => k v H
    | .panic _ _ => fail)
  | none => fail

def qPan (x : AV) (H : AH) : R :=
  match x with
  | .iface t v => Mon.pan (.iface t v) H
  | _ => fail

def qHp (x : Option (AV × AH)) (k : AV → AH → R) : R :=
  match x with
  | some p => (match p with
    | (v, H) => k v H)
  | none => fail

def qPick (c a b : AV) (k : AV → R) : R :=
  match c with
  | .bool t => (match t with
    | true => k a
    | false => k b)
  | _ => fail

def qNew (o : AO) (w : Wr) (H : AH) (k : AV → AH → R) : R :=
  match H.new o with
  | some p => (match p with
    | (i, H) => k (w.mk i) H)
  | none => fail

def qBox (v : AV) (H : AH) (k : AV → AH → R) : R :=
  bif allOne v.cells then qNew (.cells v.cells) .ptr H k else fail

def cellsK (x : Option AO) (k : List AV → R) : R :=
  match x with
  | some o => (match o with
    | .cells cs => k cs
    | .obj _ _ cs => k cs
    | _ => fail)
  | none => fail

/-- cells written -/
def stK (x : Option AO) (o : Nat) (vs : List AV) (k : AO → R) : R :=
  match x with
  | some ob => (match ob with
    | .cells cs => qO (setRange cs o vs) fun cs => k (.cells cs)
    | .obj t j cs => bif j.ble 1 then qO (setRange cs o vs) fun cs => k (.obj t j cs) else fail
    | _ => fail)
  | none => fail

def cellsC (x : Option AO) (k : List AV → R) : R :=
  match x with
  | some o => (match o with
    | .cells cs => k cs
    | _ => fail)
  | none => fail

def qLd (a : AV) (H : AH) (k : AV → R) : R :=
  match a with
  | .ptr i o => cellsK (H.get i) fun cs => qO cs[o]? k
  | .vptr row o => qO row[o]? k
  | _ => fail

def qLdA (n : Nat) (a : AV) (H : AH) (k : AV → R) : R :=
  match a with
  | .ptr i o => cellsK (H.get i) fun cs => qO (slice? cs o n) fun l => k (.agg l)
  | .vptr row o => qO (slice? row o n) fun l => k (.agg l)
  | _ => fail

def qSt (n : Nat) (a v : AV) (H : AH) (k : AV → AH → R) : R :=
  match a with
  | .ptr i o => bif v.cells.length.beq n && allOne v.cells && H.okI i then stK (H.get i) o v.cells fun ob => k undef (H.set i (some ob)) else fail
  | _ => fail

def qFa (off : Nat) (a : AV) (k : AV → R) : R :=
  match a with
  | .ptr i o => k (.ptr i (o + off))
  | .vptr r o => k (.vptr r (o + off))
  | _ => fail

def natK (x : AV) (k : Nat → R) : R :=
  match x with
  | .int _ n => bif decide (0 ≤ n) then k n.toNat else fail
  | _ => fail

/-- a place in a slice -/
def qIa (n : Nat) (a ix : AV) (k : AV → R) : R :=
  natK ix fun j => match a with
    | .sl rows _ => qO rows[j]? fun r => bif r.length.beq n then k (.vptr r 0) else fail
    | .hsl i o m _ sz _ => bif j.blt m && sz.beq n then k (.ptr i (o + j * n)) else fail
    | _ => fail

/-- a place in an array -/
def qIaA (len n : Nat) (a ix : AV) (k : AV → R) : R :=
  natK ix fun j => bif j.blt len then (match a with
    | .ptr i o => k (.ptr i (o + j * n))
    | .vptr r o => k (.vptr r (o + j * n))
    | _ => fail) else fail

def qNc (x : AV) (k : AV → R) : R :=
  match x with
  | .ptr i o => k (.ptr i o)
  | .vptr r o => k (.vptr r o)
  | .fn f a b => (match f with
    | .func g => k (.fn (.func g) a b)
    | _ => fail)
  | _ => fail

def intsK (x y : AV) (k : IntKind → Int → Int → R) (e : R) : R :=
  match x with
  | .int a m => (match y with
    | .int b n => bif decide (a = b) then k a m n else fail
    | _ => e)
  | _ => e

def qLss (X : Cx) (t : Nat) (x y : AV) (k : AV → R) : R := intsK x y (fun _ m n => k (.bool (decide (m < n)))) (qO (binop X .lss t x y) k)
def qLeq (X : Cx) (t : Nat) (x y : AV) (k : AV → R) : R := intsK x y (fun _ m n => k (.bool (decide (m ≤ n)))) (qO (binop X .leq t x y) k)
def qGtr (X : Cx) (t : Nat) (x y : AV) (k : AV → R) : R := intsK x y (fun _ m n => k (.bool (decide (n < m)))) (qO (binop X .gtr t x y) k)
def qGeq (X : Cx) (t : Nat) (x y : AV) (k : AV → R) : R := intsK x y (fun _ m n => k (.bool (decide (n ≤ m)))) (qO (binop X .geq t x y) k)
def qEql (X : Cx) (t : Nat) (x y : AV) (k : AV → R) : R := intsK x y (fun _ m n => k (.bool (m == n))) (qO (binop X .eql t x y) k)
def qNeq (X : Cx) (t : Nat) (x y : AV) (k : AV → R) : R := intsK x y (fun _ m n => k (.bool (!(m == n)))) (qO (binop X .neq t x y) k)
def qAdd (X : Cx) (t : Nat) (x y : AV) (k : AV → R) : R := intsK x y (fun a m n => k (.int a (a.wrap (m + n)))) (qO (binop X .add t x y) k)
def qSub (X : Cx) (t : Nat) (x y : AV) (k : AV → R) : R := intsK x y (fun a m n => k (.int a (a.wrap (m - n)))) (qO (binop X .sub t x y) k)
def qMul (X : Cx) (t : Nat) (x y : AV) (k : AV → R) : R := intsK x y (fun a m n => k (.int a (a.wrap (m * n)))) (qO (binop X .mul t x y) k)

def qQuo (X : Cx) (t : Nat) (x y : AV) (k : AV → R) : R := intsK x y (fun a m n => bif decide (n = 0) then fail else k (.int a (a.wrap (m.tdiv n)))) (qO (binop X .quo t x y) k)
def qRem (X : Cx) (t : Nat) (x y : AV) (k : AV → R) : R := intsK x y (fun a m n => bif decide (n = 0) then fail else k (.int a (m.tmod n))) (qO (binop X .rem t x y) k)

def qIx (x ix : AV) (k : AV → R) : R :=
  natK ix fun j => match x with
    | .str s => qO s[j]? fun b => k (.int .u8 b.toNat)
    | _ => fail

def qLenS (x : AV) (k : AV → R) : R :=
  match x with
  | .str s => k (.int .i64 s.length)
  | _ => fail

def qLenL (x : AV) (k : AV → R) : R :=
  match x with
  | .sl rows _ => k (.int .i64 rows.length)
  | .hsl _ _ n _ _ _ => k (.int .i64 n)
  | _ => fail

def qExt (x : AV) (i : Nat) (k : AV → R) : R :=
  match x with
  | .tup vs => qO vs[i]? k
  | _ => fail

def qNot (x : AV) (k : AV → R) : R :=
  match x with
  | .bool b => k (.bool !b)
  | _ => fail

def qCallV (C : CallF) (g : AV) (as : List AV) (H : AH) (k : AV → AH → R) : R :=
  match g with
  | .fn f first cap => (match f with
    | .func g => qRes (C g (first ++ as ++ cap) H) k
    | _ => fail)
  | _ => fail

def qCallVN (C : CallF) (g : AV) (as : List AV) (H : AH) (k : AV → AH → R) : R :=
  match g with
  | .fn f first cap => (match f with
    | .func g => qResN (C g (first ++ as ++ cap) H) k
    | _ => fail)
  | _ => fail

def qRange (x : AV) (H : AH) (k : AV → AH → R) : R :=
  match x with
  | .str s => qNew (.iter s 0) .it H k
  | _ => fail

def qNext (it : AV) (H : AH) (k : AV → AH → R) : R :=
  match it with
  | .it i => qHp (nextAt i H) k
  | _ => fail

def qMkS (z : List AV) (sz b : Nat) (n c : AV) (H : AH) (k : AV → AH → R) : R :=
  qO (asN n) fun n => qO (asN c) fun c =>
    bif (c * (b + 1)).blt most && n.beq c && z.length.beq sz && !sz.beq 0 then qNew (.cells ((List.replicate n z).flatten)) (.hsl n sz) H k else fail

def qBstr (x : AV) (H : AH) (k : AV → R) : R :=
  bif isSl x then qO (readRows 1 x H) fun rows => qO (bytesOf rows) fun s => k (.str s) else fail

def qUn (op : UnOp) (x : AV) (k : AV → R) : R :=
  match scal x with
  | some a => qO (ofSem (Op.unary op a)) k
  | none => fail

def qPartA (off n : Nat) (x : AV) (k : AV → R) : R :=
  match x with
  | .agg cs => k (.agg ((cs.drop off).take n))
  | _ => fail

def qPart (off : Nat) (x : AV) (k : AV → R) : R :=
  match x with
  | .agg cs => qO cs[off]? k
  | _ => fail

def qMset (X : Cx) (t : Nat) (m i v : AV) (H : AH) (k : AV → AH → R) : R := qO (mapSet X t m i v H) fun H => k undef H

def qMlen (m : AV) (H : AH) (k : AV → R) : R :=
  match m with
  | .map r => (match r with
    | none => k (.int .i64 0)
    | some r => (match H.get r with
      | some o => (match o with
        | .map es => k (.int .i64 es.length)
        | _ => fail)
      | none => fail))
  | _ => fail

/-! ### guards, conditions -/
def qG (g : AV) (w : Bool) (A : (AV → AH → R) → R) (H : AH) (k : AV → AH → R) : R :=
  match g with
  | .bool b => bif b == w then A k else k undef H
  | .tup _ => k undef H
  | _ => fail

def qIf (c : AV) (a b : R) : R :=
  match c with
  | .bool t => (match t with
    | true => a
    | false => b)
  | _ => fail

/-! ### an operation over named values -/
def ve (env : Env) : Operand → Option AV
  | .tmp t => lk t env
  | .const v => ofV v
  | .func f => some (.fn (.func f) [] [])
  | .global _ => none

def ves (env : Env) : List Operand → Option (List AV)
  | [] => some []
  | x :: r => match ve env x with
    | some v => (match ves env r with
      | some l => some (v :: l)
      | none => none)
    | none => none

def veps (env : Env) : List (Nat × Operand) → Option (List (Nat × AV))
  | [] => some []
  | p :: r => match ve env p.2 with
    | some v => (match veps env r with
      | some l => some ((p.1, v) :: l)
      | none => none)
    | none => none

def veo (env : Env) : Option Operand → Option (Option AV)
  | none => some none
  | some x => match ve env x with
    | some v => some (some v)
    | none => none

def w2 (x y : Option AV) (k : AV → AV → R) : R := gO x fun v => gO y fun w => k v w

/-- fields put in their places -/
def fillP (cells : List AV) : List (Nat × Nat × AV) → Option (List AV)
  | [] => some cells
  | (o, n, v) :: rest =>
    bif v.cells.length.beq n && allOne v.cells then
      match setRange cells o v.cells with
      | some cs => fillP cs rest
      | none => none
    else none

def places (place : Nat → Option (Nat × Nat)) : List (Nat × AV) → Option (List (Nat × Nat × AV))
  | [] => some []
  | p :: r => match place p.1 with
    | some q => (match places place r with
      | some l => some ((q.1, q.2, p.2) :: l)
      | none => none)
    | none => none

def placeOf (X : Cx) (t : Nat) : Option (Nat → Option (Nat × Nat)) :=
  match X.und t with
  | some (.struct fs) => some fun i => match fs.toList[i]? with
    | some f => match X.size f.type with
      | some n => some (f.offset, n)
      | none => none
    | none => none
  | some (.array _ e) => match X.size e with
    | some n => some fun i => some (i * n, n)
    | none => none
  | _ => none

def qBld (z : List AV) (l : List (Nat × Nat × AV)) (k : AV → R) : R := qO (fillP z l) fun cs => k (.agg cs)

def hBuild (X : Cx) (t : Nat) (l : List (Nat × AV)) (k : AV → R) : R :=
  gO (X.zero t) fun z => gO (placeOf X t) fun pl => gO (places pl l) fun ps => qBld z ps k

def qRows (z : List AV) (len : Nat) (parts : List (Nat × AV)) (k : AV → R) : R := qO (putRow z (List.replicate len z) parts) fun rows => k (.sl rows .full)

def qRowsH (n : Nat) (z : List AV) (len : Nat) (parts : List (Nat × AV)) (H : AH) (k : AV → AH → R) : R :=
  qO (putRow z (List.replicate len z) parts) fun rows => qNew (.cells rows.flatten) (.hsl len n) H k

def hRows (X : Cx) (t len : Nat) (parts : List (Nat × AV)) (hm : Bool) (H : AH) (k : AV → AH → R) : R :=
  match X.und t with
  | some (.slice e) => gO (X.zero e) fun z => gO (X.size e) fun n =>
      gB ((len * n).ble 16777216 && z.length.beq n && !n.beq 0 && allOne z) (gB hm (qRowsH n z len parts H k) (qRows z len parts fun v => k v H)) fail
  | _ => fail

def qConvI (kd : IntKind) (x : AV) (k : AV → R) : R :=
  match x with
  | .int _ n => k (.int kd (kd.wrap n))
  | _ => fail

def hConv (X : Cx) (s d : Nat) (x : AV) (H : AH) (k : AV → R) : R :=
  match X.und s, X.und d with
  | some us, some ud => match ud with
    | .int kd => qConvI kd x k
    | .string => (match us with
      | .slice e => (match X.und e with
        | some (.int .u8) => qBstr x H k
        | _ => fail)
      | _ => qO (conv X s d x) k)
    | _ => fail
  | _, _ => fail

def sliceD (d : TypeDesc) (sz : Nat) (x : AV) (lo hi mx : Option AV) : Option AV :=
  match d, x with
  | .string, .str s =>
    match mx with
    | some _ => none
    | none => match bnd hi s.length s.length with
      | none => none
      | some h => match bnd lo 0 h with
        | none => none
        | some l => some (.str ((s.take h).drop l))
  | .slice e, .sl rows tk =>
    bif !headOk rows sz then none else
    match mx with
    | none => match bnd hi rows.length rows.length with
      | none => none
      | some h => match bnd lo 0 h with
        | none => none
        | some l => some (.sl ((rows.take h).drop l) (cutTk tk l h 0 rows.length))
    | some m => match bnd (some m) 0 rows.length with
      | none => none
      | some m => match hi with
        | none => none
        | some h => match bnd (some h) 0 m with
          | none => none
          | some h => match bnd lo 0 h with
            | none => none
            | some l => some (.sl ((rows.take h).drop l) (cutTk3 tk h m))
  | .slice e, .hsl i o n c sz' g =>
    match mx with
    | none => bif sz.beq sz' then
        match bnd hi n c with
        | none => none
        | some h => match bnd lo 0 h with
          | none => none
          | some l => some (.hsl i (o + l * sz') (h - l) (c - l) sz' g)
      else none
    | some _ => none
  | .array n e, .ptr i o =>
    match mx with
    | none => match bnd hi n n with
        | none => none
        | some h => match bnd lo 0 h with
          | none => none
          | some l => some (.hsl i (o + l * sz) (h - l) (n - l) sz false)
    | some _ => none
  | _, _ => none

def elemSz (X : Cx) (d : TypeDesc) : Option Nat :=
  match d with
  | .slice e => X.size e
  | .array _ e => X.size e
  | .string => some 0
  | _ => none

def qSlc (d : TypeDesc) (sz : Nat) (x : AV) (lo hi mx : Option AV) (k : AV → R) : R := qO (sliceD d sz x lo hi mx) k

def hSlc (X : Cx) (t : Nat) (x : AV) (lo hi mx : Option AV) (k : AV → R) : R :=
  gO (X.und t) fun d => gO (elemSz X d) fun sz => qSlc d sz x lo hi mx k

def qApp (n b : Nat) (s x : AV) (hm : Bool) (te : Option Nat) (H : AH) (k : AV → AH → R) : R := qHp (app n b s x hm te H) k

def teOf (X : Cx) (e : Nat) : Option Nat := bif X.tyd e then some e else none

def hBin (X : Cx) (op : BinOp) (t : Nat) (x y : AV) (k : AV → R) : R :=
  match op with
  | .lss => qLss X t x y k
  | .leq => qLeq X t x y k
  | .gtr => qGtr X t x y k
  | .geq => qGeq X t x y k
  | .eql => qEql X t x y k
  | .neq => qNeq X t x y k
  | .add => qAdd X t x y k
  | .sub => qSub X t x y k
  | .mul => qMul X t x y k
  | .quo => qQuo X t x y k
  | .rem => qRem X t x y k
  | op => qO (binop X op t x y) k

def hUn (op : UnOp) (x : AV) (k : AV → R) : R :=
  match op with
  | .not => qNot x k
  | op => qUn op x k

def hLoad (X : Cx) (t : Nat) (a : AV) (H : AH) (k : AV → R) : R :=
  gO (X.isAgg t) fun ag => gO (X.size t) fun n => gB ag (qLdA n a H k) (qLd a H k)

def hStore (X : Cx) (t : Nat) (a v : AV) (H : AH) (k : AV → AH → R) : R := gO (X.size t) fun n => qSt n a v H k

def hField (X : Cx) (t : Nat) (x : AV) (f : Nat) (k : AV → R) : R :=
  match X.und t with
  | some (.struct fs) => gO fs.toList[f]? fun fd => gO (X.size fd.type) fun n => gB (n.beq 0) fail (qFa fd.offset x k)
  | _ => fail

def hIa (X : Cx) (t : Nat) (x i : AV) (k : AV → R) : R :=
  match X.und t with
  | some (.slice e) => gO (X.size e) fun n => qIa n x i k
  | some (.array len e) => gO (X.size e) fun n => qIaA len n x i k
  | _ => fail

def hIx (X : Cx) (t : Nat) (x i : AV) (k : AV → R) : R :=
  match X.und t with
  | some .string => qIx x i k
  | _ => qO (indexOf X t x i) k

def hPart (X : Cx) (t : Nat) (x : AV) (f : Nat) (k : AV → R) : R :=
  match X.und t with
  | some (.struct fs) => gO fs.toList[f]? fun fd => gO (X.isAgg fd.type) fun ag => gO (X.size fd.type) fun n => gB ag (qPartA fd.offset n x k) (qPart fd.offset x k)
  | _ => fail

def isNil : List AV → Bool
  | [] => true
  | _ => false

def hCallS (C : CallF) (pn : Bool) (g : AV) (as : List AV) (H : AH) (k : AV → AH → R) : R :=
  match g with
  | .fn (.func g) first cap => gB (isNil first && isNil cap) (gB pn (qRes (C g as H) k) (qResN (C g as H) k)) fail
  | _ => fail

def hCallB (X : Cx) (hm : Bool) (b : Builtin) (ts : List Nat) (as : List AV) (H : AH) (k : AV → AH → R) : R :=
  match b with
  | .len => (match ts, as with
    | [t], [x] => (match X.und t with
      | some .string => qLenS x fun v => k v H
      | some (.slice _) => qLenL x fun v => k v H
      | some (.map _ _) => qMlen x H fun v => k v H
      | some (.array n _) => k (.int .i64 n) H
      | _ => fail)
    | _, _ => fail)
  | .append => (match ts, as with
    | [st, xt], [s, x] => (match X.und st, X.und xt with
      | some (.slice e), some d => (match d with
        | .int _ => fail
        | _ => gO (X.size e) fun n => gO (X.bytes e) fun b => gO (X.zero e) fun z => gB (z.length.beq n) (gB (X.tyd e) (qApp n b s x hm (some e) H k) (qApp n b s x hm none H k)) fail)
      | _, _ => fail)
    | _, _ => fail)
  | .min => (match as with
    | x :: r => qO (foldO min2 x r) fun v => k v H
    | [] => fail)
  | .max => (match as with
    | x :: r => qO (foldO max2 x r) fun v => k v H
    | [] => fail)
  | _ => fail

/-- the function called is known -/
def isFn : Operand → Bool
  | .func _ => true
  | _ => false

def hOp (X : Cx) (C : CallF) (f : Nat) (pn : Bool) (o : Oper) (env : Env) (H : AH) (k : AV → AH → R) : R :=
  match o.op with
  | .move x => gO (ve env x) fun v => k v H
  | .assign x => gO (ve env x) fun v => k v H
  | .pick c a b => gO (ve env c) fun c => w2 (ve env a) (ve env b) fun a b => qPick c a b fun v => k v H
  | .alloc t => gO (X.zero t) fun z => gB (X.tyd t) (qNew (.obj t 0 z) .ptr H k) (qNew (.cells z) .ptr H k)
  | .box _ x => gO (ve env x) fun v => qBox v H k
  | .build t ps => gO (veps env ps.toList) fun l => hBuild X t l fun v => k v H
  | .buildSlice t n ps => gO (veps env ps.toList) fun l => hRows X t n l (X.hm f (o.dst.getD 0)) H k
  | .load t a => gO (ve env a) fun a => hLoad X t a H fun v => k v H
  | .store t a v => w2 (ve env a) (ve env v) fun a v => hStore X t a v H k
  | .nilCheck x => gO (ve env x) fun x => qNc x fun v => k v H
  | .binOp op t x y _ => w2 (ve env x) (ve env y) fun x y => hBin X op t x y fun v => k v H
  | .unOp op _ x => gO (ve env x) fun x => hUn op x fun v => k v H
  | .convert s d x => gO (ve env x) fun x => hConv X s d x H fun v => k v H
  | .makeFunc g a b => gO (ves env a.toList) fun a => gO (ves env b.toList) fun b => k (.fn g a b) H
  | .makeInterface t x => gO (ve env x) fun v => (match X.und t with
      | some d => (match d with
        | .interface _ => fail
        | _ => k (.iface t v) H)
      | none => fail)
  | .panic x => gO (ve env x) fun v => gB pn (qPan v H) fail
  | .makeMap _ n => (match n with
    | none => qNew (.map []) .map H k
    | some _ => fail)
  | .slice t x lo hi mx => gO (ve env x) fun x => gO (veo env lo) fun lo => gO (veo env hi) fun hi => gO (veo env mx) fun mx => hSlc X t x lo hi mx fun v => k v H
  | .fieldAddr t x f => gO (ve env x) fun x => hField X t x f fun v => k v H
  | .field t x f => gO (ve env x) fun x => hPart X t x f fun v => k v H
  | .indexAddr t x i => w2 (ve env x) (ve env i) fun x i => hIa X t x i fun v => k v H
  | .index t x i => w2 (ve env x) (ve env i) fun x i => hIx X t x i fun v => k v H
  | .lookup t m i ok => w2 (ve env m) (ve env i) fun m i => qO (lookup X t m i ok H) fun v => k v H
  | .mapUpdate t m i v => w2 (ve env m) (ve env i) fun m i => gO (ve env v) fun v => qMset X t m i v H k
  | .range t x => gO (ve env x) fun x => (match X.und t with
      | some .string => qRange x H k
      | _ => fail)
  | .next it b => (match b with
    | true => gO (ve env it) fun it => qNext it H k
    | false => fail)
  | .extract t i => gO (ve env t) fun t => qExt t i fun v => k v H
  | .makeSlice t n c => w2 (ve env n) (ve env c) fun n c => (match X.und t with
      | some (.slice e) => gO (X.zero e) fun z => gO (X.size e) fun sz => gO (X.bytes e) fun b => qMkS z sz b n c H k
      | _ => fail)
  | .call c => (match c.callee with
    | .builtin b => gO (ves env c.args.toList) fun as => hCallB X (X.hm f (o.dst.getD 0)) b c.argTypes.toList as H k
    | .value g => gO (ve env g) fun gv => gO (ves env c.args.toList) fun as => gB (isFn g) (hCallS C pn gv as H k) (gB pn (qCallV C gv as H k) (qCallVN C gv as H k))
    | _ => fail)
  | _ => fail

def putEnv (env : Env) (d : Option Nat) (v : AV) : Env :=
  match d with
  | some d => (d, v) :: env
  | none => env

def hStep (X : Cx) (C : CallF) (f : Nat) (all : List Oper) (o : Oper) (env : Env) (H : AH) (k : AV → AH → R) : R :=
  match o.guard with
  | none => hOp X C f true o env H k
  | some p => gO all[p.1]? fun oj => gO oj.dst fun d => gO (lk d env) fun g => qG g p.2 (hOp X C f true o env H) H k

def hOps (X : Cx) (C : CallF) (f nt : Nat) (all : List Oper) : List Oper → Env → AH → (Env → AH → R) → R
  | [], env, H, k => k env H
  | o :: r, env, H, k => gB (dstOk nt o.dst) (hStep X C f all o env H fun v H => hOps X C f nt all r (putEnv env o.dst v) H k) fail

/-! ### regions that draw -/
def opLog (X : Cx) (f : Nat) (o : Oper) : Bool :=
  match o.op with
  | .load _ _ => true
  | .lookup _ _ _ _ => true
  | .alloc _ => true
  | .box _ _ => true
  | .buildSlice _ _ _ => X.hm f (o.dst.getD 0)
  | .makeMap _ _ => true
  | .range _ _ => true
  | .makeSlice _ _ _ => true
  | .convert _ _ _ => true
  | .call c => (match c.callee with
    | .builtin b => (match b with
      | .len => (match c.argTypes.toList with
        | [t] => (match X.und t with
          | some (.map _ _) => true
          | _ => false)
        | _ => true)
      | _ => false)
    | _ => false)
  | _ => false

/-- loaded again: the same -/
def qSame (v v' : AV) (k : R) : R := bif beqV v' v then k else fail

/-- what an operation looks at -/
def looks1 : Operand → List Nat
  | .tmp t => [t]
  | _ => []

/-- what was made: as it was made -/
def qKeep (z : List AV) (v : AV) (H : AH) (k : R) : R :=
  match v with
  | .ptr i _ => cellsC (H.get i) fun cs => bif beqVs cs z then k else fail
  | _ => fail

def hRe (X : Cx) (o : Oper) (env : Env) (H : AH) (k : R) : R :=
  match o.op with
  | .alloc t => gO o.dst fun d => gO (lk d env) fun v => gO (X.zero t) fun z => gB (X.tyd t) fail (qKeep z v H k)
  | .box _ x => gO o.dst fun d => gO (lk d env) fun v => gO (ve env x) fun c => qKeep c.cells v H k
  | .load t a => gO o.dst fun d => gO (ve env a) fun a => gO (lk d env) fun v => hLoad X t a H fun w => qSame v w k
  | _ => fail

def hRes (X : Cx) (env : Env) (H : AH) (k : R) : List Oper → R
  | [] => k
  | p :: r => hRe X p env H (hRes X env H k r)

def gSame (g g' : Option (Nat × Bool)) : Bool :=
  match g, g' with
  | none, _ => true
  | some p, some q => p.1.beq q.1 && (p.2 == q.2)
  | some _, none => false

def mayRe1 (a : Operand) (d : Option Nat) (w : List Nat) : Bool :=
  match d with
  | some d => !(looks1 a).contains d && !w.contains d && (looks1 a).all fun t => !w.contains t
  | none => false

/-- what may be looked at again, if what it looks at and what it gave nobody has written since -/
def mayRe (o : Oper) (w : List Nat) : Bool :=
  match o.op with
  | .load _ a => mayRe1 a o.dst w
  | .alloc _ => mayRe1 (.const Go.undef) o.dst w
  | .box _ x => mayRe1 x o.dst w
  | _ => false

/-- what is looked at again behind 'q'; the list: what was done, the last first -/
def scan (X : Cx) (f : Nat) (q : Nat × Nat × Oper) : List (Nat × Nat × Oper) → List Nat → Option (List Oper)
  | [], _ => some []
  | p :: r, w =>
    match scan X f q r (p.2.2.dst.toList ++ w) with
    | none => none
    | some l =>
      bif bit q.2.1 p.1 then some l
      else bif opEff p.2.2 then none
      else bif opEff q.2.2 && opLog X f p.2.2 then (bif mayRe p.2.2 w && gSame p.2.2.guard q.2.2.guard then some (p.2.2 :: l) else none)
      else some l

def hStepD (X : Cx) (C : CallF) (f : Nat) (pn : Bool) (all : List Oper) (o : Oper) (rs : List Oper) (env : Env) (H : AH) (k : AV → AH → R) : R :=
  match o.guard with
  | none => hOp X C f pn o env H fun v H => hRes X env H (k v H) rs
  | some p => gO all[p.1]? fun oj => gO oj.dst fun d => gO (lk d env) fun g => qG g p.2 (fun k => hOp X C f pn o env H fun v H => hRes X env H (k v H) rs) H k

def hDops (X : Cx) (C : CallF) (f nt : Nat) (all : List Oper) : List (Nat × Nat × Oper) → List (Nat × Nat × Oper) → Env → AH → (Env → AH → R) → R
  | [], _, env, H, k => k env H
  | q :: r, dn, env, H, k => gB (dstOk nt q.2.2.dst)
      (gO (scan X f q dn []) fun rs => hStepD X C f (r.all fun x => bit x.2.1 q.1) all q.2.2 rs env H fun v H => hDops X C f nt all r (q :: dn) (putEnv env q.2.2.dst v) H k)
    fail

/-! ### code -/
/-- two places that are not one -/
def qTwin (p q : AV) (k : R) : R :=
  match p with
  | .ptr i _ => (match q with
    | .ptr j _ => bif i.beq j then fail else k
    | _ => fail)
  | _ => fail

/-- the end of a region: two places reckoned, two stores in either order -/
def hTail (X : Cx) (C : CallF) (f nt : Nat) (a1 a2 s1 s2 : PO') (env : Env) (H : AH) (k : Env → AH → R) : R :=
  gB (dstOk nt a1.2.2.dst && dstOk nt a2.2.2.dst)
    (hOp X C f false a1.2.2 env H fun v1 _ => hOp X C f false a2.2.2 env H fun v2 _ =>
      match s1.2.2.op, s2.2.2.op with
      | .store t1 p1 x1, .store t2 p2 x2 =>
        w2 (ve (putEnv (putEnv env a1.2.2.dst v1) a2.2.2.dst v2) p1) (ve (putEnv (putEnv env a1.2.2.dst v1) a2.2.2.dst v2) x1) fun p1 x1 =>
        w2 (ve (putEnv (putEnv env a1.2.2.dst v1) a2.2.2.dst v2) p2) (ve (putEnv (putEnv env a1.2.2.dst v1) a2.2.2.dst v2) x2) fun p2 x2 =>
        qTwin p1 p2 (hStore X t1 p1 x1 H fun _ H => hStore X t2 p2 x2 H fun _ H => k (putEnv (putEnv env a1.2.2.dst v1) a2.2.2.dst v2) H)
      | _, _ => fail)
    fail

def hReg (X : Cx) (C : CallF) (f nt : Nat) (ss : List Nat) (ops : List Oper) (draw : Bool) (k : KT R) : KT R := fun fr H =>
  opn ss.length fr (cur ss.length fun l =>
    gB draw (match twSplit (plan ops (ancestors ops []) ops.length 0) with
      | some p => hDops X C f nt ops p.1 [] (zipE ss l) H fun env H => hTail X C f nt p.2.1 p.2.2.1 p.2.2.2.1 p.2.2.2.2 env H fun env H => k (mkF ss env) H
      | none => hDops X C f nt ops (plan ops (ancestors ops []) ops.length 0) [] (zipE ss l) H fun env H => k (mkF ss env) H)
    (hOps X C f nt ops ops (zipE ss l) H fun env H => k (mkF ss env) H))

def idx (t : Nat) : List Nat → Nat → Option Nat
  | [], _ => none
  | s :: r, j => bif t.beq s then some j else idx t r (j + 1)

def qCd (c : List AV → AV) (A B : KT R → KT R) (k : KT R) : KT R := fun fr H => qIf (c fr) (A k fr H) (B k fr H)

/-- an operand where the slots are not open -/
def hCd (ss : List Nat) (c : Operand) (A B : KT R → KT R) (k : KT R) : KT R :=
  match c with
  | .tmp t => (match idx t ss 0 with
    | some j => qCd (sel j) A B k
    | none => fun _ _ => fail)
  | .const v => (match ofV v with
    | some v => qCd (fun _ => v) A B k
    | none => fun _ _ => fail)
  | _ => fun _ _ => fail

def qBl (A : KT R → KT R) (k : KT R) : KT R := A k

def qLoop (A : KT R → KT R) : KT R := Mon.fix A

def lkX (id : Nat) : List (Nat × KT R) → KT R
  | [] => fun _ _ => fail
  | p :: r => bif id.beq p.1 then p.2 else lkX id r

def hC (X : Cx) (C : CallF) (f nt : Nat) (ss : List Nat) (kr : KT R) : Code → List (Nat × KT R) → KT R → KT R
  | .skip, _, k => k
  | .region _ ops draw, _, k => hReg X C f nt ss ops.toList draw k
  | .seq a b, xs, k => hC X C f nt ss kr a xs (hC X C f nt ss kr b xs k)
  | .cond c a b, xs, k => hCd ss c (fun k => hC X C f nt ss kr a xs k) (fun k => hC X C f nt ss kr b xs k) k
  | .block id a, xs, k => qBl (fun k => hC X C f nt ss kr a ((id, k) :: xs) k) k
  | .loop a, xs, _ => qLoop fun k => hC X C f nt ss kr a xs k
  | .exit id, xs, _ => lkX id xs
  | .ret, _, _ => kr
  | .scope a, xs, k => hC X C f nt ss kr a xs k
  | .label _, _, k => k
  | _, _, _ => fun _ _ => fail

def qPtr (a : AV) (k : R) : R :=
  match a with
  | .ptr _ _ => k
  | _ => fail

def hResu (X : Cx) (ss : List Nat) (fr : List AV) (H : AH) : List ResultVar → (List AV → R) → R
  | [], k => k []
  | .tmp t :: r, k => gO (idx t ss 0) fun j => hResu X ss fr H r fun l => k (sel j fr :: l)
  | .cell a t :: r, k => gO (idx a ss 0) fun j => qPtr (sel j fr) (hLoad X t (sel j fr) H fun v => hResu X ss fr H r fun l => k (v :: l))

def nums : Nat → Nat → List Nat
  | 0, _ => []
  | n + 1, k => k :: nums n (k + 1)

def qFn (B : KT R → KT R) (kr : KT R) : KT R := B kr

def hFn (X : Cx) (f : Nat) (fn : Func) (np : Nat) (ss : List Nat) (C : CallF) (as : List AV) (H : AH) (k : AV → AH → R) : R :=
  match fn.body with
  | none => fail
  | some c => gB (fn.ntmps.blt 100000 && np.ble fn.ntmps)
      (opn np as (cur np fun l => qFn (fun kr => hC X C f fn.ntmps ss kr c [] kr) (fun fr H => hResu X ss fr H fn.results.toList fun vs => k (tupOf vs) H) (mkF ss (zipE (nums np 0) l)) H))
    fail

end
end Go.Aes
