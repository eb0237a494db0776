import Derived.WalkKit
set_option linter.all false
namespace Go.Aes

/-! ### a trie of numbers -/
inductive Tr (α : Type) where
  | leaf
  | node (v : Option α) (l r : Tr α)

def Tr.get {α : Type} : Tr α → Nat → Option α
  | .leaf, _ => none
  | .node v l r, k => bif k.beq 0 then v else bif (k % 2).beq 1 then l.get (k / 2) else r.get (k / 2 - 1)

def Tr.put {α : Type} (v : Option α) : Nat → Tr α → Nat → Tr α
  | 0, t, _ => t
  | n + 1, .leaf, k =>
    bif k.beq 0 then .node v .leaf .leaf else bif (k % 2).beq 1 then .node none (Tr.put v n .leaf (k / 2)) .leaf else .node none .leaf (Tr.put v n .leaf (k / 2 - 1))
  | n + 1, .node u l r, k =>
    bif k.beq 0 then .node v l r else bif (k % 2).beq 1 then .node u (Tr.put v n l (k / 2)) r else .node u l (Tr.put v n r (k / 2 - 1))

/-! ### values -/
inductive Tk where
  | nil | full | own (t : Nat) | dead
  deriving DecidableEq

inductive AV where
  | bool (b : Bool)
  | int (k : IntKind) (n : Int)
  | str (s : List UInt8)
  | nilp
  | ptr (i o : Nat)
  | vptr (row : List AV) (o : Nat)
  | sl (rows : List (List AV)) (tk : Tk)
  | hsl (i o n c sz : Nat) (g : Bool)
  | map (r : Option Nat)
  | it (i : Nat)
  | fn (f : Fn) (first cap : List AV)
  | nilfn
  | iface (t : Nat) (v : AV)
  | nilif
  | agg (cs : List AV)
  | tup (vs : List AV)

def undef : AV := .tup []

inductive AO where
  | cells (cs : List AV)
  /-- a block of a known type; 0: one variable, 1: a row, with room, 2: a row of which some cells may be frozen -/
  | obj (t k : Nat) (cs : List AV)
  | map (es : List (AV × AV))
  | iter (rest : List UInt8) (pos : Nat)
  | tok

/-- the heap: a trie (to be computed with), or any function (to be reasoned with) -/
inductive AH where
  | tr (h : Tr AO) (nx : Nat)
  | fn (h : Nat → Option AO) (nx : Nat) (p : ∀ i, nx ≤ i → h i = none)

def AH.nx : AH → Nat
  | .tr _ nx => nx
  | .fn _ nx _ => nx

def AH.get (H : AH) (i : Nat) : Option AO :=
  match H with
  | .tr h _ => h.get i
  | .fn h _ _ => h i

/-- a number that may be written at -/
def AH.okI (H : AH) (i : Nat) : Bool :=
  match H with
  | .tr _ _ => i.blt 1000000000001
  | .fn _ nx _ => i.blt nx

theorem fn_set {h : Nat → Option AO} {nx i : Nat} {o : Option AO} (p : ∀ i, nx ≤ i → h i = none) (hi : i < nx) :
    ∀ j, nx ≤ j → (if j = i then o else h j) = none := by
  intro j hj
  rw [if_neg (by omega)]
  exact p j hj

theorem fn_new {h : Nat → Option AO} {nx : Nat} {o : AO} (p : ∀ i, nx ≤ i → h i = none) :
    ∀ j, nx + 1 ≤ j → (if j = nx then some o else h j) = none := by
  intro j hj
  rw [if_neg (by omega)]
  exact p j (by omega)

def AH.set (H : AH) (i : Nat) (o : Option AO) : AH :=
  match H with
  | .tr h nx => .tr (h.put o 40 i) nx
  | .fn h nx p => if hi : i < nx then .fn (fun j => if j = i then o else h j) nx (fn_set p hi) else .fn h nx p

def AH.new (H : AH) (o : AO) : Option (Nat × AH) :=
  match H with
  | .tr h nx => bif nx.blt 1000000000000 && (h.get nx).isNone then some (nx, .tr (h.put (some o) 40 nx) (nx + 1)) else none
  | .fn h nx p => some (nx, .fn (fun j => if j = nx then some o else h j) (nx + 1) (fn_new p))

/-- a constant of one cell -/
def of1 (v : Value) : Option AV :=
  match v with
  | .bool b => some (.bool b)
  | .int k n => some (.int k n)
  | .string s => some (.str s.data.toList)
  | .pointer a => match a with
    | none => some .nilp
    | some _ => none
  | .slice a n c => match a with
    | none => bif n.beq 0 && c.beq 0 then some (.sl [] .nil) else none
    | some _ => none
  | .map a => match a with
    | none => some (.map none)
    | some _ => none
  | .nilFunc => some .nilfn
  | .func f a b => bif a.size.beq 0 && b.size.beq 0 then some (.fn f [] []) else none
  | .nilIface => some .nilif
  | _ => none

def ofL : List Value → Option (List AV)
  | [] => some []
  | x :: r => match of1 x, ofL r with
    | some a, some l => some (a :: l)
    | _, _ => none

/-- a constant -/
def ofV (v : Value) : Option AV :=
  match v with
  | .agg cs => (ofL cs.toList).map .agg
  | .tuple cs => (ofL cs.toList).map .tup
  | v => of1 v

/-- a number or a bool, as the model's -/
def scal : AV → Option Value
  | .bool b => some (.bool b)
  | .int k n => some (.int k n)
  | _ => none

def ofSem : Sem Value → Option AV
  | .pure (.bool b) => some (.bool b)
  | .pure (.int k n) => some (.int k n)
  | _ => none

def AV.cells : AV → List AV
  | .agg cs => cs
  | v => [v]

def one : AV → Bool
  | .agg _ => false
  | .tup _ => false
  | _ => true

def allOne (l : List AV) : Bool := l.all one

/-! ### the program's tables -/
structure Cx where
  fn : Nat → Option Func
  und : Nat → Option TypeDesc
  zero : Nat → Option (List AV)
  size : Nat → Option Nat
  bytes : Nat → Option Nat
  ext : Nat → List AV → AH → Option (AV × AH)
  hm : Nat → Nat → Bool
  tyd : Nat → Bool

def Cx.isAgg (X : Cx) (t : Nat) : Option Bool :=
  match X.und t with
  | some (.struct _) | some (.array _ _) => some true
  | some _ => some false
  | none => none

def asN : AV → Option Nat
  | .int _ n => bif decide (0 ≤ n) then some n.toNat else none
  | _ => none


def slice? {α : Type} (cs : List α) (o n : Nat) : Option (List α) :=
  let r := (cs.drop o).take n
  bif r.length.beq n then some r else none

def setRange (cs : List AV) (o : Nat) (vs : List AV) : Option (List AV) :=
  bif (o + vs.length).ble cs.length then some (cs.take o ++ vs ++ cs.drop (o + vs.length)) else none

/-! ### what needs no memory -/
def fieldAt (X : Cx) (t : Nat) (a : AV) (f : Nat) : Option AV :=
  match X.und t with
  | some (.struct fs) => match fs.toList[f]? with
    | some fd => match X.size fd.type with
      | some n => bif n.beq 0 then none else
        match a with
        | .ptr i o => some (.ptr i (o + fd.offset))
        | .vptr r o => some (.vptr r (o + fd.offset))
        | _ => none
      | none => none
    | none => none
  | _ => none

def indexAt (X : Cx) (t : Nat) (a ix : AV) : Option AV :=
  match asN ix with
  | none => none
  | some k =>
    match X.und t with
    | some (.array len e) => bif k.blt len then
        match X.size e with
        | some n => match a with
          | .ptr i o => some (.ptr i (o + k * n))
          | .vptr r o => some (.vptr r (o + k * n))
          | _ => none
        | none => none
      else none
    | some (.slice e) =>
      match X.size e with
      | some n => match a with
        | .sl rows _ => match rows[k]? with
          | some r => bif r.length.beq n then some (.vptr r 0) else none
          | none => none
        | .hsl i o m _ sz _ => bif k.blt m && sz.beq n then some (.ptr i (o + k * n)) else none
        | _ => none
      | none => none
    | _ => none

def part (X : Cx) (t : Nat) (cs : List AV) (o : Nat) : Option AV :=
  match X.isAgg t, X.size t with
  | some true, some n => some (.agg ((cs.drop o).take n))
  | some false, some _ => cs[o]?
  | _, _ => none

def fieldOf (X : Cx) (t : Nat) (a : AV) (f : Nat) : Option AV :=
  match X.und t, a with
  | some (.struct fs), .agg cs => match fs.toList[f]? with
    | some fd => part X fd.type cs fd.offset
    | none => none
  | _, _ => none

def indexOf (X : Cx) (t : Nat) (a ix : AV) : Option AV :=
  match asN ix with
  | none => none
  | some k =>
    match X.und t, a with
    | some (.array len e), .agg cs => bif k.blt len then
        match X.size e with
        | some n => part X e cs (k * n)
        | none => none
      else none
    | some .string, .str s => match s[k]? with
      | some b => some (.int .u8 b.toNat)
      | none => none
    | _, _ => none

def fill (place : Nat → Option (Nat × Nat)) (cells : List AV) : List (Nat × AV) → Option (List AV)
  | [] => some cells
  | (i, v) :: rest =>
    match place i with
    | none => none
    | some (o, n) =>
      bif v.cells.length.beq n && allOne v.cells then
        match setRange cells o v.cells with
        | some cs => fill place cs rest
        | none => none
      else none

def build (X : Cx) (t : Nat) (parts : List (Nat × AV)) : Option AV :=
  match X.zero t with
  | none => none
  | some z => match X.und t with
    | some (.struct fs) => (fill (fun i => match fs.toList[i]? with
        | some f => match X.size f.type with
          | some n => some (f.offset, n)
          | none => none
        | none => none) z parts).map .agg
    | some (.array _ e) => match X.size e with
      | some n => (fill (fun i => some (i * n, n)) z parts).map .agg
      | none => none
    | _ => none

def rowsOf (n : Nat) : Nat → List AV → List (List AV)
  | 0, _ => []
  | k + 1, cs => cs.take n :: rowsOf n k (cs.drop n)

def bnd (x : Option AV) (d most : Nat) : Option Nat :=
  match x with
  | none => some d
  | some v => match asN v with
    | some k => bif k.ble most then some k else none
    | none => none

def headOk (rows : List (List AV)) (s : Nat) : Bool :=
  match rows with
  | [] => true
  | r :: _ => r.length.beq s

def cutTk3 (tk : Tk) (h m : Nat) : Tk :=
  match tk with
  | .nil => .nil
  | _ => bif h.beq m then .full else .dead

def cutTk (tk : Tk) (l h m n : Nat) : Tk :=
  match tk with
  | .nil => .nil
  | .dead => .dead
  | .full => bif h.beq n then .full else .dead
  | .own t => bif h.beq n && l.blt h then .own t else .dead

def sliceOp (X : Cx) (t : Nat) (x : AV) (lo hi mx : Option AV) : Option AV :=
  match X.und t, x with
  | some .string, .str s =>
    match mx with
    | some _ => none
    | none => match bnd hi s.length s.length with
      | none => none
      | some h => match bnd lo 0 h with
        | none => none
        | some l => some (.str ((s.take h).drop l))
  | some (.slice e), .sl rows tk =>
    match X.size e with
    | none => none
    | some s => bif !headOk rows s then none else
    match mx with
    | none => match bnd hi rows.length rows.length with
      | none => none
      | some h => match bnd lo 0 h with
        | none => none
        | some l => some (.sl ((rows.take h).drop l) (cutTk tk l h 0 rows.length))
    | some m => match bnd (some m) 0 rows.length with
      | none => none
      | some m => match hi with
        | none => none
        | some h => match bnd (some h) 0 m with
          | none => none
          | some h => match bnd lo 0 h with
            | none => none
            | some l => some (.sl ((rows.take h).drop l) (cutTk3 tk h m))
  | some (.slice e), .hsl i o n c sz g =>
    match mx, X.size e with
    | none, some s => bif s.beq sz then
        match bnd hi n c with
        | none => none
        | some h => match bnd lo 0 h with
          | none => none
          | some l => some (.hsl i (o + l * sz) (h - l) (c - l) sz g)
      else none
    | _, _ => none
  | some (.array n e), .ptr i o =>
    match mx, X.size e with
    | none, some s => match bnd hi n n with
        | none => none
        | some h => match bnd lo 0 h with
          | none => none
          | some l => some (.hsl i (o + l * s) (h - l) (n - l) s false)
    | _, _ => none
  | _, _ => none

def lessL : List UInt8 → List UInt8 → Bool
  | _, [] => false
  | [], _ :: _ => true
  | a :: x, b :: y => a.toNat.blt b.toNat || (a.toNat.beq b.toNat && lessL x y)

def eqL : List UInt8 → List UInt8 → Bool
  | [], [] => true
  | a :: x, b :: y => a.toNat.beq b.toNat && eqL x y
  | _, _ => false

def most : Nat := 100000000000000

def strOp (op : BinOp) (a b : List UInt8) : Option AV :=
  match op with
  | .add => bif (a.length + b.length).blt most then some (.str (a ++ b)) else none
  | .eql => some (.bool (eqL a b))
  | .neq => some (.bool (!eqL a b))
  | .lss => some (.bool (lessL a b))
  | .leq => some (.bool (lessL a b || eqL a b))
  | .gtr => some (.bool (!(lessL a b || eqL a b)))
  | .geq => some (.bool (!lessL a b))
  | _ => none

/-- held against nil, or two places that are known -/
def refEq (d : TypeDesc) (x y : AV) : Option Bool :=
  match d, x, y with
  | .bool, .bool a, .bool b => some (a == b)
  | .pointer _, .nilp, .nilp => some true
  | .pointer _, .nilp, .ptr _ _ => some false
  | .pointer _, .ptr _ _, .nilp => some false
  | .pointer _, .nilp, .vptr _ _ => some false
  | .pointer _, .vptr _ _, .nilp => some false
  | .slice _, .sl _ .nil, .sl _ .nil => some true
  | .slice _, .sl _ .full, .sl _ .nil => some false
  | .slice _, .sl _ (.own _), .sl _ .nil => some false
  | .slice _, .sl _ .dead, .sl _ .nil => some false
  | .slice _, .hsl _ _ _ _ _ _, .sl _ .nil => some false
  | .map _ _, .map none, .map none => some true
  | .map _ _, .map (some _), .map none => some false
  | .func _ _ _, .nilfn, .nilfn => some true
  | .func _ _ _, .fn _ _ _, .nilfn => some false
  | _, _, _ => none

def binop (X : Cx) (op : BinOp) (t : Nat) (x y : AV) : Option AV :=
  match x, y with
  | .str a, .str b => strOp op a b
  | .int k a, .int k' b => ofSem (Go.binOp op t (.int k a) (.int k' b))
  | _, _ => match X.und t with
    | some d => match op with
      | .eql => (refEq d x y).map .bool
      | .neq => (refEq d x y).map fun b => .bool (!b)
      | _ => none
    | none => none

def conv (X : Cx) (s d : Nat) (x : AV) : Option AV :=
  match X.und s, X.und d with
  | some us, some ud => match ud, x with
    | .int k, .int _ n => some (.int k (k.wrap n))
    | .string, .str s => some (.str s)
    | .string, .int _ n => some (.str (Utf8.encode n).data.toList)
    | _, _ => none
  | _, _ => none

/-! ### maps -/
def keyEq : AV → AV → Option Bool
  | .str a, .str b => some (eqL a b)
  | .int k a, .int k' b => bif decide (k = k') then some (a == b) else none
  | _, _ => none

def look (k : AV) : List (AV × AV) → Option (Option AV)
  | [] => some none
  | (k', v) :: r => match keyEq k k' with
    | some true => some (some v)
    | some false => look k r
    | none => none

def upd (k v : AV) : List (AV × AV) → Option (List (AV × AV))
  | [] => some [(k, v)]
  | (k', v') :: r => match keyEq k k' with
    | some true => some ((k, v) :: r)
    | some false => (upd k v r).map ((k', v') :: ·)
    | none => none

/-- a key's type: a string or a number -/
def keyTy (d : TypeDesc) (k : AV) : Bool :=
  match d, k with
  | .string, .str _ => true
  | .int _, .int _ _ => true
  | _, _ => false

def unZ (X : Cx) (t : Nat) : Option AV :=
  match X.isAgg t, X.zero t with
  | some true, some z => some (.agg z)
  | some false, some [v] => some v
  | _, _ => none

/-! ### UTF-8 -/
def decodeL (s : List UInt8) : Nat × Nat :=
  match s with
  | [] => (Utf8.runeError, 1)
  | b :: r =>
    let b0 := b.toNat
    let at' (k : Nat) : Nat := ((r[k - 1]?).getD 0).toNat
    let cont (k : Nat) : Bool := (k - 1).blt r.length && (at' k / 64).beq 2
    bif b0.blt 0x80 then (b0, 1)
    else bif (b0 / 32).beq 6 && cont 1 then
      let c := (b0 % 32) * 64 + at' 1 % 64
      bif Nat.ble 0x80 c then (c, 2) else (Utf8.runeError, 1)
    else bif (b0 / 16).beq 14 && (cont 1 && cont 2) then
      let c := (b0 % 16) * 4096 + (at' 1 % 64) * 64 + at' 2 % 64
      bif Nat.ble 0x800 c && Utf8.valid c then (c, 3) else (Utf8.runeError, 1)
    else bif (b0 / 8).beq 30 && (cont 1 && cont 2 && cont 3) then
      let c := (b0 % 8) * 262144 + (at' 1 % 64) * 4096 + (at' 2 % 64) * 64 + at' 3 % 64
      bif Nat.ble 0x10000 c && Utf8.valid c then (c, 4) else (Utf8.runeError, 1)
    else (Utf8.runeError, 1)

/-! ### an operation, its operands known -/
inductive Wr where
  | ptr | map | it
  | hsl (n sz : Nat)

def Wr.mk : Wr → Nat → AV
  | .ptr, i => .ptr i 0
  | .map, i => .map (some i)
  | .it, i => .it i
  | .hsl n sz, i => .hsl i 0 n n sz true

inductive In where
  | val (v : AV)
  | row (rows : List (List AV)) (sz : Nat)
  | new (o : AO) (w : Wr)
  | load (t : Nat) (a : AV)
  | look (t : Nat) (m k : AV) (ok : Bool)
  | mlen (r : Nat)
  | bstr (x : AV)
  | store (t : Nat) (a v : AV)
  | mset (t : Nat) (m k v : AV)
  | next (i : Nat)
  | app (sz bytes : Nat) (s x : AV) (hm : Bool) (te : Option Nat)
  | call (g : Nat) (as : List AV)
  | panic (v : AV)

def In.eff : In → Bool
  | .store _ _ _ | .mset _ _ _ _ | .next _ | .app _ _ _ _ _ _ | .call _ _ | .panic _ => true
  | _ => false

inductive Res where
  | val (v : AV) (H : AH)
  | panic (v : AV) (H : AH)

abbrev CallF := Nat → List AV → AH → Option Res

def loadFrom (ag : Bool) (n : Nat) (cs : List AV) (o : Nat) : Option AV := bif ag then (slice? cs o n).map .agg else cs[o]?

def loadAt (X : Cx) (t : Nat) (a : AV) (H : AH) : Option AV :=
  match X.isAgg t, X.size t with
  | some ag, some n =>
    match a with
    | .ptr i o => match H.get i with
      | some (.cells cs) => loadFrom ag n cs o
      | some (.obj _ _ cs) => loadFrom ag n cs o
      | _ => none
    | .vptr row o => loadFrom ag n row o
    | _ => none
  | _, _ => none

def storeAt (X : Cx) (t : Nat) (a v : AV) (H : AH) : Option AH :=
  match X.size t, a with
  | some n, .ptr i o =>
    bif v.cells.length.beq n && allOne v.cells then
      match H.get i with
      | some (.cells cs) => match setRange cs o v.cells with
        | some cs' => bif H.okI i then some (H.set i (some (.cells cs'))) else none
        | none => none
      | some (.obj t k cs) => match setRange cs o v.cells with
        | some cs' => bif H.okI i && k.ble 1 then some (H.set i (some (.obj t k cs'))) else none
        | none => none
      | _ => none
    else none
  | _, _ => none

/-- rows that are read -/
def readRows (n : Nat) (x : AV) (H : AH) : Option (List (List AV)) :=
  match x with
  | .sl rows _ => bif rows.all (fun r => r.length.beq n) then some rows else none
  | .hsl i o k _ sz _ => bif sz.beq n then
      match H.get i with
      | some (.cells cs) => (slice? cs o (k * n)).map fun r => rowsOf n k r
      | _ => none
    else none
  | .str s => bif n.beq 1 then some (s.map fun b => [.int .u8 b.toNat]) else none
  | _ => none

def bytesOf : List (List AV) → Option (List UInt8)
  | [] => some []
  | [.int .u8 n] :: r => (bytesOf r).map (UInt8.ofNat n.toNat :: ·)
  | _ => none

/-- a row's block, its type known or not -/
def AO.mkT (te : Option Nat) (cs : List AV) : AO :=
  match te with
  | none => .cells cs
  | some e => .obj e 1 cs

def AO.unT (te : Option Nat) (o : AO) : Option (List AV) :=
  match te, o with
  | none, .cells cs => some cs
  | some e, .obj t k cs => bif t.beq e && k.beq 1 then some cs else none
  | _, _ => none

def app (n b : Nat) (s x : AV) (hm : Bool) (te : Option Nat) (H : AH) : Option (AV × AH) :=
  match readRows n x H with
  | none => none
  | some new =>
    bif n.beq 0 || !b.ble 100000 then none else
    match s with
    | .sl rows tk =>
      bif !((rows.length + new.length) * (b + 1)).blt most || !rows.all (fun r => r.length.beq n) then none else
      match tk with
      | .dead => none
      | .own t =>
        match H.get t with
        | some .tok =>
          bif hm || !H.okI t || rows.isEmpty || !allOne new.flatten then none else
          match (H.set t none).new .tok with
          | some (t', H2) => some (.sl (rows ++ new) (.own t'), H2)
          | none => none
        | _ => none
      | _ =>
        bif new.isEmpty then some (s, H)
        else bif hm then
          match H.new (.mkT te (rows ++ new).flatten) with
          | some (i, H2) => some (.hsl i 0 (rows.length + new.length) (rows.length + new.length) n true, H2)
          | none => none
        else
          match H.new .tok with
          | some (t', H2) => some (.sl (rows ++ new) (.own t'), H2)
          | none => none
    | .hsl i o k c sz g =>
      bif !g || !((k + new.length) * (b + 1)).blt most || !sz.beq n || !o.beq 0 || !H.okI i || !allOne new.flatten then none else
      bif new.isEmpty then some (s, H) else
      match H.get i with
      | some ob =>
        match ob.unT te with
        | some cs =>
          match slice? cs 0 (k * n) with
          | some old => match (H.set i none).new (.mkT te (old ++ new.flatten)) with
            | some (j, H2) => some (.hsl j 0 (k + new.length) (k + new.length) n true, H2)
            | none => none
          | none => none
        | none => none
      | none => none
    | _ => none

def lookup (X : Cx) (t : Nat) (m k : AV) (ok : Bool) (H : AH) : Option AV :=
  match X.und t with
  | some (.map kt e) => match X.und kt with
    | some kd => bif !keyTy kd k then none else
      match m with
      | .map none => (unZ X e).map fun z => bif ok then .tup [z, .bool false] else z
      | .map (some r) =>
        match H.get r with
        | some (.map es) =>
          match look k es with
          | some (some v) => some (bif ok then .tup [v, .bool true] else v)
          | some none => (unZ X e).map fun z => bif ok then .tup [z, .bool false] else z
          | none => none
        | _ => none
      | _ => none
    | none => none
  | _ => none

def mapSet (X : Cx) (t : Nat) (m k v : AV) (H : AH) : Option AH :=
  match X.und t with
  | some (.map kt _) => match X.und kt with
    | some kd => bif !keyTy kd k then none else
      match m with
      | .map (some r) => bif !H.okI r then none else
        match H.get r with
        | some (.map es) => (upd k v es).map fun es' => H.set r (some (.map es'))
        | _ => none
      | _ => none
    | none => none
  | _ => none

def nextAt (i : Nat) (H : AH) : Option (AV × AH) :=
  match H.get i with
  | some (.iter rest pos) => bif !H.okI i then none else
    match rest with
    | [] => some (.tup [.bool false], H)
    | b :: r =>
      let d := decodeL (b :: r)
      some (.tup [.bool true, .int .i64 pos, .int .i32 d.1], H.set i (some (.iter ((b :: r).drop d.2) (pos + d.2))))
  | _ => none

def isSl : AV → Bool
  | .sl _ _ => true
  | .hsl _ _ _ _ _ _ => true
  | _ => false

def v1 (H : AH) (x : Option AV) : Option Res := x.map fun v => .val v H
def v2 (x : Option (AV × AH)) : Option Res := x.map fun p => .val p.1 p.2
def u1 (x : Option AH) : Option Res := x.map fun H => .val undef H

def exec (X : Cx) (C : CallF) (i : In) (H : AH) : Option Res :=
  match i with
  | .val v => some (.val v H)
  | .row rows _ => some (.val (.sl rows .full) H)
  | .new o w => v2 ((H.new o).map fun p => (w.mk p.1, p.2))
  | .load t a => v1 H (loadAt X t a H)
  | .look t m k ok => v1 H (lookup X t m k ok H)
  | .mlen r => match H.get r with
    | some (.map es) => some (.val (.int .i64 es.length) H)
    | _ => none
  | .bstr x => bif isSl x then v1 H ((readRows 1 x H).bind fun rows => (bytesOf rows).map .str) else none
  | .store t a v => u1 (storeAt X t a v H)
  | .mset t m k v => u1 (mapSet X t m k v H)
  | .next i => v2 (nextAt i H)
  | .app n b s x hm te => v2 (app n b s x hm te H)
  | .call g as => C g as H
  | .panic v => some (.panic v H)

/-! ### an operation of the code -/
abbrev Fr := Tr AV

def ev (fr : Fr) : Operand → Option AV
  | .tmp t => some ((fr.get t).getD undef)
  | .const v => ofV v
  | .func f => some (.fn (.func f) [] [])
  | .global _ => none

def evs (fr : Fr) : List Operand → Option (List AV)
  | [] => some []
  | x :: r => match ev fr x with
    | some v => (evs fr r).map (v :: ·)
    | none => none

def evps (fr : Fr) : List (Nat × Operand) → Option (List (Nat × AV))
  | [] => some []
  | (i, x) :: r => match ev fr x with
    | some v => (evps fr r).map ((i, v) :: ·)
    | none => none

def evo (fr : Fr) : Option Operand → Option (Option AV)
  | none => some none
  | some x => (ev fr x).map some

def pv (x : Option AV) : Option In := x.map .val

def min2 : AV → AV → Option AV
  | .int k x, .int _ y => some (.int k (bif decide (y < x) then y else x))
  | _, _ => none
def max2 : AV → AV → Option AV
  | .int k x, .int _ y => some (.int k (bif decide (y > x) then y else x))
  | _, _ => none

def foldO (f : AV → AV → Option AV) : AV → List AV → Option AV
  | x, [] => some x
  | x, y :: r => match f x y with
    | some z => foldO f z r
    | none => none

def putRow (zero : List AV) : List (List AV) → List (Nat × AV) → Option (List (List AV))
  | rows, [] => some rows
  | rows, (i, v) :: rest =>
    bif v.cells.length.beq zero.length && allOne v.cells && i.blt rows.length then putRow zero (rows.set i v.cells) rest else none

def buildSlice (X : Cx) (t len : Nat) (parts : List (Nat × AV)) (hm : Bool) : Option In :=
  match X.und t with
  | some (.slice e) =>
    match X.zero e, X.size e with
    | some z, some n =>
      bif (len * n).ble 16777216 && z.length.beq n && !n.beq 0 && allOne z then
        match putRow z (List.replicate len z) parts with
        | some rows => some (bif hm then .new (.cells rows.flatten) (.hsl len n) else .row rows n)
        | none => none
      else none
    | _, _ => none
  | _ => none

def callB (X : Cx) (hm : Bool) (b : Builtin) (ts : List Nat) (as : List AV) : Option In :=
  match b, ts, as with
  | .len, [t], [x] => match X.und t, x with
    | some .string, .str s => some (.val (.int .i64 s.length))
    | some (.array n _), _ => some (.val (.int .i64 n))
    | some (.slice _), .sl rows _ => some (.val (.int .i64 rows.length))
    | some (.slice _), .hsl _ _ n _ _ _ => some (.val (.int .i64 n))
    | some (.map _ _), .map none => some (.val (.int .i64 0))
    | some (.map _ _), .map (some r) => some (.mlen r)
    | _, _ => none
  | .append, [st, xt], [s, x] => match X.und st, X.und xt with
    | some (.slice e), some d => match d with
      | .int _ => none
      | _ => match X.size e, X.bytes e, X.zero e with
        | some n, some b, some z => bif z.length.beq n then some (.app n b s x hm (bif X.tyd e then some e else none)) else none
        | _, _, _ => none
    | _, _ => none
  | .min, _, x :: r => pv (foldO min2 x r)
  | .max, _, x :: r => pv (foldO max2 x r)
  | _, _, _ => none

def inst (X : Cx) (f : Nat) (fr : Fr) (o : Oper) : Option In :=
  match o.op with
  | .move x => pv (ev fr x)
  | .assign x => pv (ev fr x)
  | .pick c a b => match ev fr c with
    | some (.bool true) => pv (ev fr a)
    | some (.bool false) => pv (ev fr b)
    | _ => none
  | .alloc t => match X.zero t with
    | some z => some (.new (bif X.tyd t then .obj t 0 z else .cells z) .ptr)
    | none => none
  | .box _ x => match ev fr x with
    | some v => bif allOne v.cells then some (.new (.cells v.cells) .ptr) else none
    | none => none
  | .build t ps => match evps fr ps.toList with
    | some l => pv (build X t l)
    | none => none
  | .buildSlice t n ps => match evps fr ps.toList with
    | some l => buildSlice X t n l (X.hm f (o.dst.getD 0))
    | none => none
  | .load t a => (ev fr a).map fun a => .load t a
  | .store t a v => match ev fr a, ev fr v with
    | some a, some v => some (.store t a v)
    | _, _ => none
  | .nilCheck x => match ev fr x with
    | some (.ptr i o) => some (.val (.ptr i o))
    | some (.vptr r o) => some (.val (.vptr r o))
    | some (.fn (.func g) a b) => some (.val (.fn (.func g) a b))
    | _ => none
  | .binOp op t x y _ => match ev fr x, ev fr y with
    | some x, some y => pv (binop X op t x y)
    | _, _ => none
  | .unOp op _ x => match ev fr x with
    | some x => match scal x with
      | some a => pv (ofSem (Op.unary op a))
      | none => none
    | none => none
  | .convert s d x => match ev fr x with
    | some x => match conv X s d x with
      | some v => some (.val v)
      | none => match X.und s, X.und d with
        | some (.slice e), some .string => match X.und e with
          | some (.int .u8) => bif isSl x then some (.bstr x) else none
          | _ => none
        | _, _ => none
    | none => none
  | .makeFunc g a b => match evs fr a.toList, evs fr b.toList with
    | some a, some b => some (.val (.fn g a b))
    | _, _ => none
  | .makeInterface t x => match X.und t, ev fr x with
    | some (.interface _), _ => none
    | some _, some v => some (.val (.iface t v))
    | _, _ => none
  | .makeMap _ none => some (.new (.map []) .map)
  | .slice t x lo hi mx => match ev fr x, evo fr lo, evo fr hi, evo fr mx with
    | some x, some lo, some hi, some mx => pv (sliceOp X t x lo hi mx)
    | _, _, _, _ => none
  | .fieldAddr t x k => match ev fr x with
    | some x => pv (fieldAt X t x k)
    | none => none
  | .field t x k => match ev fr x with
    | some x => pv (fieldOf X t x k)
    | none => none
  | .indexAddr t x i => match ev fr x, ev fr i with
    | some x, some i => pv (indexAt X t x i)
    | _, _ => none
  | .index t x i => match ev fr x, ev fr i with
    | some x, some i => pv (indexOf X t x i)
    | _, _ => none
  | .lookup t m k ok => match ev fr m, ev fr k with
    | some m, some k => some (.look t m k ok)
    | _, _ => none
  | .mapUpdate t m k v => match ev fr m, ev fr k, ev fr v with
    | some m, some k, some v => some (.mset t m k v)
    | _, _, _ => none
  | .range t x => match ev fr x, X.und t with
    | some (.str s), some .string => some (.new (.iter s 0) .it)
    | _, _ => none
  | .next it true => match ev fr it with
    | some (.it i) => some (.next i)
    | _ => none
  | .extract t i => match ev fr t with
    | some (.tup vs) => pv vs[i]?
    | _ => none
  | .makeSlice t n c => match X.und t with
    | some (.slice e) => match ev fr n, ev fr c with
      | some n, some c => match X.zero e, X.size e, X.bytes e, asN n, asN c with
        | some z, some sz, some b, some n, some c =>
          bif (c * (b + 1)).blt most && n.beq c && z.length.beq sz && !sz.beq 0 then some (.new (.cells ((List.replicate n z).flatten)) (.hsl n sz)) else none
        | _, _, _, _, _ => none
      | _, _ => none
    | _ => none
  | .panic x => match ev fr x with
    | some (.iface t v) => some (.panic (.iface t v))
    | _ => none
  | .call c => match c.callee with
    | .builtin b => match evs fr c.args.toList with
      | some as => callB X (X.hm f (o.dst.getD 0)) b c.argTypes.toList as
      | none => none
    | .value g => match ev fr g, evs fr c.args.toList with
      | some (.fn (.func g) first cap), some as => some (.call g (first ++ as ++ cap))
      | _, _ => none
    | _ => none
  | _ => none

def putD (fr : Fr) (d : Option Nat) (v : AV) : Fr :=
  match d with
  | some d => fr.put (some v) 40 d
  | none => fr

def dstOk (nt : Nat) (d : Option Nat) : Bool :=
  match d with
  | some d => d.blt nt
  | none => true

inductive Ex where
  | normal | exit (id : Nat) | ret | panic (v : AV)

structure St where
  fr : Fr
  H : AH

def wantedB (fr : Fr) (all : List Oper) (o : Oper) : Bool :=
  match o.guard with
  | none => true
  | some (j, want) => match all[j]? with
    | some oj => match oj.dst with
      | some d => match fr.get d with
        | some (.bool b) => b == want
        | _ => false
      | none => false
    | none => false

/-- in the text's order -/
def aops (X : Cx) (C : CallF) (f nt : Nat) (all : List Oper) : List Oper → St → Option (Ex × St)
  | [], s => some (.normal, s)
  | o :: r, s =>
    bif !dstOk nt o.dst then none else
    bif wantedB s.fr all o then
      match inst X f s.fr o with
      | none => none
      | some i => match exec X C i s.H with
        | some (.val v H) => aops X C f nt all r { fr := putD s.fr o.dst v, H := H }
        | some (.panic v H) => some (.panic v, { s with H := H })
        | none => none
    else aops X C f nt all r { s with fr := putD s.fr o.dst undef }

/-! ### values held against each other -/
def beqI (a b : IntKind × Int) : Bool := decide (a.1 = b.1) && (a.2 == b.2)

mutual
def beqV : AV → AV → Bool
  | .bool a, .bool b => a == b
  | .int k a, .int k' b => beqI (k, a) (k', b)
  | .str a, .str b => eqL a b
  | .nilp, .nilp => true
  | .ptr i o, .ptr i' o' => i.beq i' && o.beq o'
  | .vptr r o, .vptr r' o' => beqVs r r' && o.beq o'
  | .sl r t, .sl r' t' => beqVss r r' && decide (t = t')
  | .hsl i o n c s g, .hsl i' o' n' c' s' g' => i.beq i' && o.beq o' && n.beq n' && c.beq c' && s.beq s' && (g == g')
  | .map none, .map none => true
  | .map (some a), .map (some b) => a.beq b
  | .it a, .it b => a.beq b
  | .nilfn, .nilfn => true
  | .fn f a b, .fn f' a' b' => decide (f = f') && beqVs a a' && beqVs b b'
  | .iface t v, .iface t' v' => t.beq t' && beqV v v'
  | .nilif, .nilif => true
  | .agg a, .agg b => beqVs a b
  | .tup a, .tup b => beqVs a b
  | _, _ => false
def beqVs : List AV → List AV → Bool
  | [], [] => true
  | a :: r, b :: r' => beqV a b && beqVs r r'
  | _, _ => false
def beqVss : List (List AV) → List (List AV) → Bool
  | [], [] => true
  | a :: r, b :: r' => beqVs a b && beqVss r r'
  | _, _ => false
end

/-! ### a region that draws its order -/
/-- a bit of a set -/
def bit (m i : Nat) : Bool := ((m >>> i) % 2).beq 1

def direct (o : Oper) (ancs : List Nat) : Nat :=
  o.after.toList.foldl (fun m e => bif Region.binds .any e then m ||| (1 <<< e.on) ||| ancs.getD e.on 0 else m) 0

/-- of each operation those that must be ahead of it -/
def ancestors : List Oper → List Nat → List Nat
  | [], acc => acc
  | o :: r, acc => ancestors r (acc ++ [direct o acc])

def opEff (o : Oper) : Bool :=
  match o.op with
  | .store _ _ _ => true
  | .mapUpdate _ _ _ _ => true
  | .next _ _ => true
  | .panic _ => true
  | .call c => match c.callee with
    | .builtin b => match b with
      | .append => true
      | _ => false
    | _ => true
  | _ => false

def pickNext (eff : Bool) (done : Nat) : List Oper → List Nat → Nat → Option (Nat × Nat × Oper)
  | o :: r, m :: ms, i => bif !bit done i && (m &&& done).beq m && (opEff o == eff) then some (i, m, o) else pickNext eff done r ms (i + 1)
  | _, _, _ => none

/-- the canonical order: what changes no memory as soon as it can be -/
def plan (all : List Oper) (ancs : List Nat) : Nat → Nat → List (Nat × Nat × Oper)
  | 0, _ => []
  | n + 1, done => match pickNext false done all ancs 0 with
    | some p => p :: plan all ancs n (done ||| (1 <<< p.1))
    | none => match pickNext true done all ancs 0 with
      | some p => p :: plan all ancs n (done ||| (1 <<< p.1))
      | none => []

/-- what only reads -/
def rd (X : Cx) (i : In) (H : AH) : Option AV :=
  match i with
  | .load t a => loadAt X t a H
  | .look t m k ok => lookup X t m k ok H
  | .mlen r => match H.get r with
    | some (.map es) => some (.int .i64 es.length)
    | _ => none
  | .bstr x => bif isSl x then (readRows 1 x H).bind fun rows => (bytesOf rows).map .str else none
  | _ => none

def logged : In → Bool
  | .load _ (.ptr _ _) => true
  | .look _ _ _ _ => true
  | .mlen _ => true
  | .bstr (.hsl _ _ _ _ _ _) => true
  | .new _ _ => true
  | _ => false

/-- what was made lies there as it was made -/
def kept (n : In) (v : AV) (H : AH) : Bool :=
  match n, v with
  | .new (.cells cs) .ptr, .ptr i _ => match H.get i with
    | some (.cells cs') => beqVs cs' cs
    | _ => false
  | _, _ => false

def recheck (X : Cx) (anc : Nat) (H : AH) : List (Nat × In × AV) → Bool
  | [] => true
  | (i, n, v) :: r => (bit anc i || (match rd X n H with
      | some v' => beqV v' v
      | none => false) || kept n v H) && recheck X anc H r

def dops (X : Cx) (C : CallF) (f nt : Nat) (all : List Oper) : List (Nat × Nat × Oper) → Nat → List (Nat × In × AV) → St → Option (Ex × St)
  | [], _, _, s => some (.normal, s)
  | (i, anc, o) :: r, effs, log, s =>
    bif !dstOk nt o.dst then none else
    bif wantedB s.fr all o then
      match inst X f s.fr o with
      | none => none
      | some n =>
        bif !(effs &&& anc).beq effs then none else
        match exec X C n s.H with
        | some (.val v H) =>
          bif n.eff then
            bif recheck X anc H log then dops X C f nt all r (effs ||| (1 <<< i)) log { fr := putD s.fr o.dst v, H := H } else none
          else dops X C f nt all r effs (bif logged n then (i, n, v) :: log else log) { fr := putD s.fr o.dst v, H := H }
        | some (.panic v H) => bif r.all (fun q => bit q.2.1 i) then some (.panic v, { s with H := H }) else none
        | none => none
    else dops X C f nt all r effs log { s with fr := putD s.fr o.dst undef }

/-! ### code -/
def iter (step : St → Option (Ex × St)) : Nat → St → Option (Ex × St)
  | 0, _ => none
  | n + 1, s => match step s with
    | some (.normal, s) => iter step n s
    | r => r

/-! #### two stores whose order is left open, at a region's end (x.f = append(x.f, v)) -/
def opTmps (o : Oper) : List Nat := o.op.operands.toList.filterMap (fun | .tmp t => some t | _ => none)
def noG (o : Oper) : Bool := match o.guard with
  | none => true
  | some _ => false
def addrOp (o : Oper) : Bool := match o.op with
  | .indexAddr _ _ _ => true
  | .fieldAddr _ _ _ => true
  | _ => false
def stOp' (o : Oper) : Bool := match o.op with
  | .store _ _ _ => true
  | _ => false
/-- slots of the one that the other does not touch -/
def apartB (d : Option Nat) (o : Oper) : Bool := match d with
  | some d => !(opTmps o).contains d && !(o.dst == some d)
  | none => false
abbrev PO' := Nat × Nat × Oper
def twOk (L1 : List PO') (a1 a2 s1 s2 : PO') : Bool :=
  !bit s2.2.1 s1.1 && !bit s1.2.1 s2.1 && [a1, a2, s1, s2].all (fun p => L1.all (fun q => bit p.2.1 q.1) && noG p.2.2) && bit s1.2.1 a1.1 && bit s2.2.1 a2.1 &&
  addrOp a1.2.2 && addrOp a2.2.2 && stOp' s1.2.2 && stOp' s2.2.2 && apartB a1.2.2.dst a2.2.2 && apartB a1.2.2.dst s2.2.2 && apartB a2.2.2.dst a1.2.2 && apartB a2.2.2.dst s1.2.2 && s1.2.2.dst.isNone && s2.2.2.dst.isNone
def twSplit (L : List PO') : Option (List PO' × PO' × PO' × PO' × PO') :=
  match L.drop (L.length - 4) with
  | [a1, a2, s1, s2] => bif twOk (L.take (L.length - 4)) a1 a2 s1 s2 then some (L.take (L.length - 4), a1, a2, s1, s2) else none
  | _ => none

def twTail (X : Cx) (f nt : Nat) (a1 a2 s1 s2 : PO') (s : St) : Option (Ex × St) :=
  match inst X f s.fr a1.2.2, inst X f s.fr a2.2.2 with
  | some (.val v1), some (.val v2) =>
    bif !(dstOk nt a1.2.2.dst && dstOk nt a2.2.2.dst) then none else
    match inst X f (putD (putD s.fr a1.2.2.dst v1) a2.2.2.dst v2) s1.2.2, inst X f (putD (putD s.fr a1.2.2.dst v1) a2.2.2.dst v2) s2.2.2 with
    | some (.store t1 (.ptr j1 p1) x1), some (.store t2 (.ptr j2 p2) x2) => bif j1.beq j2 then none else
      match storeAt X t1 (.ptr j1 p1) x1 s.H with
      | some H1 => match storeAt X t2 (.ptr j2 p2) x2 H1 with
        | some H2 => some (.normal, { fr := putD (putD s.fr a1.2.2.dst v1) a2.2.2.dst v2, H := H2 })
        | none => none
      | none => none
    | _, _ => none
  | _, _ => none

def tops (X : Cx) (C : CallF) (f nt : Nat) (all : List Oper) (L1 : List PO') (a1 a2 s1 s2 : PO') (s : St) : Option (Ex × St) :=
  match dops X C f nt all L1 0 [] s with
  | some (.normal, s) => twTail X f nt a1 a2 s1 s2 s
  | r => r

def region (X : Cx) (C : CallF) (f nt : Nat) (ops : Array Oper) (draw : Bool) (s : St) : Option (Ex × St) :=
  bif draw then (match twSplit (plan ops.toList (ancestors ops.toList []) ops.toList.length 0) with
    | some p => tops X C f nt ops.toList p.1 p.2.1 p.2.2.1 p.2.2.2.1 p.2.2.2.2 s
    | none => dops X C f nt ops.toList (plan ops.toList (ancestors ops.toList []) ops.toList.length 0) 0 [] s)
  else aops X C f nt ops.toList ops.toList s

def acode (X : Cx) (C : CallF) (f nt lf : Nat) : Code → St → Option (Ex × St)
  | .skip, s => some (.normal, s)
  | .region _ ops draw, s => region X C f nt ops draw s
  | .seq a b, s => match acode X C f nt lf a s with
    | some (.normal, s) => acode X C f nt lf b s
    | r => r
  | .cond c a b, s => match ev s.fr c with
    | some (.bool true) => acode X C f nt lf a s
    | some (.bool false) => acode X C f nt lf b s
    | _ => none
  | .block id a, s => match acode X C f nt lf a s with
    | some (.exit j, s) => bif j.beq id then some (.normal, s) else some (.exit j, s)
    | r => r
  | .loop a, s => iter (acode X C f nt lf a) lf s
  | .exit id, s => some (.exit id, s)
  | .ret, s => some (.ret, s)
  | .scope a, s => acode X C f nt lf a s
  | .label _, s => some (.normal, s)
  | _, _ => none

def frame : List AV → Nat → Fr → Fr
  | [], _, fr => fr
  | a :: r, k, fr => frame r (k + 1) (fr.put (some a) 40 k)

def results (X : Cx) (fr : Fr) (H : AH) : List ResultVar → Option (List AV)
  | [] => some []
  | .tmp t :: r => (results X fr H r).map ((fr.get t).getD undef :: ·)
  | .cell a t :: r => match fr.get a with
    | some (.ptr i o) => match loadAt X t (.ptr i o) H with
      | some v => (results X fr H r).map (v :: ·)
      | none => none
    | _ => none

def tupOf : List AV → AV
  | [v] => v
  | vs => .tup vs

def acall (X : Cx) (lf : Nat) : Nat → CallF
  | 0, _, _, _ => none
  | n + 1, f, as, H =>
    match X.fn f with
    | none => none
    | some fn =>
      match fn.body with
      | none => none
      | some c =>
        let nt := max fn.ntmps as.length
        bif !nt.blt 100000 then none else
        match acode X (acall X lf n) f nt lf c { fr := frame as 0 .leaf, H := H } with
        | some (.normal, s) => (results X s.fr s.H fn.results.toList).map fun vs => .val (tupOf vs) s.H
        | some (.ret, s) => (results X s.fr s.H fn.results.toList).map fun vs => .val (tupOf vs) s.H
        | some (.panic v, s) => some (.panic v s.H)
        | _ => none

end Go.Aes
