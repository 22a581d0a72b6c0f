/- The reckoner: symbolic steps over the model's code, proved sound. -/
import Derived.Orders
import Derived.KernelRfl
import Derived.Below
import Derived.Laws.AppendOwn
import Derived.Laws.Cells
import Derived.Laws.Slices
import Derived.Laws.StructEq
import Derived.Laws.Tables
import Derived.Laws.BytesArg
import Derived.Lib.ConvBytes
import Derived.Laws.MakeOwn
import Derived.Laws.OwnMore
set_option linter.unusedSimpArgs false
set_option linter.unusedVariables false
set_option linter.unusedSectionVars false
section
namespace Go.Eng
open Go
inductive C where
  | i (n : Int)
  | b (x : Bool)
  | s (x : ByteArray)
  | l (xs : List (List C))
abbrev Rw := List (List C)
def C.int : C → Int | .i n => n | _ => 0
def C.bool : C → Bool | .b x => x | _ => false
def C.str : C → ByteArray | .s x => x | _ => .empty
def C.list : C → Rw | .l xs => xs | _ => []
def rd (xs : Rw) (i o : Nat) : C := (xs.getD i []).getD o (.i 0)
def setAt : List C → Nat → C → List C
  | [], 0, c => [c]
  | _ :: r, 0, c => c :: r
  | [], n + 1, c => .i 0 :: setAt [] n c
  | x :: r, n + 1, c => x :: setAt r n c
def wr (xs : Rw) (i o : Nat) (c : C) : Rw := xs.set i (setAt (xs.getD i []) o c)
def wrs (xs : Rw) (i : Nat) : Nat → List C → Rw
  | _, [] => xs
  | o, c :: r => wrs (wr xs i o c) i (o + 1) r
def sub (xs : Rw) (lo hi : Nat) : Rw := (xs.drop lo).take (hi - lo)
def bytesOf (xs : Rw) : ByteArray := ⟨(xs.map fun r => UInt8.ofNat (r.getD 0 (.i 0)).int.toNat).toArray⟩
def rowsOf (s : ByteArray) : Rw := s.data.toList.map fun b => [.i (b.toNat : Int)]
def byteAt (s : ByteArray) (n : Nat) : Int := ((s.data.getD n 0).toNat : Int)
def inb (i : Int) (n : Nat) : Bool := decide (0 ≤ i) && decide (i < (n : Int))
def most : Nat := 1099511627776
inductive CK where
  | i (k : IntKind)
  | b
  | s
  | sl (e : TypeId)
  | x
def kinds (P : Program) : Nat → TypeId → List CK
  | 0, _ => [.x]
  | d + 1, t => match P.underlying t with
    | some (.int k) => [.i k]
    | some .bool => [.b]
    | some .string => [.s]
    | some (.slice e) => [.sl e]
    | some (.struct fs) => fs.toList.flatMap fun f => kinds P d f.type
    | _ => [.x]
def deep (P : Program) : Nat → TypeId → Bool
  | 0, _ => false
  | d + 1, e => (kinds P 8 e).all fun | .sl e' => deep P d e' | _ => true
def flat (P : Program) (e : TypeId) : Bool := (kinds P 8 e).all fun | .sl _ => false | _ => true
def ck (P : Program) (e : TypeId) (o : Nat) : CK := (kinds P 8 e).getD o .x
def isAg (P : Program) (t : TypeId) : Bool := match P.underlying t with | some (.struct _) => true | some (.array _ _) => true | _ => false
def esz (P : Program) (t : TypeId) : Nat := match P.info? t with | some i => i.size | none => 0
def ebytes (P : Program) (t : TypeId) : Nat := match P.info? t with | some i => i.bytes | none => 0
inductive AS where
  | un
  | ud
  | i (k : IntKind) (n : Int)
  | b (x : Bool)
  | s (x : ByteArray)
  | np
  | pt (id off : Nat)
  | pe (e : TypeId) (fr : Bool) (xs : Rw) (ix o : Nat)
  | po (id n ix o : Nat)
  | ns
  | fz (e : TypeId) (fr : Bool) (xs : Rw)
  | ow (id n : Nat)
  | sb (id n lo hi : Nat)
  | fn (f : Nat) (caps : List (Nat × Nat))
  | mp (id : Nat)
  | nm
inductive AV where
  | sc (x : AS)
  | ag (xs : List AS)
  | tu (vs : List (Bool × List AS))
inductive AO where
  | dead
  | gone
  | bx (cells : List AS)
  | rb (cells : List AS)
  | rw (e : TypeId) (fr : Bool) (xs : Rw) (ser : Nat)
  | fz (e : TypeId) (fr : Bool) (xs : Rw) (ser : Nat)
  | mp (kt vt : TypeId) (es : List (C × C))
inductive Lf where
  | i (n : Int)
  | b (x : Bool)
  | s (x : ByteArray)
  | l (xs : Rw)
  | m (es : List (C × C))
def Lf.int : Lf → Int | .i n => n | _ => 0
def Lf.bool : Lf → Bool | .b x => x | _ => false
def Lf.str : Lf → ByteArray | .s x => x | _ => .empty
def Lf.list : Lf → Rw | .l xs => xs | _ => []
def Lf.map : Lf → List (C × C) | .m es => es | _ => []
abbrev Lv := List Lf
def g (lv : Lv) (n : Nat) : Lf := lv.getD n (.i 0)
def look {α : Type} (d : α) : List (Nat × α) → Nat → α
  | [], _ => d
  | (k, v) :: r, n => cond (Nat.beq k n) v (look d r n)
def has : List Nat → Nat → Bool
  | [], _ => false
  | k :: r, n => cond (Nat.beq k n) true (has r n)
structure St where
  tm : List (Nat × AV)
  dv : AV
  ob : List (Nat × AO)
  nx : Nat
def St.t (σ : St) : Nat → AV := look σ.dv σ.tm
def St.o (σ : St) : Nat → AO := look .dead σ.ob
def ofConst1 : Value → AS
  | .int k n => .i k n
  | .bool x => .b x
  | .string s => .s s
  | .pointer none => .np
  | .slice none 0 0 => .ns
  | .map none => .nm
  | .tuple ⟨[]⟩ => .ud
  | _ => .un
def ofConst : Value → AV
  | .agg cs => .ag (cs.toList.map ofConst1)
  | v => .sc (ofConst1 v)
def opnd (tm : Nat → AV) : Operand → AV
  | .tmp t => tm t
  | .const v => ofConst v
  | .func f => .sc (.fn f [])
  | .global _ => .sc .un
def AV.cells : AV → List AS
  | .sc .un => []
  | .sc x => [x]
  | .ag xs => xs
  | .tu _ => []
def AS.one : AS → Bool
  | .un | .ud => false
  | _ => true
def AS.ids : AS → List Nat
  | .pt id _ | .po id _ _ _ | .ow id _ | .sb id _ _ _ | .mp id => [id]
  | .fn _ caps => caps.map (·.1)
  | _ => []
def AV.ids : AV → List Nat
  | .sc x => x.ids
  | .ag xs => xs.flatMap AS.ids
  | .tu _ => []
abbrev Lk := Nat → AO
def keq (a b : IntKind) : Bool := decide (a = b)
def content (lk : Lk) : AS → Option (Option TypeId × Bool × Rw × List Nat)
  | .ns => some (none, true, [], [])
  | .fz e fr xs => some (some e, fr, xs, [])
  | .ow id m => match lk id with
    | .rw e fr xs ser => cond (Nat.beq m ser) (some (some e, fr, xs, [id])) none
    | .fz e fr xs ser => cond (Nat.beq m ser) (some (some e, fr, xs, [])) none
    | _ => none
  | .sb id m lo hi => match lk id with
    | .rw e fr xs ser => cond (Nat.beq m ser) (some (some e, fr, sub xs lo hi, [id])) none
    | .fz e fr xs ser => cond (Nat.beq m ser) (some (some e, fr, sub xs lo hi, [])) none
    | _ => none
  | _ => none
def fits (e : TypeId) : Option TypeId → Bool
  | none => true
  | some e' => Nat.beq e e'
def toC (P : Program) (lk : Lk) : CK → AS → Option (C × Bool × List Nat)
  | .i k, .i k' n => cond (keq k k') (some (.i n, true, [])) none
  | .b, .b x => some (.b x, true, [])
  | .s, .s x => some (.s x, true, [])
  | .sl e, x => match content lk x with
    | some (e', fr, xs, ids) => cond (fits e e' && deep P 7 e) (some (.l xs, fr, ids)) none
    | none => none
  | _, _ => none
def toCs (P : Program) (lk : Lk) (e : TypeId) : Nat → List AS → Option (List C × Bool × List Nat)
  | _, [] => some ([], true, [])
  | o, x :: r => match toC P lk (ck P e o) x with
    | none => none
    | some (c, f, ids) => match toCs P lk e (o + 1) r with
      | none => none
      | some (cs, f', ids') => some (c :: cs, f && f', ids ++ ids')
def ofC (k : CK) (fr : Bool) (c : C) : AS := match k with
  | .i k => .i k c.int
  | .b => .b c.bool
  | .s => .s c.str
  | .sl e => .fz e fr c.list
  | .x => .un
def ofCs (P : Program) (e : TypeId) (fr : Bool) (xs : Rw) (ix o n : Nat) : List AS :=
  (List.range n).map fun j => ofC (ck P e (o + j)) fr (rd xs ix (o + j))
def rowsC (P : Program) (lk : Lk) (e : TypeId) (s : Nat) : Nat → List AS → Option (Rw × Bool × List Nat)
  | 0, _ => some ([], true, [])
  | n + 1, l => match toCs P lk e 0 (l.take s) with
    | none => none
    | some (c, f, ids) => match rowsC P lk e s n (l.drop s) with
      | none => none
      | some (r, f', ids') => some (c :: r, f && f', ids ++ ids')
def frz (lk : Lk) : List Nat → List (Nat × AO)
  | [] => []
  | id :: r => match lk id with
    | .rw e fr xs ser => (id, .fz e fr xs ser) :: frz lk r
    | _ => frz lk r
structure AR where
  gs : List Bool
  v : AV
  ws : List (Nat × AO)
  nn : Nat
def AR.pure (v : AV) : Option AR := some ⟨[], v, [], 0⟩
def sc (x : AS) : Option AR := some ⟨[], .sc x, [], 0⟩
def fields (P : Program) (t : TypeId) : List Field := match P.underlying t with | some (.struct fs) => fs.toList | _ => []
def elOf (P : Program) (t : TypeId) : Option TypeId := match P.underlying t with | some (.slice e) => some e | _ => none
def zero (P : Program) (t : TypeId) : Option AV := match P.info? t with
  | some i => i.zero.map ofConst
  | none => none
def setMany (cs : List AS) (o : Nat) : List AS → List AS
  | [] => cs
  | x :: r => setMany (cs.set o x) (o + 1) r
def lay (place : Nat → Option (Nat × Nat)) (cs : List AS) : List (Nat × AV) → Option (List AS)
  | [] => some cs
  | (i, v) :: r => match place i with
    | none => none
    | some (o, n) => cond (!v.cells.isEmpty && (Nat.beq v.cells.length n && Nat.ble (o + n) cs.length)) (lay place (setMany cs o v.cells) r) none
def binInt (op : BinOp) (k : IntKind) (a b : Int) : Option (List Bool × AS) := match op with
  | .add => some ([], .i k (k.wrap (a + b)))
  | .sub => some ([], .i k (k.wrap (a - b)))
  | .mul => some ([], .i k (k.wrap (a * b)))
  | .quo => some ([b != 0], .i k (k.wrap (a.tdiv b)))
  | .rem => some ([b != 0], .i k (a.tmod b))
  | .xor => some ([], .i k (k.wrap (BitVec.ofInt k.bits a ^^^ BitVec.ofInt k.bits b).toNat))
  | .or => some ([], .i k (k.wrap (BitVec.ofInt k.bits a ||| BitVec.ofInt k.bits b).toNat))
  | .and => some ([], .i k (k.wrap (BitVec.ofInt k.bits a &&& BitVec.ofInt k.bits b).toNat))
  | .eql => some ([], .b (a == b))
  | .neq => some ([], .b (a != b))
  | .lss => some ([], .b (decide (a < b)))
  | .leq => some ([], .b (decide (a ≤ b)))
  | .gtr => some ([], .b (decide (b < a)))
  | .geq => some ([], .b (decide (b ≤ a)))
  | _ => none
def seq (x y : ByteArray) : Bool := x.toList == y.toList
def slt (x y : ByteArray) : Bool := Op.bytesLess x.toList y.toList
def binStr (op : BinOp) (x y : ByteArray) : Option (List Bool × AS) := match op with
  | .add => some ([decide (x.size + y.size ≤ most)], .s (x ++ y))
  | .eql => some ([], .b (seq x y))
  | .neq => some ([], .b (!seq x y))
  | .lss => some ([], .b (slt x y))
  | .leq => some ([], .b (slt x y || seq x y))
  | .gtr => some ([], .b (!(slt x y || seq x y)))
  | .geq => some ([], .b (!slt x y))
  | _ => none
def binShift (op : BinOp) (k : IntKind) (a b : Int) : Option (List Bool × AS) := match op with
  | .shl => some ([decide (0 ≤ b)], .i k (k.wrap (a * 2 ^ (min b.toNat k.bits))))
  | .shr => some ([decide (0 ≤ b)], .i k (a.fdiv (2 ^ (min b.toNat k.bits))))
  | _ => none
def eq1 : CK → AS → AS → Option Bool
  | .i k, .i j a, .i j' b => cond (keq k j && keq k j') (some (a == b)) none
  | .b, .b a, .b b => some (a == b)
  | .s, .s a, .s b => some (seq a b)
  | _, _, _ => none
def plain (P : Program) (t : TypeId) : Option CK := match P.underlying t with
  | some (.int k) => some (.i k)
  | some .bool => some .b
  | some .string => some .s
  | _ => none
def eqFs (P : Program) : List Field → List AS → List AS → Option Bool
  | [], _, _ => some true
  | f :: fs, xs, ys => cond (f.name == "_") none (match plain P f.type, xs[f.offset]?, ys[f.offset]? with
    | some k, some x, some y => match eq1 k x y with
      | none => none
      | some b => match eqFs P fs xs ys with
        | none => none
        | some r => some (b && r)
    | _, _, _ => none)
def aeqs (P : Program) (xt : TypeId) (xs ys : List AS) : Option Bool := match P.underlying xt with
  | some (.struct fs) => cond (P.stoodInHeld xt || P.eqGuardType P.depth xt) none (eqFs P fs.toList xs ys)
  | _ => none
def isShift : BinOp → Bool | .shl | .shr => true | _ => false
def abin (P : Program) (op : BinOp) (xt : TypeId) (x y : AV) : Option AR :=
  match x, y with
  | .sc (.i k a), .sc (.i k' b) =>
    match isShift op with
    | true => match binShift op k a b with | some (gs, v) => some ⟨gs, .sc v, [], 0⟩ | none => none
    | false => cond (keq k k') (match binInt op k a b with | some (gs, v) => some ⟨gs, .sc v, [], 0⟩ | none => none) none
  | .sc (.s a), .sc (.s b) => match binStr op a b with | some (gs, v) => some ⟨gs, .sc v, [], 0⟩ | none => none
  | .sc (.b a), .sc (.b b) => match op, P.underlying xt with
    | .eql, some .bool => sc (.b (a == b))
    | .neq, some .bool => sc (.b (!(a == b)))
    | _, _ => none
  | .ag xs, .ag ys => match op with
    | .eql => match aeqs P xt xs ys with | some r => sc (.b r) | none => none
    | .neq => match aeqs P xt xs ys with | some r => sc (.b (!r)) | none => none
    | _ => none
  | _, _ => none
def aun (op : UnOp) (x : AV) : Option AR := match op, x with
  | .not, .sc (.b x) => sc (.b !x)
  | .neg, .sc (.i k n) => sc (.i k (k.wrap (0 - n)))
  | _, _ => none
def aread (P : Program) (t e : TypeId) (fr : Bool) (xs : Rw) (ix o : Nat) : Option AR := match isAg P t with
  | true => cond (Nat.ble (o + esz P t) (esz P e)) (AR.pure (.ag (ofCs P e fr xs ix o (esz P t)))) none
  | false => cond (Nat.ble (o + 1) (esz P e)) (sc (ofC (ck P e o) fr (rd xs ix o))) none
def aload (P : Program) (lk : Lk) (t : TypeId) (a : AV) : Option AR := match P.underlying t, a with
  | some _, .sc (.pt id off) => match lk id with
    | .bx cells | .rb cells => match isAg P t with
      | true => cond (Nat.ble (off + esz P t) cells.length) (AR.pure (.ag ((cells.drop off).take (esz P t)))) none
      | false => (match cells[off]? with | some x => sc x | none => none)
    | _ => none
  | some _, .sc (.pe e fr xs ix o) => aread P t e fr xs ix o
  | some _, .sc (.po id n ix o) => match lk id with
    | .rw e fr xs ser => cond (Nat.beq n ser) (aread P t e fr xs ix o) none
    | .fz e fr xs ser => cond (Nat.beq n ser) (aread P t e fr xs ix o) none
    | _ => none
  | _, _ => none
def astore (P : Program) (lk : Lk) (t : TypeId) (a x : AV) : Option AR :=
  cond (!x.cells.isEmpty && (Nat.beq x.cells.length (esz P t) && x.cells.all AS.one)) (match a with
  | .sc (.pt id off) => match lk id with
    | .bx cells => cond (Nat.ble (off + x.cells.length) cells.length) (some ⟨[], .sc .ud, [(id, .bx (setMany cells off x.cells))], 0⟩) none
    | _ => none
  | .sc (.po id n ix o) => match lk id with
    | .rw e fr xs ser => cond (Nat.beq n ser && Nat.ble (o + x.cells.length) (esz P e)) (match toCs P lk e o x.cells with
      | some (cs, f, ids) => cond (has ids id) none (some ⟨[], .sc .ud, (id, .rw e (fr && f) (wrs xs ix o cs) ser) :: frz lk ids, 0⟩)
      | none => none) none
    | _ => none
  | _ => none) none
def now (lk : Lk) (id n : Nat) : Bool := match lk id with
  | .rw _ _ _ ser => Nat.beq n ser
  | .fz _ _ _ ser => Nat.beq n ser
  | _ => false
def afield (P : Program) (lk : Lk) (s : TypeId) (f : Nat) : AV → Option AR
  | .sc x => match (fields P s)[f]? with
    | none => none
    | some fd => cond (Nat.beq (esz P fd.type) 0) none (match x with
      | .pt id off => sc (.pt id (off + fd.offset))
      | .pe e fr xs ix o => sc (.pe e fr xs ix (o + fd.offset))
      | .po id n ix o => cond (now lk id n) (sc (.po id n ix (o + fd.offset))) none
      | _ => none)
  | _ => none
def aindex (P : Program) (lk : Lk) (t : TypeId) : AV → AV → Option AR
  | .sc x, .sc (.i _ n) => match elOf P t with
    | none => none
    | some e => match P.info? e with
      | none => none
      | some _ => match x with
        | .fz e' fr xs => cond (Nat.beq e e') (some ⟨[inb n xs.length], .sc (.pe e fr xs n.toNat 0), [], 0⟩) none
        | .ow id m => match lk id with
          | .rw e' fr xs ser => cond (Nat.beq e e' && Nat.beq m ser) (some ⟨[inb n xs.length], .sc (.po id m n.toNat 0), [], 0⟩) none
          | .fz e' fr xs ser => cond (Nat.beq e e' && Nat.beq m ser) (some ⟨[inb n xs.length], .sc (.po id m n.toNat 0), [], 0⟩) none
          | _ => none
        | _ => none
  | _, _ => none
def rowOk (P : Program) (e : TypeId) : Bool := match zero P e with
  | some z => Nat.beq z.cells.length (esz P e) && !Nat.beq (esz P e) 0
  | none => false
def asrc (P : Program) (lk : Lk) (e : TypeId) : AS → Option (Bool × Rw)
  | .s z => match ck P e 0, esz P e with | .i .u8, 1 => some (true, rowsOf z) | _, _ => none
  | x => match content lk x with | some (e', fr, ys, _) => cond (fits e e') (some (fr || flat P e, ys)) none | none => none
def aappend (P : Program) (lk : Lk) (nid : Nat) (st : TypeId) (s x : AV) : Option AR :=
  match elOf P st, s, x with
  | some e, .sc s, .sc x => match asrc P lk e x with
    | none => none
    | some (f, ys) => cond (Nat.ble (ebytes P e) 128 && rowOk P e) (match s with
      | .ns => some ⟨[decide (ys.length ≤ most)], .sc (.ow nid 0), [(nid, .rw e f ys 0)], 1⟩
      | .ow id m => match lk id with
        | .rw e' fr xs ser => cond (Nat.beq e e' && Nat.beq m ser) (some ⟨[decide (xs.length + ys.length ≤ most)], .sc (.ow id (ser + 1)), [(id, .rw e (fr && f) (xs ++ ys) (ser + 1))], 0⟩) none
        | _ => none
      | .sb id m lo hi => match lk id with
        | .rw e' fr xs ser => cond (Nat.beq e e' && Nat.beq m ser) (some ⟨[decide ((Eng.sub xs lo hi).length + ys.length ≤ most)], .sc (.ow id (ser + 1)), [(id, .rw e (fr && f) (Eng.sub xs lo hi ++ ys) (ser + 1))], 0⟩) none
        | _ => none
      | _ => none) none
  | _, _, _ => none
def bounds (len : Nat) (lo hi : Option AV) : Option (List Bool × Nat × Nat) :=
  match (match hi with | none => some ([], len) | some (.sc (.i _ n)) => some ([decide (0 ≤ n), decide (n ≤ (len : Int))], n.toNat) | _ => none) with
  | none => none
  | some (g1, h) => match lo with
    | none => some (g1, 0, h)
    | some (.sc (.i _ n)) => some (g1 ++ [decide (0 ≤ n), decide (n ≤ (h : Int))], n.toNat, h)
    | _ => none
def aslice (P : Program) (lk : Lk) (t : TypeId) (x : AV) (lo hi : Option AV) : Option AR :=
  match P.underlying t, x with
  | some .string, .sc (.s z) => match bounds z.size lo hi with
    | some (gs, l, h) => some ⟨gs, .sc (.s (z.extract l h)), [], 0⟩
    | none => none
  | some (.slice e), .sc x => match P.info? e with
   | none => none
   | some _ => match x with
    | .ns => match bounds 0 lo hi with | some (gs, _, _) => some ⟨gs, .sc .ns, [], 0⟩ | none => none
    | .fz e' fr xs => cond (Nat.beq e e') (match bounds xs.length lo hi with
      | some (gs, l, h) => some ⟨gs, .sc (.fz e fr (sub xs l h)), [], 0⟩
      | none => none) none
    | .ow id m => match lk id with
      | .rw e' _ xs ser => cond (Nat.beq e e' && Nat.beq m ser) (match bounds xs.length lo hi with
        | some (gs, l, h) => some ⟨gs, .sc (.sb id m l h), [], 0⟩
        | none => none) none
      | .fz e' fr xs ser => cond (Nat.beq e e' && Nat.beq m ser) (match bounds xs.length lo hi with
        | some (gs, l, h) => some ⟨gs, .sc (.fz e fr (sub xs l h)), [], 0⟩
        | none => none) none
      | _ => none
    | _ => none
  | _, _ => none
def aconv (P : Program) (lk : Lk) (nid : Nat) (src dst : TypeId) : AV → Option AR
  | .sc x => match P.underlying src, P.underlying dst, x with
    | some (.int _), some (.int k), .i _ n => sc (.i k (k.wrap n))
    | some .string, some .string, .s z => sc (.s z)
    | some .string, some (.slice e), .s z => match P.underlying e with
      | some (.int .u8) => cond (Nat.beq (esz P e) 1) (some ⟨[], .sc (.ow nid 0), [(nid, .fz e true (rowsOf z) 0)], 1⟩) none
      | _ => none
    | some (.slice e), some .string, x => match P.underlying e, content lk x with
      | some (.int .u8), some (e', _, xs, _) => cond (fits e e' && Nat.beq (esz P e) 1) (sc (.s (bytesOf xs))) none
      | _, _ => none
    | _, _, _ => none
  | _ => none
def pk (P : Program) (t : TypeId) : CK := (plain P t).getD .x
def toCk : CK → AS → Option C
  | .i k, .i k' n => cond (keq k k') (some (.i n)) none
  | .b, .b x => some (.b x)
  | .s, .s x => some (.s x)
  | _, _ => none
def ceq (k : CK) (a b : C) : Bool := match k with
  | .i _ => a.int == b.int
  | .b => a.bool == b.bool
  | .s => a.str == b.str
  | _ => false
def mget (k : CK) (x : C) : List (C × C) → Option C
  | [] => none
  | (k', v') :: r => cond (ceq k x k') (some v') (mget k x r)
def mput (k : CK) (x v : C) : List (C × C) → List (C × C)
  | [] => [(x, v)]
  | (k', v') :: r => cond (ceq k x k') ((x, v) :: r) ((k', v') :: mput k x v r)
def alookup (P : Program) (lk : Lk) (t : TypeId) (ok : Bool) : AV → AV → Option AR
  | .sc m, .sc k => match P.underlying t with
    | some (.map kt vt) => match toCk (pk P kt) k, zero P vt with
      | some kc, some (.sc zx) => match toCk (pk P vt) zx with
        | none => none
        | some z => match (match m with
          | .nm => some []
          | .mp id => (match lk id with | .mp kt' vt' es => cond (Nat.beq kt kt' && Nat.beq vt vt') (some es) none | _ => none)
          | _ => none) with
          | none => none
          | some es => match ok with
            | true => AR.pure (.tu [(false, [ofC (pk P vt) true ((mget (pk P kt) kc es).getD z)]), (false, [.b (mget (pk P kt) kc es).isSome])])
            | false => sc (ofC (pk P vt) true ((mget (pk P kt) kc es).getD z))
      | _, _ => none
    | _ => none
  | _, _ => none
def amapup (P : Program) (lk : Lk) (t : TypeId) : AV → AV → AV → Option AR
  | .sc (.mp id), .sc k, .sc v => match P.underlying t, lk id with
    | some (.map kt vt), .mp kt' vt' es => cond (Nat.beq kt kt' && Nat.beq vt vt') (match toCk (pk P kt) k, toCk (pk P vt) v with
      | some kc, some vc => some ⟨[], .sc .ud, [(id, .mp kt vt (mput (pk P kt) kc vc es))], 0⟩
      | _, _ => none) none
    | _, _ => none
  | _, _, _ => none
def aextract (ix : Nat) : AV → Option AR
  | .tu vs => match vs[ix]? with
    | some (true, xs) => AR.pure (.ag xs)
    | some (false, [x]) => sc x
    | _ => none
  | _ => none
def mx2 (a b : Int) : Int := if b > a then b else a
def mn2 (a b : Int) : Int := if b < a then b else a
def amm (mx : Bool) (k : IntKind) : Int → List AV → Option AS
  | a, [] => some (.i k a)
  | a, .sc (.i k' b) :: r => cond (keq k k') (amm mx k (cond mx (mx2 a b) (mn2 a b)) r) none
  | _, _ => none
def acall (P : Program) (b : Builtin) (ats : Array TypeId) (lk : Lk) (nid : Nat) (vs : List AV) : Option AR :=
  match b, vs with
  | .len, [.sc (.s z)] => match (ats[0]?).bind P.underlying with | some .string => sc (.i .i64 (z.size : Int)) | _ => none
  | .len, [.sc x] => match (ats[0]?).bind P.underlying with
    | some (.slice _) => match content lk x with | some (_, _, xs, _) => sc (.i .i64 (xs.length : Int)) | none => none
    | _ => none
  | .append, [s, x] => match ats.toList with
    | [st, u] => match P.underlying u with
      | some (.slice _) => aappend P lk nid st s x
      | some .string => aappend P lk nid st s x
      | _ => none
    | _ => none
  | .max, .sc (.i k a) :: r => match amm true k a r with | some x => sc x | none => none
  | .min, .sc (.i k a) :: r => match amm false k a r with | some x => sc x | none => none
  | _, _ => none
def optAt : List AV → Option Operand → Option (Option AV × List AV)
  | r, none => some (none, r)
  | x :: r, some _ => some (some x, r)
  | [], some _ => none
def abuild (P : Program) (t : TypeId) (ps : List Nat) (vs : List AV) : Option AR := match zero P t, P.underlying t with
  | some (.ag z), some (.struct fs) => cond (fs.toList.all fun f => (P.info? f.type).isSome) (match lay (fun i => (fs.toList[i]?).map fun f => (f.offset, esz P f.type)) z (ps.zip vs) with
    | some cs => AR.pure (.ag cs)
    | none => none) none
  | _, _ => none
def abuildSlice (P : Program) (lk : Lk) (nid : Nat) (t : TypeId) (n : Nat) (ps : List Nat) (vs : List AV) : Option AR := match elOf P t with
  | none => none
  | some e => match zero P e with
    | none => none
    | some z => cond (Nat.ble (n * esz P e) 16777216 && rowOk P e) (match lay (fun i => some (i * esz P e, esz P e)) (List.replicate n z.cells).flatten (ps.zip vs) with
      | none => none
      | some cs => match rowsC P lk e (esz P e) n cs with
        | some (xs, f, ids) => some ⟨[], .sc (.ow nid 0), (nid, .rw e f xs 0) :: frz lk ids, 1⟩
        | none => none) none
def anil (lk : Lk) : AV → Option AR
  | .sc (.pt id off) => sc (.pt id off)
  | .sc (.pe e fr xs ix o) => sc (.pe e fr xs ix o)
  | .sc (.po id n ix o) => cond (now lk id n) (sc (.po id n ix o)) none
  | _ => none
def capsOf : List AV → Option (List (Nat × Nat))
  | [] => some []
  | .sc (.pt id off) :: r => match capsOf r with | some cs => some ((id, off) :: cs) | none => none
  | _ => none
def amake (P : Program) (lk : Lk) (nid : Nat) (t : TypeId) : AV → AV → Option AR
  | .sc (.i k n), .sc (.i k' m) => match elOf P t with
    | none => none
    | some e => match zero P e with
      | none => none
      | some z => match toCs P lk e 0 z.cells with
        | some (c, true, []) => cond (Nat.ble (ebytes P e) 128 && rowOk P e) (some ⟨[decide (0 ≤ n), n == m, decide (n ≤ most)], .sc (.ow nid 0), [(nid, .rw e true (List.replicate n.toNat c) 0)], 1⟩) none
        | _ => none
  | _, _ => none
def afieldV (P : Program) (s : TypeId) (f : Nat) : AV → Option AR
  | .ag cs => match (fields P s)[f]? with
    | none => none
    | some fd => match P.underlying fd.type with
      | none => none
      | some _ => match isAg P fd.type with
        | true => cond (Nat.ble (fd.offset + esz P fd.type) cs.length) (AR.pure (.ag ((cs.drop fd.offset).take (esz P fd.type)))) none
        | false => (match cs[fd.offset]? with | some x => sc x | none => none)
  | _ => none
def aindexS (P : Program) (t : TypeId) : AV → AV → Option AR
  | .sc (.s z), .sc (.i _ n) => match P.underlying t with
    | some .string => some ⟨[inb n z.size], .sc (.i .u8 (byteAt z n.toNat)), [], 0⟩
    | _ => none
  | _, _ => none
def apick (c x y : AV) : Option AR := match c with
  | .sc (.b c) => AR.pure (match c with | true => x | false => y)
  | _ => none
def abox (nid : Nat) : AV → Option AR
  | .tu _ => none
  | x => some ⟨[], .sc (.pt nid 0), [(nid, .bx x.cells)], 1⟩
def acore (P : Program) (op : Op) (lk : Lk) (nid : Nat) (vs : List AV) : Option AR := match op with
  | .move _ => match vs with | [x] => AR.pure x | _ => none
  | .assign _ => match vs with | [x] => AR.pure x | _ => none
  | .pick _ _ _ => match vs with | [c, x, y] => apick c x y | _ => none
  | .alloc t => match zero P t with | some z => some ⟨[], .sc (.pt nid 0), [(nid, .bx z.cells)], 1⟩ | none => none
  | .box _ _ => match vs with | [x] => abox nid x | _ => none
  | .build t ps => abuild P t (ps.toList.map (·.1)) vs
  | .buildSlice t n ps => abuildSlice P lk nid t n (ps.toList.map (·.1)) vs
  | .load t x => match x with
    | .global _ => cond (isAg P t && Nat.beq (esz P t) 0) (AR.pure (.ag [])) none
    | _ => match vs with | [a] => aload P lk t a | _ => none
  | .store t _ _ => match vs with | [a, x] => astore P lk t a x | _ => none
  | .nilCheck _ => match vs with | [x] => anil lk x | _ => none
  | .binOp op xt _ _ _ => match vs with | [x, y] => abin P op xt x y | _ => none
  | .unOp op _ _ => match vs with | [x] => aun op x | _ => none
  | .convert s d _ => match vs with | [x] => aconv P lk nid s d x | _ => none
  | .makeFunc (.func f) first _ => cond (Nat.beq first.size 0) (match capsOf vs with
    | some caps => sc (.fn f caps)
    | none => none) none
  | .makeMap t none => match P.underlying t with | some (.map kt vt) => some ⟨[], .sc (.mp nid), [(nid, .mp kt vt [])], 1⟩ | _ => none
  | .makeSlice t _ _ => match vs with | [n, m] => amake P lk nid t n m | _ => none
  | .slice t _ lo hi none => match vs with
    | x :: r => match optAt r lo with
      | none => none
      | some (l, r') => match optAt r' hi with
        | some (h, []) => aslice P lk t x l h
        | _ => none
    | _ => none
  | .fieldAddr s _ f => match vs with | [x] => afield P lk s f x | _ => none
  | .field s _ f => match vs with | [x] => afieldV P s f x | _ => none
  | .indexAddr t _ _ => match vs with | [x, i] => aindex P lk t x i | _ => none
  | .index t _ _ => match vs with | [x, i] => aindexS P t x i | _ => none
  | .lookup t _ _ ok => match vs with | [m, k] => alookup P lk t ok m k | _ => none
  | .mapUpdate t _ _ _ => match vs with | [m, k, v] => amapup P lk t m k v | _ => none
  | .extract _ ix => match vs with | [x] => aextract ix x | _ => none
  | .call c => match c.callee with
    | .builtin b => acall P b c.argTypes lk nid vs
    | _ => none
  | _ => none
end Go.Eng
end
section
namespace Go.Eng
open Go
inductive PS where
  | un
  | i (k : IntKind) (n : Nat)
  | b (n : Nat)
  | s (n : Nat)
  | fz (e : TypeId) (fr : Bool) (n : Nat)
  | ow (j : Nat)
  | pt (j off : Nat)
  | fn (f : Nat) (caps : List (Nat × Nat))
  | mp (j : Nat)
inductive PV where
  | sc (p : PS)
  | ag (ps : List PS)
  | tu (ps : List (Bool × List PS))
inductive PO where
  | bx (ps : List PS)
  | rb (ps : List PS)
  | rw (e : TypeId) (fr : Bool) (n : Nat)
  | mp (kt vt : TypeId) (n : Nat)
structure Pat where
  vals : List PV
  objs : List PO
inductive Bd where
  | o (id base : Nat)
  | nil
  | sb (id lo hi : Nat)
structure Env where
  lv : List Lf
  n : Nat
  ids : List (Nat × Bd)
  bo : List Nat
  af : Bool
def Env.push (E : Env) (n : Nat) (x : Lf) : Option Env := cond (Nat.beq n E.n) (some { E with lv := x :: E.lv, n := E.n + 1 }) none
def bd : List (Nat × Bd) → Nat → Option Bd
  | [], _ => none
  | (k, v) :: r, n => cond (Nat.beq k n) (some v) (bd r n)
def Env.bind (E : Env) (j : Nat) (id base : Nat) : Option Env := match bd E.ids j with
  | none => some { E with ids := (j, .o id base) :: E.ids }
  | some (.o id' base') => cond (Nat.beq id id' && Nat.beq base base') (some E) none
  | some _ => none
def Env.bindNew (E : Env) (j : Nat) (b : Bd) : Option Env := match bd E.ids j with
  | none => some { E with ids := (j, b) :: E.ids }
  | some _ => none
def mcaps : List (Nat × Nat) → List (Nat × Nat) → Env → Option Env
  | [], [], E => some E
  | (j, o) :: r, (id, o') :: r', E => cond (Nat.ble o o') (match E.bind j id (o' - o) with | some E' => mcaps r r' E' | none => none) none
  | _, _, _ => none
def mS (lk : Lk) (p : PS) (x : AS) (E : Env) : Option Env := match p with
  | .un => some E
  | .i k n => match x with | .i k' x => cond (keq k k') (E.push n (.i x)) none | _ => none
  | .b n => match x with | .b x => E.push n (.b x) | _ => none
  | .s n => match x with | .s x => E.push n (.s x) | _ => none
  | .fz e fr n => match content lk x with
    | some (e', fr', xs, ids) => cond (fits e e' && (!fr || fr')) (({ E with bo := ids ++ E.bo, af := E.af && fr' } : Env).push n (.l xs)) none
    | none => none
  | .ow j => match x with
    | .ow id m => match lk id with | .rw _ _ _ ser => cond (Nat.beq m ser) (E.bind j id 0) none | _ => none
    | .sb id m lo hi => match lk id with | .rw _ _ _ ser => cond (Nat.beq m ser) (E.bindNew j (.sb id lo hi)) none | _ => none
    | .ns => E.bindNew j .nil
    | _ => none
  | .pt j o => match x with | .pt id o' => cond (Nat.ble o o') (E.bind j id (o' - o)) none | _ => none
  | .fn f caps => match x with | .fn f' caps' => cond (Nat.beq f f') (mcaps caps caps' E) none | _ => none
  | .mp j => match x with | .mp id => E.bind j id 0 | _ => none
def mSs (lk : Lk) : List PS → List AS → Env → Option Env
  | [], [], E => some E
  | p :: ps, x :: xs, E => match mS lk p x E with | some E' => mSs lk ps xs E' | none => none
  | _, _, _ => none
def mTs (lk : Lk) : List (Bool × List PS) → List (Bool × List AS) → Env → Option Env
  | [], [], E => some E
  | (a, p) :: ps, (b, x) :: xs, E => cond (a == b) (match mSs lk p x E with | some E' => mTs lk ps xs E' | none => none) none
  | _, _, _ => none
def mV (lk : Lk) (p : PV) (x : AV) (E : Env) : Option Env := match p, x with
  | .sc p, .sc x => mS lk p x E
  | .ag ps, .ag xs => mSs lk ps xs E
  | .tu ps, .tu xs => mTs lk ps xs E
  | _, _ => none
def mVs (lk : Lk) : List PV → List AV → Env → Option Env
  | [], [], E => some E
  | p :: ps, x :: xs, E => match mV lk p x E with | some E' => mVs lk ps xs E' | none => none
  | _, _, _ => none
def mO (lk : Lk) (p : PO) (b : Bd) (E : Env) : Option Env := match p, b with
  | .bx ps, .o id base => match lk id with
    | .bx cells => cond (Nat.ble (base + ps.length) cells.length) (mSs lk ps ((cells.drop base).take ps.length) E) none
    | _ => none
  | .rb ps, .o id base => match lk id with
    | .bx cells | .rb cells => cond (Nat.ble (base + ps.length) cells.length) (mSs lk ps ((cells.drop base).take ps.length) E) none
    | _ => none
  | .rw e fr n, .o id 0 => match lk id with
    | .rw e' fr' xs _ => cond (Nat.beq e e' && (!fr || fr')) (({ E with af := E.af && fr' } : Env).push n (.l xs)) none
    | _ => none
  | .rw e fr n, .sb id lo hi => match lk id with
    | .rw e' fr' xs _ => cond (Nat.beq e e' && (!fr || fr')) (({ E with af := E.af && fr' } : Env).push n (.l (Eng.sub xs lo hi))) none
    | _ => none
  | .rw e fr n, .nil => E.push n (.l [])
  | .mp kt vt n, .o id 0 => match lk id with
    | .mp kt' vt' es => cond (Nat.beq kt kt' && Nat.beq vt vt') (E.push n (.m es)) none
    | _ => none
  | _, _ => none
def mOs (lk : Lk) : Nat → List PO → Env → Option Env
  | _, [], E => some E
  | j, p :: ps, E => match bd E.ids j with
    | none => none
    | some b => match mO lk p b E with | some E' => mOs lk (j + 1) ps E' | none => none
def Bd.ids : Bd → List Nat | .o id _ => [id] | .sb id _ _ => [id] | .nil => []
def nodup : List Nat → Bool
  | [] => true
  | x :: r => !has r x && nodup r
def mtch (lk : Lk) (p : Pat) (vals : List AV) (known : List (Nat × Bd)) : Option Env :=
  match mVs lk p.vals vals ⟨[], 0, known, [], true⟩ with
  | none => none
  | some E => match mOs lk 0 p.objs E with
    | none => none
    | some E => cond (nodup (E.ids.flatMap fun x => x.2.ids) && (E.bo.all (fun id => !has (E.ids.flatMap fun x => x.2.ids) id) && E.ids.all fun x => Nat.ble (x.1 + 1) p.objs.length)) (some E) none
abbrev Im := Nat → Nat × Nat
def PS.inst (lv : Lv) (im : Im) (fo : Bool) : PS → AS
  | .un => .un
  | .i k n => .i k (g lv n).int
  | .b n => .b (g lv n).bool
  | .s n => .s (g lv n).str
  | .fz e fr n => .fz e (fr || fo) (g lv n).list
  | .ow j => .ow (im j).1 0
  | .pt j o => .pt (im j).1 ((im j).2 + o)
  | .fn f caps => .fn f (caps.map fun c => ((im c.1).1, (im c.1).2 + c.2))
  | .mp j => .mp (im j).1
def PV.inst (lv : Lv) (im : Im) (fo : Bool) : PV → AV
  | .sc p => .sc (p.inst lv im fo)
  | .ag ps => .ag (ps.map (·.inst lv im fo))
  | .tu ps => .tu (ps.map fun x => (x.1, x.2.map (·.inst lv im fo)))
def PO.inst (lv : Lv) (im : Im) (fo : Bool) : PO → AO
  | .bx ps => .bx (ps.map (·.inst lv im fo))
  | .rb ps => .rb (ps.map (·.inst lv im fo))
  | .rw e fr n => .rw e (fr || fo) (g lv n).list 0
  | .mp kt vt n => .mp kt vt (g lv n).map
def numbered {α : Type} : Nat → List α → List (Nat × α)
  | _, [] => []
  | n, x :: r => (n, x) :: numbered (n + 1) r
def selfIm : Im := fun j => (j, 0)
structure Sig where
  fn : Nat
  nb : Nat
  pre : Pat
  post : Pat
  sh : Bool
  f : Lv → Option Lv
def PS.nf : PS → Bool | .fz _ fr _ => !fr | _ => true
def PV.nf : PV → Bool | .sc p => p.nf | .ag ps => ps.all PS.nf | .tu ts => ts.all fun t => t.2.all PS.nf
def PO.nf : PO → Bool | .bx ps => ps.all PS.nf | .rb ps => ps.all PS.nf | .rw _ fr _ => !fr | .mp _ _ _ => true
def Pat.nf (p : Pat) : Bool := p.vals.all PV.nf && p.objs.all PO.nf
def PS.tr : PS → Bool | .fz _ fr _ => fr | _ => true
def PV.tr : PV → Bool | .sc p => p.tr | .ag ps => ps.all PS.tr | .tu ts => ts.all fun t => t.2.all PS.tr
def PO.tr : PO → Bool | .bx ps => ps.all PS.tr | .rb ps => ps.all PS.tr | .rw _ fr _ => fr | .mp _ _ _ => true
def Pat.tr (p : Pat) : Bool := p.vals.all PV.tr && p.objs.all PO.tr
def stays : Nat → List PO → List PO → Bool
  | 0, _, _ => true
  | n + 1, .bx ps :: r, .bx qs :: r' => Nat.beq ps.length qs.length && stays n r r'
  | n + 1, .mp kt vt _ :: r, .mp kt' vt' _ :: r' => (Nat.beq kt kt' && Nat.beq vt vt') && stays n r r'
  | n + 1, .rw e _ _ :: r, .rw e' _ _ :: r' => Nat.beq e e' && stays n r r'
  | _, _, _ => false
def PO.lent : PO → Bool | .rb _ => true | .rw _ _ _ => true | _ => false
def PO.new : PO → Bool | .rb _ => false | _ => true
def Sig.ok (s : Sig) : Bool := s.pre.nf && (stays s.nb s.pre.objs s.post.objs && ((s.pre.objs.drop s.nb).all PO.lent && ((s.post.objs.drop s.nb).all PO.new && (Nat.beq s.post.vals.length 1 && (s.sh || s.post.tr)))))
def sigOf (f : Nat) : List Sig → Option Sig
  | [] => none
  | s :: r => cond (Nat.beq s.fn f) (some s) (sigOf f r)
def more (ob : Nat → AO) (ids : List Nat) : List Nat := ids ++ ids.flatMap fun id => match ob id with
  | .bx cells | .rb cells => cells.flatMap AS.ids
  | _ => []
def rlk (ids : List Nat) (ob : Nat → AO) : Lk := fun id => cond (has ids id) (ob id) .dead
structure Log where
  dst : Nat
  tr : Nat
  rd : Nat
  wr : Nat
def bit (n : Nat) : Nat := 1 <<< n
def bits (l : List Nat) : Nat := l.foldr (fun n m => bit n ||| m) 0
def St.put (σ : St) (dst : Option Nat) (v : AV) : St := match dst with
  | none => σ
  | some d => { σ with tm := (d, v) :: σ.tm }
def St.apply (σ : St) (dst : Option Nat) (v : AV) (ws : List (Nat × AO)) (nn : Nat) : St :=
  { (σ.put dst v) with ob := ws ++ σ.ob, nx := σ.nx + nn }
def guards : List Bool → Option Lv → Option Lv
  | [], k => k
  | b :: r, k => cond b (guards r k) none
def bdIm (ids : List (Nat × Bd)) (nb nid : Nat) : Im := fun j => cond (Nat.ble nb j) (nid + (j - nb), 0) (match bd ids j with | some (.o id base) => (id, base) | _ => (0, 0))
def back1 (lk : Lk) (lv : Lv) (im : Im) (fo : Bool) : Bd → PO → List (Nat × AO)
  | .o id base, .bx qs => match lk id with | .bx cells => [(id, .bx (setMany cells base (qs.map (·.inst lv im fo))))] | _ => []
  | .o id _, .mp kt vt n => [(id, .mp kt vt (g lv n).map)]
  | .o id _, .rw e fr n => match lk id with | .rw _ _ _ ser => [(id, .rw e (fr || fo) (g lv n).list ser)] | _ => []
  | _, _ => []
def back (lk : Lk) (ids : List (Nat × Bd)) (lv : Lv) (im : Im) (fo : Bool) : Nat → Nat → List PO → List (Nat × AO)
  | 0, _, _ => []
  | _, _, [] => []
  | n + 1, j, p :: ps => match bd ids j with
    | some b => back1 lk lv im fo b p ++ back lk ids lv im fo n (j + 1) ps
    | none => back lk ids lv im fo n (j + 1) ps
def given (nb : Nat) (ids : List (Nat × Bd)) : Nat → List PO → List (Nat × AO)
  | _, [] => []
  | j, p :: ps => cond (Nat.ble nb j) (match p, bd ids j with
    | .rw _ _ _, some (.o id _) => (id, .gone) :: given nb ids (j + 1) ps
    | .rw _ _ _, some (.sb id _ _) => (id, .gone) :: given nb ids (j + 1) ps
    | _, _ => given nb ids (j + 1) ps) (given nb ids (j + 1) ps)
def bdOk (ids : List (Nat × Bd)) : Nat → Nat → List PO → Bool
  | 0, _, _ => true
  | _, _, [] => true
  | n + 1, j, .rw _ _ _ :: r => (match bd ids j with | some (.o _ _) => true | _ => false) && bdOk ids n (j + 1) r
  | n + 1, j, _ :: r => bdOk ids n (j + 1) r
def called (s : Sig) (lk : Lk) (nid : Nat) (E : Env) (y : Lv) : AR :=
  let im := bdIm E.ids s.nb nid
  { gs := [], v := match s.post.vals with | [p] => p.inst y im E.af | _ => .sc .un
    ws := back lk E.ids y im E.af s.nb 0 s.post.objs ++ (numbered nid ((s.post.objs.drop s.nb).map (·.inst y im E.af)) ++ (given s.nb E.ids 0 s.pre.objs ++ cond s.sh (frz lk E.bo) []))
    nn := s.post.objs.length - s.nb }
def capArgs (caps : List (Nat × Nat)) : List AV := caps.map fun c => .sc (.pt c.1 c.2)
def wsOk (nx nn : Nat) (ws : List (Nat × AO)) : Bool := ws.all (fun x => Nat.ble (x.1 + 1) (nx + nn)) && (List.range nn).all fun t => has (ws.map (·.1)) (nx + t)
def looks : Op → Bool
  | .move _ | .assign _ | .pick _ _ _ | .box _ _ | .alloc _ | .build _ _ | .extract _ _ | .field _ _ _ | .unOp _ _ _ | .binOp _ _ _ _ _ | .makeFunc _ _ _ => false
  | _ => true
def opIds (op : Op) (vs : List AV) : List Nat := cond (looks op) (vs.flatMap AV.ids) []
def doOp (P : Program) (Γ : List Sig) (ops : Array Oper) (o : Oper) (σ : St) (lg : List Log) (K : St → List Log → Option Lv) : Option Lv :=
  let vs := o.op.operands.toList.map (opnd σ.t)
  let log (ids : List Nat) (ws : List (Nat × AO)) : Log := ⟨match o.dst with | some d => bit d | none => 0, bits (o.looksAt ops), bits ids, bits (ws.map (·.1))⟩
  match o.op with
  | .call c => match c.callee with
    | .value _ => match vs with
      | .sc (.fn f caps) :: args => match sigOf f Γ with
        | none => none
        | some s =>
          let vs' := args ++ capArgs caps
          let ids := more σ.o (more σ.o (more σ.o (vs'.flatMap AV.ids)))
          match mtch (rlk ids σ.o) s.pre vs' [] with
          | none => none
          | some E => cond (bdOk E.ids s.nb 0 s.pre.objs) ((s.f E.lv.reverse).bind fun y =>
            let r := called s (rlk ids σ.o) σ.nx E y
            cond (wsOk σ.nx r.nn r.ws) (K (σ.apply o.dst r.v r.ws r.nn) (log ids r.ws :: lg)) none) none
      | _ => none
    | _ => let ids := opIds o.op vs
      match acore P o.op (rlk ids σ.o) σ.nx vs with
      | none => none
      | some r => guards r.gs (cond (wsOk σ.nx r.nn r.ws) (K (σ.apply o.dst r.v r.ws r.nn) (log ids r.ws :: lg)) none)
  | _ => let ids := opIds o.op vs
    match acore P o.op (rlk ids σ.o) σ.nx vs with
    | none => none
    | some r => guards r.gs (cond (wsOk σ.nx r.nn r.ws) (K (σ.apply o.dst r.v r.ws r.nn) (log ids r.ws :: lg)) none)
def gdst (ops : Array Oper) (j : Nat) : Option Nat := (ops[j]?).bind (·.dst)
def skipLog (ops : Array Oper) (o : Oper) : Log := ⟨match o.dst with | some d => bit d | none => 0, bits (o.looksAt ops), 0, 0⟩
def runOps (P : Program) (Γ : List Sig) (ops : Array Oper) : List Oper → St → List Log → (St → List Log → Option Lv) → Option Lv
  | [], σ, lg, K => K σ lg
  | o :: r, σ, lg, K => match o.guard with
    | none => doOp P Γ ops o σ lg fun σ lg => runOps P Γ ops r σ lg K
    | some (j, want) => match gdst ops j with
      | none => none
      | some d => match σ.t d with
        | .sc (.b x) => cond x
            (cond want (doOp P Γ ops o (σ.put (some d) (.sc (.b true))) lg fun σ lg => runOps P Γ ops r σ lg K) (runOps P Γ ops r ((σ.put (some d) (.sc (.b true))).put o.dst (.sc .ud)) (skipLog ops o :: lg) K))
            (cond want (runOps P Γ ops r ((σ.put (some d) (.sc (.b false))).put o.dst (.sc .ud)) (skipLog ops o :: lg) K) (doOp P Γ ops o (σ.put (some d) (.sc (.b false))) lg fun σ lg => runOps P Γ ops r σ lg K))
        | .sc .ud => runOps P Γ ops r (σ.put o.dst (.sc .ud)) (skipLog ops o :: lg) K
        | _ => none
def masks : List Oper → List Nat → List Nat
  | [], _ => []
  | o :: r, acc =>
    let m := o.after.toList.foldr (fun e m => cond (Region.binds .any e) (bit e.on ||| (acc.getD e.on 0 ||| m)) m) 0
    m :: masks r (acc ++ [m])
def conf (a b : Log) : Bool := !Nat.beq ((a.dst &&& (b.tr ||| b.dst)) ||| ((b.dst &&& a.tr) ||| ((a.wr &&& (b.rd ||| b.wr)) ||| (b.wr &&& a.rd)))) 0
def chk1 (i : Nat) (a : Log) : List Nat → List Log → Bool
  | m :: ms, b :: r => (!conf a b || m.testBit i) && chk1 i a ms r
  | _, _ => true
def chk (i : Nat) : List Nat → List Log → Bool
  | _ :: ms, a :: r => chk1 i a ms r && chk (i + 1) ms r
  | _, _ => true
def backw : Nat → List Oper → Bool
  | _, [] => true
  | i, o :: r => (o.after.toList.all fun e => !Region.binds .any e || Nat.ble (e.on + 1) i) && backw (i + 1) r
def region (P : Program) (Γ : List Sig) (ops : Array Oper) (draw : Bool) (σ : St) (K : St → Option Lv) : Option Lv :=
  runOps P Γ ops ops.toList σ [] fun σ lg => cond draw (cond (backw 0 ops.toList && chk 0 (masks ops.toList []) lg.reverse) (K σ) none) (K σ)
structure Cut where
  id : Nat
  slots : List Nat
  pat : Pat
structure FD where
  fn : Nat
  nb : Nat
  pre : Pat
  post : Pat
  sh : Bool
  cuts : List Cut
def cutOf (id : Nat) : List Cut → Option Cut
  | [] => none
  | c :: r => cond (Nat.beq c.id id) (some c) (cutOf id r)
def knownUpTo (n : Nat) : List (Nat × Bd) := (List.range n).map fun j => (j, .o j 0)
def Cut.start (c : Cut) (lv : Lv) : St :=
  { tm := c.slots.zip (c.pat.vals.map (·.inst lv selfIm false)), dv := .sc .un, ob := numbered 0 (c.pat.objs.map (·.inst lv selfIm false)), nx := c.pat.objs.length }
def FD.start (d : FD) (lv : Lv) : St :=
  { tm := numbered 0 (d.pre.vals.map (·.inst lv selfIm false)), dv := .sc .ud, ob := numbered 0 (d.pre.objs.map (·.inst lv selfIm false)), nx := d.pre.objs.length }
def resultOf (P : Program) (σ : St) : ResultVar → Option AV
  | .tmp t => some (σ.t t)
  | .cell a t => match σ.t a with
    | .sc (.pt id off) => (aload P σ.o t (.sc (.pt id off))).map (·.v)
    | _ => none
def tupled : AV → Option (Bool × List AS)
  | .sc x => some (false, [x])
  | .ag xs => some (true, xs)
  | .tu _ => none
def resultsOf (P : Program) (fn : Func) (σ : St) : Option AV := match fn.results.toList with
  | [r] => resultOf P σ r
  | rs => match rs.mapM (resultOf P σ) with
    | none => none
    | some vs => match vs.mapM tupled with | none => none | some ts => some (.tu ts)
def rbOk (lk : Lk) (ids : List (Nat × Bd)) : Nat → List PO → Bool
  | _, [] => true
  | j, .rb _ :: r => (match bd ids j with | some (.o id _) => (match lk id with | .rb _ => true | _ => false) | _ => false) && rbOk lk ids (j + 1) r
  | j, _ :: r => rbOk lk ids (j + 1) r
def rwOk (lk : Lk) : Nat → Nat → List PO → Bool
  | 0, _, _ => true
  | _, _, [] => true
  | n + 1, j, .rw _ _ _ :: r => (match lk j with | .rw _ _ _ 0 => true | _ => false) && rwOk lk n (j + 1) r
  | n + 1, j, _ :: r => rwOk lk n (j + 1) r
def FD.fin (P : Program) (d : FD) (fn : Func) (σ : St) : Option Lv := match resultsOf P fn σ with
  | none => none
  | some v => match mtch σ.o d.post [v] (knownUpTo d.nb) with
    | none => none
    | some E => cond (rbOk σ.o E.ids 0 d.post.objs && rwOk σ.o d.nb 0 d.post.objs) (some E.lv.reverse) none
def run (P : Program) (Γ : List Sig) (d : FD) (fn : Func) (A : Nat → Lv → Option Lv) : Nat → List Item → St → Option Lv
  | 0, _, _ => none
  | _ + 1, [], σ => d.fin P fn σ
  | n + 1, it :: k, σ => match it with
    | .code c => match c with
      | .skip => run P Γ d fn A n k σ
      | .label _ => run P Γ d fn A n k σ
      | .seq a b => run P Γ d fn A n (.code a :: .code b :: k) σ
      | .cond c x y => match opnd σ.t c with
        | .sc (.b t) => cond t (run P Γ d fn A n (.code x :: k) σ) (run P Γ d fn A n (.code y :: k) σ)
        | _ => none
      | .block id c => run P Γ d fn A n (.code c :: .inBlock id :: k) σ
      | .loop c => run P Γ d fn A n (.code c :: .inLoop c :: k) σ
      | .exit id => match exitTo id k with
        | some k' => run P Γ d fn A n k' σ
        | none => none
      | .ret => d.fin P fn σ
      | .region id ops dr => match cutOf id d.cuts with
        | some c => match mtch σ.o c.pat (c.slots.map σ.t) (knownUpTo d.nb) with
          | some E => cond (rbOk σ.o E.ids 0 c.pat.objs && rwOk σ.o d.nb 0 c.pat.objs) (A id E.lv.reverse) none
          | none => none
        | none => region P Γ ops dr σ fun σ => run P Γ d fn A n k σ
      | _ => none
    | .inBlock _ => run P Γ d fn A n k σ
    | .inLoop c => run P Γ d fn A n (.code c :: .inLoop c :: k) σ
    | _ => none
def findR (id : Nat) : Code → List Item → Option (Array Oper × Bool × List Item)
  | .region id' ops dr, k => cond (Nat.beq id' id) (some (ops, dr, k)) none
  | .seq a b, k => match findR id a (.code b :: k) with
    | some r => some r
    | none => findR id b k
  | .cond _ x y, k => match findR id x k with
    | some r => some r
    | none => findR id y k
  | .block i c, k => findR id c (.inBlock i :: k)
  | .loop c, k => findR id c (.inLoop c :: k)
  | _, _ => none
def regs : Code → List Nat
  | .region id _ _ => [id]
  | .seq a b => regs a ++ regs b
  | .cond _ x y => regs x ++ regs y
  | .block _ c => regs c
  | .loop c => regs c
  | _ => []
def dsts (n : Nat) : Code → Bool
  | .region _ ops _ => ops.toList.all fun o => match o.dst with | some d => Nat.ble (d + 1) n | none => true
  | .seq a b => dsts n a && dsts n b
  | .cond _ x y => dsts n x && dsts n y
  | .block _ c => dsts n c
  | .loop c => dsts n c
  | _ => true
def FD.sig (d : FD) (f : Lv → Option Lv) : Sig := ⟨d.fn, d.nb, d.pre, d.post, d.sh, f⟩
def FD.ok (d : FD) (fn : Func) : Bool := (d.sig fun _ => none).ok && (d.cuts.all (fun c => stays d.nb d.pre.objs c.pat.objs) && (Nat.ble d.pre.vals.length fn.ntmps && (match fn.body with | some b => nodup (regs b) && dsts fn.ntmps b | none => false)))
def fuel : Nat := 100000
def seg (P : Program) (Γ : List Sig) (d : FD) (fn : Func) (A : Nat → Lv → Option Lv) (at_ : Option Nat) (lv : Lv) : Option Lv :=
  match fn.body with
  | none => none
  | some body => match at_ with
    | none => run P Γ d fn A fuel [.code body] (d.start lv)
    | some id => match cutOf id d.cuts with
      | none => none
      | some c => match findR id body [] with
        | none => none
        | some (ops, dr, k) => region P Γ ops dr (c.start lv) fun σ => run P Γ d fn A fuel k σ
def J (P : Program) (Γ : List Sig) (d : FD) (fn : Func) : Nat → Option Nat → Lv → Option Lv
  | 0, _, _ => none
  | n + 1, at_, lv => seg P Γ d fn (fun id lv => J P Γ d fn n (some id) lv) at_ lv
end Go.Eng
end
section
namespace Go.Eng
open Go
inductive F2 {α β : Type} (R : α → β → Prop) : List α → List β → Prop where
  | nil : F2 R [] []
  | cons {x : α} {y : β} {xs : List α} {ys : List β} (h : R x y) (t : F2 R xs ys) : F2 R (x :: xs) (y :: ys)
theorem F2.mono {α β : Type} {R R' : α → β → Prop} (h : ∀ x y, R x y → R' x y) {xs : List α} {ys : List β} (hf : F2 R xs ys) : F2 R' xs ys := by
  induction hf with
  | nil => exact .nil
  | cons hx _ ih => exact .cons (h _ _ hx) ih
theorem F2.length {α β : Type} {R : α → β → Prop} {xs : List α} {ys : List β} (hf : F2 R xs ys) : xs.length = ys.length := by
  induction hf with
  | nil => rfl
  | cons _ _ ih => simp [ih]
theorem F2.get {α β : Type} {R : α → β → Prop} {xs : List α} {ys : List β} (hf : F2 R xs ys) : ∀ {j : Nat} {x : α}, xs[j]? = some x → ∃ y, ys[j]? = some y ∧ R x y := by
  induction hf with
  | nil => intro j x h; simp at h
  | cons hx _ ih =>
    intro j x h
    cases j with
    | zero => simp at h; subst h; exact ⟨_, by simp, hx⟩
    | succ j => simp at h; obtain ⟨y, h1, h2⟩ := ih h; exact ⟨y, by simpa using h1, h2⟩
theorem F2.of_get {α β : Type} {R : α → β → Prop} : ∀ {xs : List α} {ys : List β}, xs.length = ys.length → (∀ (j : Nat) (x : α) (y : β), xs[j]? = some x → ys[j]? = some y → R x y) → F2 R xs ys
  | [], [], _, _ => .nil
  | x :: xs, y :: ys, hl, h => .cons (h 0 x y (by simp) (by simp)) (F2.of_get (by simpa using hl) fun j a b ha hb => h (j + 1) a b (by simpa using ha) (by simpa using hb))
  | [], _ :: _, hl, _ => by simp at hl
  | _ :: _, [], hl, _ => by simp at hl
theorem F2.append {α β : Type} {R : α → β → Prop} {xs xs' : List α} {ys ys' : List β} (h : F2 R xs ys) (h' : F2 R xs' ys') : F2 R (xs ++ xs') (ys ++ ys') := by
  induction h with
  | nil => exact h'
  | cons hx _ ih => exact .cons hx ih
structure Loc where
  blk : Nat
  off : Nat
  cap : Nat
  nil : Bool
def CellOk (con : TypeId → Option Addr → Rw → Prop) : CK → Value → C → Prop
  | .i k, v, c => v = .int k c.int
  | .b, v, c => v = .bool c.bool
  | .s, v, c => v = .string c.str
  | .sl e, v, c => ∃ A cap, v = .slice A c.list.length cap ∧ c.list.length ≤ cap ∧ con e A c.list
  | .x, _, _ => False
def RowAt (P : Program) (con : TypeId → Option Addr → Rw → Prop) (e : TypeId) (cs : Array Value) (off : Nat) (xs : Rw) : Prop :=
  ∀ i, i < xs.length → ∀ o, o < esz P e → ∃ v, cs[off + i * esz P e + o]? = some v ∧ CellOk con (ck P e o) v (rd xs i o)
def Con (P : Program) (h : Array Obj) (F : Nat → Prop) : Nat → TypeId → Option Addr → Rw → Prop
  | 0, _, _, _ => False
  | d + 1, e, A, xs => xs = [] ∨ ∃ blk off cs ty fz, A = some ⟨blk, off, none⟩ ∧ F blk ∧ h[blk]? = some (.cells cs ty fz) ∧ RowAt P (Con P h F d) e cs off xs
theorem CellOk.mono {con con' : TypeId → Option Addr → Rw → Prop} (h : ∀ e A xs, con e A xs → con' e A xs) {k : CK} {v : Value} {c : C} (hc : CellOk con k v c) : CellOk con' k v c := by
  cases k <;> simp only [CellOk] at hc ⊢ <;> try exact hc
  obtain ⟨A, cap, h1, h2, h3⟩ := hc
  exact ⟨A, cap, h1, h2, h _ _ _ h3⟩
theorem RowAt.mono {P : Program} {con con' : TypeId → Option Addr → Rw → Prop} (h : ∀ e A xs, con e A xs → con' e A xs) {e : TypeId} {cs : Array Value} {off : Nat} {xs : Rw}
    (hc : RowAt P con e cs off xs) : RowAt P con' e cs off xs := fun i hi o ho =>
  let ⟨v, h1, h2⟩ := hc i hi o ho
  ⟨v, h1, h2.mono h⟩
theorem Con.mono {P : Program} {h h' : Array Obj} {F F' : Nat → Prop} (hF : ∀ b, F b → F' b) (hh : ∀ b, F b → h'[b]? = h[b]?) :
    ∀ {d : Nat} {e : TypeId} {A : Option Addr} {xs : Rw}, Con P h F d e A xs → Con P h' F' d e A xs
  | 0, _, _, _, hc => hc.elim
  | d + 1, _, _, _, hc => by
    rcases hc with hc | ⟨blk, off, cs, ty, fz, h1, h2, h3, h4⟩
    · exact .inl hc
    · exact .inr ⟨blk, off, cs, ty, fz, h1, hF _ h2, (hh _ h2).trans h3, h4.mono fun _ _ _ hx => Con.mono hF hh hx⟩
theorem Con.up {P : Program} {h : Array Obj} {F : Nat → Prop} : ∀ {d : Nat} {e : TypeId} {A : Option Addr} {xs : Rw}, Con P h F d e A xs → Con P h F (d + 1) e A xs
  | 0, _, _, _, hc => hc.elim
  | d + 1, _, _, _, hc => by
    rcases hc with hc | ⟨blk, off, cs, ty, fz, h1, h2, h3, h4⟩
    · exact .inl hc
    · exact .inr ⟨blk, off, cs, ty, fz, h1, h2, h3, h4.mono fun _ _ _ hx => Con.up hx⟩
theorem zk0 {P : Program} {e : TypeId} {o : Nat} {k : CK} (h : ck P e o = k) (hk : k ≠ .x) : k ∈ kinds P 8 e := by
  unfold ck at h
  rw [List.getD_eq_getElem?_getD] at h
  cases hx : (kinds P 8 e)[o]? with
  | none => rw [hx] at h; simp at h; exact absurd h.symm hk
  | some y => rw [hx] at h; simp at h; subst h; exact List.mem_of_getElem? hx
theorem Con.down {P : Program} {h : Array Obj} {F : Nat → Prop} {k : Nat} : ∀ {d : Nat} {e : TypeId} {A : Option Addr} {xs : Rw}, deep P d e = true → Con P h F (d + k) e A xs → Con P h F d e A xs
  | 0, _, _, _, hd, hc => by simp [deep] at hd
  | d + 1, e, A, xs, hd, hc => by
    have hc' : Con P h F ((d + k) + 1) e A xs := by rw [show d + 1 + k = d + k + 1 by omega] at hc; exact hc
    rcases hc' with hc | ⟨blk, off, cs, ty, fz, h1, h2, h3, h4⟩
    · exact .inl hc
    · refine .inr ⟨blk, off, cs, ty, fz, h1, h2, h3, fun i hi o ho => ?_⟩
      obtain ⟨v, hv, hok⟩ := h4 i hi o ho
      refine ⟨v, hv, ?_⟩
      generalize hk : ck P e o = kk at hok ⊢
      cases kk with
      | sl e' =>
        obtain ⟨A, cap, e1, e2, e3⟩ := hok
        have hm := zk0 hk (by simp)
        have hd' : deep P d e' = true := by
          simp only [deep, List.all_eq_true] at hd
          exact hd _ hm
        exact ⟨A, cap, e1, e2, Con.down hd' e3⟩
      | _ => exact hok
structure Cx where
  β : Nat → Loc
  F : Bool → Nat → Prop
  ob : Nat → AO
  h : Array Obj
def Loc.ptr (l : Loc) (o : Nat) : Addr := ⟨l.blk, l.off + o, none⟩
def slAddr (P : Program) (e : TypeId) (l : Loc) (lo : Nat) : Option Addr := if l.nil then none else some ⟨l.blk, if lo = l.cap then l.off else l.off + lo * esz P e, none⟩
def RefBx (X : Cx) (id : Nat) (Q : Prop) : Prop := match X.ob id with
  | .bx _ => Q
  | .rb _ => Q
  | _ => False
def RefMp (X : Cx) (id : Nat) (Q : Prop) : Prop := match X.ob id with
  | .mp _ _ _ => Q
  | _ => False
def RefRw (X : Cx) (id n : Nat) (Q : TypeId → Rw → Prop) : Prop := match X.ob id with
  | .dead => False
  | .rw e _ xs ser => n ≤ ser ∧ (n = ser → Q e xs)
  | .fz e _ xs ser => n ≤ ser ∧ (n = ser → Q e xs)
  | _ => True
def RS (P : Program) (X : Cx) : AS → Value → Prop
  | .un, _ => True
  | .ud, v => v = undef
  | .i k n, v => v = .int k n
  | .b x, v => v = .bool x
  | .s x, v => v = .string x
  | .np, v => v = .pointer none
  | .pt id off, v => RefBx X id (v = .pointer (some ((X.β id).ptr off)))
  | .pe e fr xs ix o, v => ∃ blk off cs ty fz, v = .pointer (some ⟨blk, off + ix * esz P e + o, none⟩) ∧ ix < xs.length ∧ X.F fr blk ∧ X.h[blk]? = some (.cells cs ty fz) ∧ RowAt P (Con P X.h (X.F fr) 7) e cs off xs
  | .po id n ix o, v => (∃ a, v = .pointer a) ∧ RefRw X id n fun e xs => ix < xs.length ∧ (X.β id).nil = false ∧ v = .pointer (some ⟨(X.β id).blk, (X.β id).off + ix * esz P e + o, none⟩)
  | .ns, v => v = .slice none 0 0
  | .fz e fr xs, v => ∃ A cap, v = .slice A xs.length cap ∧ xs.length ≤ cap ∧ Con P X.h (X.F fr) 8 e A xs
  | .ow id n, v => (∃ A m c, v = .slice A m c) ∧ RefRw X id n fun e xs => v = .slice (slAddr P e (X.β id) 0) xs.length (X.β id).cap
  | .sb id n lo hi, v => (∃ A m c, v = .slice A m c) ∧ RefRw X id n fun e xs => lo ≤ hi ∧ hi ≤ xs.length ∧ v = .slice (slAddr P e (X.β id) lo) (hi - lo) ((X.β id).cap - lo)
  | .fn f caps, v => (∀ c ∈ caps, RefBx X c.1 True) ∧ v = .func (.func f) #[] (caps.map fun c => Value.pointer (some ((X.β c.1).ptr c.2))).toArray
  | .mp id, v => RefMp X id (v = .map (some (X.β id).blk))
  | .nm, v => v = .map none
def RSs (P : Program) (X : Cx) (xs : List AS) (vs : List Value) : Prop := F2 (RS P X) xs vs
def RT (P : Program) (X : Cx) (x : Bool × List AS) (v : Value) : Prop := match x with
  | (true, xs) => ∃ cs, v = .agg cs ∧ RSs P X xs cs.toList
  | (false, xs) => RSs P X xs [v]
def RV (P : Program) (X : Cx) : AV → Value → Prop
  | .sc x, v => RS P X x v
  | .ag xs, v => ∃ cs, v = .agg cs ∧ RSs P X xs cs.toList
  | .tu ts, v => ∃ vs, v = .tuple vs ∧ F2 (RT P X) ts vs.toList
def MapOk (P : Program) (kt vt : TypeId) (es : List (C × C)) (ents : List MapEntry) : Prop :=
  F2 (fun (c : C × C) (m : MapEntry) => CellOk (fun _ _ _ => False) (pk P kt) m.key c.1 ∧ CellOk (fun _ _ _ => False) (pk P vt) m.val c.2) es ents
def Own (X : Cx) (id : Nat) : Prop := match X.ob id with
  | .bx _ => True
  | .mp _ _ _ => True
  | .rw _ _ _ _ => (X.β id).nil = false
  | _ => False
structure Kx where
  h0 : Array Obj
  R : Nat → Prop
  M : Nat → Prop
def AOok (P : Program) (K : Kx) (X : Cx) (id : Nat) : Prop := match X.ob id with
  | .dead => True
  | .gone => True
  | .bx cells => ∃ cs ty, X.h[(X.β id).blk]? = some (.cells cs ty (0, 0)) ∧ ∀ j x, cells[j]? = some x → ∃ v, cs[(X.β id).off + j]? = some v ∧ RS P X x v
  | .rb cells => K.R (X.β id).blk ∧ ∃ cs ty fz, X.h[(X.β id).blk]? = some (.cells cs ty fz) ∧ ∀ j x, cells[j]? = some x → ∃ v, cs[(X.β id).off + j]? = some v ∧ RS P X x v
  | .rw e fr xs ser => ((X.β id).nil = true ∧ xs = [] ∧ (X.β id).cap = 0) ∨ ((X.β id).nil = false ∧ xs.length ≤ (X.β id).cap ∧ (fr = true → K.h0.size ≤ (X.β id).blk) ∧
      ∃ cs ty, X.h[(X.β id).blk]? = some (.cells cs ty (0, 0)) ∧ (X.β id).off + (X.β id).cap * esz P e ≤ cs.size ∧ RowAt P (Con P X.h (X.F fr) 7) e cs (X.β id).off xs)
  | .fz e fr xs ser => ((X.β id).nil = true ∧ xs = [] ∧ (X.β id).cap = 0) ∨ ((X.β id).nil = false ∧ xs.length ≤ (X.β id).cap ∧ X.F fr (X.β id).blk ∧
      ∃ cs ty fz, X.h[(X.β id).blk]? = some (.cells cs ty fz) ∧ RowAt P (Con P X.h (X.F fr) 7) e cs (X.β id).off xs)
  | .mp kt vt es => ∃ ents clock, X.h[(X.β id).blk]? = some (.map ents clock) ∧ MapOk P kt vt es ents.toList
structure Heap (P : Program) (K : Kx) (X : Cx) : Prop where
  ok : ∀ id, AOok P K X id
  inj : ∀ id id', Own X id → Own X id' → (X.β id).blk = (X.β id').blk → id = id'
  nF : ∀ id, Own X id → ¬ X.F false (X.β id).blk
  nR : ∀ id, Own X id → ¬ K.R (X.β id).blk
  oM : ∀ id, Own X id → K.M (X.β id).blk ∨ K.h0.size ≤ (X.β id).blk
  Fle : ∀ b, X.F true b → X.F false b
  Ffr : ∀ b, X.F true b → K.h0.size ≤ b
  Fsz : ∀ b, X.F false b → b < X.h.size
  Rsz : ∀ b, K.R b → b < K.h0.size
  sz : K.h0.size ≤ X.h.size
theorem Own.lt {P : Program} {K : Kx} {X : Cx} (H : Heap P K X) {id : Nat} (h : Own X id) : (X.β id).blk < X.h.size := by
  have ho := H.ok id
  unfold Own at h
  unfold AOok at ho
  have key : ∀ {o : Obj}, X.h[(X.β id).blk]? = some o → (X.β id).blk < X.h.size := fun hx => by
    rcases Nat.lt_or_ge (X.β id).blk X.h.size with hl | hl
    · exact hl
    · rw [Array.getElem?_eq_none hl] at hx; cases hx
  cases hob : X.ob id <;> simp only [hob] at h ho
  · obtain ⟨_, _, h1, _⟩ := ho; exact key h1
  · rcases ho with ⟨hn, _⟩ | ⟨_, _, _, _, _, h1, _⟩
    · rw [h] at hn; cases hn
    · exact key h1
  · obtain ⟨_, _, h1, _⟩ := ho; exact key h1
end Go.Eng
end
section
namespace Go.Eng
open Go
def Keeps (X X' : Cx) (id : Nat) : Prop := match X.ob id with
  | .dead => True
  | .bx _ => (∃ cells, X'.ob id = .bx cells) ∧ X'.β id = X.β id
  | .rb _ => (∃ cells, X'.ob id = .rb cells) ∧ X'.β id = X.β id
  | .mp _ _ _ => (∃ kt vt es, X'.ob id = .mp kt vt es) ∧ X'.β id = X.β id
  | .gone => X'.ob id = .gone
  | .fz e _ xs ser => X'.ob id = .gone ∨ (∃ fr' xs', X'.ob id = .fz e fr' xs' ser ∧ xs'.length = xs.length) ∧ X'.β id = X.β id
  | .rw e _ xs ser => X'.ob id = .gone ∨ ((∃ fr' xs', (X'.ob id = .rw e fr' xs' ser ∨ X'.ob id = .fz e fr' xs' ser) ∧ xs'.length = xs.length) ∧ X'.β id = X.β id) ∨
      ∃ e' fr' xs' ser', (X'.ob id = .rw e' fr' xs' ser' ∨ X'.ob id = .fz e' fr' xs' ser') ∧ ser < ser'
structure Ext (X X' : Cx) : Prop where
  F : ∀ fr b, X.F fr b → X'.F fr b
  h : ∀ fr b, X.F fr b → X'.h[b]? = X.h[b]?
  keep : ∀ id, Keeps X X' id
theorem Keeps.same {X X' : Cx} {id : Nat} (h1 : X'.ob id = X.ob id) (h2 : X'.β id = X.β id) : Keeps X X' id := by
  unfold Keeps
  rw [h1]
  cases h : X.ob id
  · trivial
  · rfl
  · exact ⟨⟨_, rfl⟩, h2⟩
  · exact ⟨⟨_, rfl⟩, h2⟩
  · exact .inr (.inl ⟨⟨_, _, .inl rfl, rfl⟩, h2⟩)
  · exact .inr ⟨⟨_, _, rfl, rfl⟩, h2⟩
  · exact ⟨⟨_, _, _, rfl⟩, h2⟩
theorem Keeps.refl (X : Cx) (id : Nat) : Keeps X X id := Keeps.same rfl rfl
theorem Ext.refl (X : Cx) : Ext X X := ⟨fun _ _ h => h, fun _ _ _ => rfl, Keeps.refl X⟩
theorem RefBx.ext {X X' : Cx} {id : Nat} {Q Q' : Prop} (k : Keeps X X' id) (h : RefBx X id Q) (hq : X'.β id = X.β id → Q → Q') : RefBx X' id Q' := by
  unfold RefBx at h ⊢
  unfold Keeps at k
  cases ho : X.ob id <;> simp only [ho] at h k
  · obtain ⟨⟨c, hc⟩, hb⟩ := k; simp only [hc]; exact hq hb h
  · obtain ⟨⟨c, hc⟩, hb⟩ := k; simp only [hc]; exact hq hb h
theorem RefMp.ext {X X' : Cx} {id : Nat} {Q Q' : Prop} (k : Keeps X X' id) (h : RefMp X id Q) (hq : X'.β id = X.β id → Q → Q') : RefMp X' id Q' := by
  unfold RefMp at h ⊢
  unfold Keeps at k
  cases ho : X.ob id <;> simp only [ho] at h k
  obtain ⟨⟨_, _, _, hc⟩, hb⟩ := k; simp only [hc]; exact hq hb h
theorem RefRw.ext {X X' : Cx} {id n : Nat} {Q Q' : TypeId → Rw → Prop} (k : Keeps X X' id) (h : RefRw X id n Q) (hq : X'.β id = X.β id → ∀ e xs xs', xs'.length = xs.length → Q e xs → Q' e xs') : RefRw X' id n Q' := by
  unfold RefRw at h ⊢
  unfold Keeps at k
  cases ho : X.ob id <;> simp only [ho] at h k
  · simp only [k]
  · obtain ⟨⟨c, hc⟩, hb⟩ := k; simp only [hc]
  · obtain ⟨⟨c, hc⟩, hb⟩ := k; simp only [hc]
  · rcases k with hc | ⟨⟨fr', xs', hc | hc, hl⟩, hb⟩ | ⟨e', fr', xs', ser', hc | hc, hl⟩ <;> simp only [hc]
    · exact ⟨h.1, fun hn => hq hb _ _ _ hl (h.2 hn)⟩
    · exact ⟨h.1, fun hn => hq hb _ _ _ hl (h.2 hn)⟩
    · exact ⟨by omega, fun hn => by omega⟩
    · exact ⟨by omega, fun hn => by omega⟩
  · rcases k with hc | ⟨⟨fr', xs', hc, hl⟩, hb⟩ <;> simp only [hc]
    exact ⟨h.1, fun hn => hq hb _ _ _ hl (h.2 hn)⟩
  · obtain ⟨⟨_, _, _, hc⟩, hb⟩ := k; simp only [hc]
theorem RS.ext {P : Program} {X X' : Cx} (E : Ext X X') {x : AS} {v : Value} (h : RS P X x v) : RS P X' x v := by
  cases x <;> simp only [RS] at h ⊢ <;> try exact h
  case pt id off => exact h.ext (E.keep id) fun hb he => by rw [hb]; exact he
  case pe e fr xs ix o =>
    obtain ⟨blk, off, cs, ty, fz, h1, h2, h3, h4, h5⟩ := h
    exact ⟨blk, off, cs, ty, fz, h1, h2, E.F _ _ h3, (E.h _ _ h3).trans h4, h5.mono fun _ _ _ hx => Con.mono (E.F fr) (E.h fr) hx⟩
  case po id n ix o => exact ⟨h.1, h.2.ext (E.keep id) fun hb e xs xs' hl he => by rw [hb, hl]; exact he⟩
  case fz e fr xs =>
    obtain ⟨A, cap, h1, h2, h3⟩ := h
    exact ⟨A, cap, h1, h2, Con.mono (E.F fr) (E.h fr) h3⟩
  case ow id n => exact ⟨h.1, h.2.ext (E.keep id) fun hb e xs xs' hl he => by rw [hb, hl]; exact he⟩
  case sb id n lo hi => exact ⟨h.1, h.2.ext (E.keep id) fun hb e xs xs' hl he => by rw [hb, hl]; exact he⟩
  case fn f caps =>
    obtain ⟨h1, h2⟩ := h
    refine ⟨fun c hc => (h1 c hc).ext (E.keep c.1) fun _ ht => ht, ?_⟩
    rw [h2]
    congr 2
    apply List.map_congr_left
    intro c hc
    have hk := h1 c hc
    have hk2 := E.keep c.1
    unfold RefBx at hk
    unfold Keeps at hk2
    cases ho : X.ob c.1 <;> simp only [ho] at hk hk2
    · rw [hk2.2]
    · rw [hk2.2]
  case mp id => exact h.ext (E.keep id) fun hb he => by rw [hb]; exact he
theorem RSs.ext {P : Program} {X X' : Cx} (E : Ext X X') {xs : List AS} {vs : List Value} (h : RSs P X xs vs) : RSs P X' xs vs := F2.mono (fun _ _ hx => hx.ext E) h
theorem RT.ext {P : Program} {X X' : Cx} (E : Ext X X') {x : Bool × List AS} {v : Value} (h : RT P X x v) : RT P X' x v := by
  obtain ⟨b, xs⟩ := x
  cases b
  · exact RSs.ext E h
  · obtain ⟨cs, h1, h2⟩ := h; exact ⟨cs, h1, h2.ext E⟩
theorem RV.ext {P : Program} {X X' : Cx} (E : Ext X X') {x : AV} {v : Value} (h : RV P X x v) : RV P X' x v := by
  cases x <;> simp only [RV] at h ⊢
  · exact h.ext E
  · obtain ⟨cs, h1, h2⟩ := h; exact ⟨cs, h1, h2.ext E⟩
  · obtain ⟨cs, h1, h2⟩ := h; exact ⟨cs, h1, F2.mono (fun _ _ hx => hx.ext E) h2⟩
theorem Keeps.trans {X Y Z : Cx} {id : Nat} (h : Keeps X Y id) (k : Keeps Y Z id) : Keeps X Z id := by
  unfold Keeps at h k ⊢
  cases ho : X.ob id <;> simp only [ho] at h
  · trivial
  · simp only [h] at k; exact k
  · obtain ⟨⟨c, hc⟩, hb⟩ := h; simp only [hc] at k; exact ⟨k.1, k.2.trans hb⟩
  · obtain ⟨⟨c, hc⟩, hb⟩ := h; simp only [hc] at k; exact ⟨k.1, k.2.trans hb⟩
  · rcases h with hc | ⟨⟨fr', xs', hc | hc, hl⟩, hb⟩ | ⟨e', fr', xs', ser', hc | hc, hl⟩ <;> simp only [hc] at k
    · exact .inl k
    · rcases k with hk | ⟨⟨fr2, xs2, hk, hl2⟩, hb2⟩ | ⟨e2, fr2, xs2, ser2, hk, hl2⟩
      · exact .inl hk
      · exact .inr (.inl ⟨⟨fr2, xs2, hk, hl2.trans hl⟩, hb2.trans hb⟩)
      · exact .inr (.inr ⟨_, _, _, _, hk, hl2⟩)
    · rcases k with hk | ⟨⟨fr2, xs2, hk, hl2⟩, hb2⟩
      · exact .inl hk
      · exact .inr (.inl ⟨⟨fr2, xs2, .inr hk, hl2.trans hl⟩, hb2.trans hb⟩)
    · rcases k with hk | ⟨⟨fr2, xs2, hk, hl2⟩, hb2⟩ | ⟨e2, fr2, xs2, ser2, hk, hl2⟩
      · exact .inl hk
      · exact .inr (.inr ⟨_, _, _, _, hk, hl⟩)
      · exact .inr (.inr ⟨_, _, _, _, hk, by omega⟩)
    · rcases k with hk | ⟨⟨fr2, xs2, hk, hl2⟩, hb2⟩
      · exact .inl hk
      · exact .inr (.inr ⟨_, _, _, _, .inr hk, hl⟩)
  · rcases h with hc | ⟨⟨fr', xs', hc, hl⟩, hb⟩ <;> simp only [hc] at k
    · exact .inl k
    · rcases k with hk | ⟨⟨fr2, xs2, hk, hl2⟩, hb2⟩
      · exact .inl hk
      · exact .inr ⟨⟨fr2, xs2, hk, hl2.trans hl⟩, hb2.trans hb⟩
  · obtain ⟨⟨_, _, _, hc⟩, hb⟩ := h; simp only [hc] at k; exact ⟨k.1, k.2.trans hb⟩
theorem Ext.trans {X Y Z : Cx} (h : Ext X Y) (k : Ext Y Z) : Ext X Z :=
  ⟨fun fr b hb => k.F fr b (h.F fr b hb), fun fr b hb => (k.h fr b (h.F fr b hb)).trans (h.h fr b hb), fun id => (h.keep id).trans (k.keep id)⟩
structure Turn (P : Program) (K : Kx) (X X' : Cx) (S : Nat → Prop) : Prop where
  F : ∀ fr b, X.F fr b → X'.F fr b
  Fle : ∀ b, X'.F true b → X'.F false b
  Ffr : ∀ b, X'.F true b → K.h0.size ≤ b
  Fnew : ∀ b, X'.F false b → X.F false b ∨ (X.h.size ≤ b ∧ b < X'.h.size) ∨ ∃ id, S id ∧ Own X id ∧ (X.β id).blk = b
  sz : X.h.size ≤ X'.h.size
  blk : ∀ b, b < X.h.size → (∀ id, S id → Own X id → (X.β id).blk ≠ b) → X'.h[b]? = X.h[b]?
  ob : ∀ id, ¬ S id → X'.ob id = X.ob id
  β : ∀ id, ¬ S id → X'.β id = X.β id
  keep : ∀ id, S id → Keeps X X' id
  own : ∀ id, S id → Own X' id → (X.h.size ≤ (X'.β id).blk ∨ ∃ id0, S id0 ∧ Own X id0 ∧ (X.β id0).blk = (X'.β id).blk) ∧ ¬ X'.F false (X'.β id).blk
  inj : ∀ id id', S id → S id' → Own X' id → Own X' id' → (X'.β id).blk = (X'.β id').blk → id = id'
theorem Turn.ext {P : Program} {K : Kx} {X X' : Cx} {S : Nat → Prop} (H : Heap P K X) (T : Turn P K X X' S) : Ext X X' := by
  refine ⟨T.F, fun fr b hb => ?_, fun id => ?_⟩
  · have hf : X.F false b := by cases fr; exact hb; exact H.Fle b hb
    exact T.blk b (H.Fsz b hf) fun id hs ho he => H.nF id ho (he ▸ hf)
  · by_cases hs : S id
    · exact T.keep id hs
    · exact Keeps.same (T.ob id hs) (T.β id hs)
theorem Own.congr {X X' : Cx} {id : Nat} (h1 : X'.ob id = X.ob id) (h2 : X'.β id = X.β id) : Own X' id ↔ Own X id := by
  unfold Own; rw [h1, h2]
theorem AOok.keep {P : Program} {K : Kx} {X X' : Cx} {id : Nat} (E : Ext X X') (h1 : X'.ob id = X.ob id) (h2 : X'.β id = X.β id)
    (hb : Own X id ∨ K.R (X.β id).blk → X'.h[(X.β id).blk]? = X.h[(X.β id).blk]?) (h : AOok P K X id) : AOok P K X' id := by
  unfold AOok at h ⊢
  rw [h1, h2]
  unfold Own at hb
  cases ho : X.ob id <;> simp only [ho] at h hb ⊢
  · obtain ⟨cs, ty, a1, a2⟩ := h
    exact ⟨cs, ty, (hb (.inl trivial)).trans a1, fun j x hj => let ⟨v, b1, b2⟩ := a2 j x hj; ⟨v, b1, b2.ext E⟩⟩
  · obtain ⟨hR, cs, ty, fz, a1, a2⟩ := h
    exact ⟨hR, cs, ty, fz, (hb (.inr hR)).trans a1, fun j x hj => let ⟨v, b1, b2⟩ := a2 j x hj; ⟨v, b1, b2.ext E⟩⟩
  · rcases h with h | ⟨a1, a2, a3, cs, ty, a4, a5, a6⟩
    · exact .inl h
    · exact .inr ⟨a1, a2, a3, cs, ty, (hb (.inl a1)).trans a4, a5, a6.mono fun _ _ _ hx => Con.mono (E.F _) (E.h _) hx⟩
  · rcases h with h | ⟨a1, a2, a3, cs, ty, fz, a4, a5⟩
    · exact .inl h
    · exact .inr ⟨a1, a2, E.F _ _ a3, cs, ty, fz, (E.h _ _ a3).trans a4, a5.mono fun _ _ _ hx => Con.mono (E.F _) (E.h _) hx⟩
  · obtain ⟨ents, clock, a1, a2⟩ := h
    exact ⟨ents, clock, (hb (.inl trivial)).trans a1, a2⟩
theorem Turn.heap {P : Program} {K : Kx} {X X' : Cx} {S : Nat → Prop} (H : Heap P K X) (T : Turn P K X X' S) (ok : ∀ id, S id → AOok P K X' id) : Heap P K X' := by
  have E := T.ext H
  have own' : ∀ id, ¬ S id → Own X' id → Own X id := fun id hs ho => (Own.congr (T.ob id hs) (T.β id hs)).1 ho
  refine ⟨fun id => ?_, fun id id' ho ho' he => ?_, fun id ho hF => ?_, fun id ho hR => ?_, fun id ho => ?_, T.Fle, T.Ffr, fun b hb => ?_, H.Rsz, Nat.le_trans H.sz T.sz⟩
  · by_cases hs : S id
    · exact ok id hs
    · refine (H.ok id).keep E (T.ob id hs) (T.β id hs) fun hb => T.blk _ ?_ fun id' hs' ho' he => ?_
      · rcases hb with hb | hb
        · exact hb.lt H
        · exact Nat.lt_of_lt_of_le (H.Rsz _ hb) H.sz
      · rcases hb with hb | hb
        · exact hs (H.inj id' id ho' hb he ▸ hs')
        · exact H.nR id' ho' (he ▸ hb)
  · by_cases hs : S id <;> by_cases hs' : S id'
    · exact T.inj id id' hs hs' ho ho' he
    · have hx := own' id' hs' ho'
      rw [T.β id' hs'] at he
      rcases (T.own id hs ho).1 with hl | ⟨id0, h0, h1, h2⟩
      · have := hx.lt H; omega
      · have := H.inj id0 id' h1 hx (h2.trans he); exact absurd (this ▸ h0) hs'
    · have hx := own' id hs ho
      rw [T.β id hs] at he
      rcases (T.own id' hs' ho').1 with hl | ⟨id0, h0, h1, h2⟩
      · have := hx.lt H; omega
      · have := H.inj id0 id h1 hx (h2.trans he.symm); exact absurd (this ▸ h0) hs
    · rw [T.β id hs, T.β id' hs'] at he
      exact H.inj id id' (own' id hs ho) (own' id' hs' ho') he
  · by_cases hs : S id
    · exact (T.own id hs ho).2 hF
    · have hx := own' id hs ho
      rw [T.β id hs] at hF
      rcases T.Fnew _ hF with h1 | ⟨h1, _⟩ | ⟨id0, h0, h1, h2⟩
      · exact H.nF id hx h1
      · have := hx.lt H; omega
      · exact hs (H.inj id0 id h1 hx h2 ▸ h0)
  · by_cases hs : S id
    · rcases (T.own id hs ho).1 with hl | ⟨id0, h0, h1, h2⟩
      · have h3 := H.Rsz _ hR; have h4 := H.sz; omega
      · exact H.nR id0 h1 (h2 ▸ hR)
    · rw [T.β id hs] at hR; exact H.nR id (own' id hs ho) hR
  · by_cases hs : S id
    · rcases (T.own id hs ho).1 with hl | ⟨id0, h0, h1, h2⟩
      · exact .inr (Nat.le_trans H.sz hl)
      · exact h2 ▸ H.oM id0 h1
    · rw [T.β id hs]; exact H.oM id (own' id hs ho)
  · rcases T.Fnew b hb with h1 | ⟨_, h1⟩ | ⟨id0, h0, h1, h2⟩
    · exact Nat.lt_of_lt_of_le (H.Fsz b h1) T.sz
    · exact h1
    · exact Nat.lt_of_lt_of_le (h2 ▸ h1.lt H) T.sz
end Go.Eng
end
section
namespace Go.Eng
open Go
def upd {α : Type} (f : Nat → α) (n : Nat) (v : α) : Nat → α := fun m => if m = n then v else f m
@[simp] theorem upd_same {α : Type} (f : Nat → α) (n : Nat) (v : α) : upd f n v n = v := by simp [upd]
theorem zb1 {α : Type} (f : Nat → α) {n m : Nat} (v : α) (h : m ≠ n) : upd f n v m = f m := by simp [upd, h]
def updl (f : Nat → AO) (ws : List (Nat × AO)) : Nat → AO := fun id => look (f id) ws id
@[simp] theorem updl_nil (f : Nat → AO) : updl f [] = f := rfl
theorem zeq (f : Nat → AO) (n : Nat) (o : AO) (ws : List (Nat × AO)) : updl f ((n, o) :: ws) = upd (updl f ws) n o := by
  funext m
  simp only [updl, look, upd]
  by_cases h : m = n
  · subst h; simp
  · have : Nat.beq n m = false := by
      cases hb : Nat.beq n m with
      | false => rfl
      | true => exact absurd (Nat.eq_of_beq_eq_true hb).symm h
    simp [this, h]
theorem zkb {α : Type} (d : α) (ws l : List (Nat × α)) (n : Nat) : look d (ws ++ l) n = look (look d l n) ws n := by
  induction ws with
  | nil => rfl
  | cons x ws ih => simp only [List.cons_append, look, ih]
theorem zsy (f : Nat → AO) (ws ws' : List (Nat × AO)) : updl f (ws ++ ws') = updl (updl f ws') ws := by
  funext m; simp only [updl, zkb]
theorem St.apply_o (σ : St) (dst : Option Nat) (v : AV) (ws : List (Nat × AO)) (nn : Nat) : (σ.apply dst v ws nn).o = updl σ.o ws := by
  funext m
  cases dst <;> simp [St.apply, St.put, St.o, zkb, updl]
def BoxK (X X' : Cx) (id n : Nat) : Prop :=
  (∃ cells', X'.ob id = .bx cells' ∧ cells'.length = n) ∧ X'.β id = X.β id ∧
    ∀ cs ty, X.h[(X.β id).blk]? = some (.cells cs ty (0, 0)) → ∃ cs', X'.h[(X.β id).blk]? = some (.cells cs' ty (0, 0)) ∧ cs'.size = cs.size ∧
      ∀ c, (c < (X.β id).off ∨ (X.β id).off + n ≤ c) → cs'[c]? = cs[c]?
theorem BoxK.refl {X : Cx} {id : Nat} {cells : List AS} (h : X.ob id = .bx cells) : BoxK X X id cells.length :=
  ⟨⟨_, h, rfl⟩, rfl, fun cs ty hc => ⟨cs, hc, rfl, fun _ _ => rfl⟩⟩
theorem BoxK.trans {X Y Z : Cx} {id n : Nat} (h : BoxK X Y id n) (k : BoxK Y Z id n) : BoxK X Z id n := by
  obtain ⟨_, hb, h3⟩ := h
  obtain ⟨k1, kb, k3⟩ := k
  refine ⟨k1, kb.trans hb, fun cs ty hc => ?_⟩
  obtain ⟨cs1, a1, a2, a3⟩ := h3 cs ty hc
  rw [hb] at k3
  obtain ⟨cs2, b1, b2, b3⟩ := k3 cs1 ty a1
  exact ⟨cs2, b1, b2.trans a2, fun c hc => (b3 c hc).trans (a3 c hc)⟩
structure Stp (P : Program) (K : Kx) (X : Cx) (w : World) (X' : Cx) (w' : World) : Prop where
  heap : Heap P K X'
  hX : X'.h = w'.heap
  ext : Ext X X'
  os : w'.os = w.os
  tape : w'.tape = w.tape
  output : w'.output = w.output
  sz : X.h.size ≤ X'.h.size
  fr : ∀ b, b < X.h.size → (∀ id, Own X id → (X.β id).blk ≠ b) → X'.h[b]? = X.h[b]?
  own : ∀ id, Own X' id → X.h.size ≤ (X'.β id).blk ∨ ∃ id0, Own X id0 ∧ (X.β id0).blk = (X'.β id).blk
  Fnew : ∀ b, X'.F false b → X.F false b ∨ X.h.size ≤ b ∨ ∃ id, Own X id ∧ (X.β id).blk = b
  box : ∀ id cells, X.ob id = .bx cells → BoxK X X' id cells.length
theorem Stp.refl {P : Program} {K : Kx} {X : Cx} {w : World} (H : Heap P K X) (hX : X.h = w.heap) : Stp P K X w X w :=
  ⟨H, hX, Ext.refl X, rfl, rfl, rfl, Nat.le_refl _, fun _ _ _ => rfl, fun id ho => .inr ⟨id, ho, rfl⟩, fun _ h => .inl h, fun _ _ h => BoxK.refl h⟩
theorem Stp.trans {P : Program} {K : Kx} {X Y Z : Cx} {w w1 w2 : World} (HX : Heap P K X) (h : Stp P K X w Y w1) (k : Stp P K Y w1 Z w2) : Stp P K X w Z w2 := by
  refine ⟨k.heap, k.hX, h.ext.trans k.ext, k.os.trans h.os, k.tape.trans h.tape, k.output.trans h.output, Nat.le_trans h.sz k.sz, fun b hb hno => ?_, fun id ho => ?_, fun b hb => ?_, fun id cells hc => ?_⟩
  · refine (k.fr b (Nat.lt_of_lt_of_le hb h.sz) fun id ho he => ?_).trans (h.fr b hb hno)
    rcases h.own id ho with h1 | ⟨id0, h1, h2⟩
    · omega
    · exact hno id0 h1 (h2.trans he)
  · rcases k.own id ho with h1 | ⟨id0, h1, h2⟩
    · exact .inl (Nat.le_trans h.sz h1)
    · rcases h.own id0 h1 with h3 | ⟨id1, h3, h4⟩
      · exact .inl (h2 ▸ h3)
      · exact .inr ⟨id1, h3, h4.trans h2⟩
  · rcases k.Fnew b hb with h1 | h1 | ⟨id, h1, h2⟩
    · exact h.Fnew b h1
    · exact .inr (.inl (Nat.le_trans h.sz h1))
    · rcases h.own id h1 with h3 | ⟨id1, h3, h4⟩
      · exact .inr (.inl (h2 ▸ h3))
      · exact .inr (.inr ⟨id1, h3, h4.trans h2⟩)
  · obtain ⟨⟨c', h1, h2⟩, _⟩ := h.box id cells hc
    have := k.box id c' h1
    rw [h2] at this
    exact (h.box id cells hc).trans this
theorem Turn.stp {P : Program} {K : Kx} {X X' : Cx} {S : Nat → Prop} {w w' : World} (H : Heap P K X) (T : Turn P K X X' S) (ok : ∀ id, S id → AOok P K X' id) (hX : X'.h = w'.heap)
    (h1 : w'.os = w.os) (h2 : w'.tape = w.tape) (h3 : w'.output = w.output) (hb : ∀ id cells, S id → X.ob id = .bx cells → BoxK X X' id cells.length) : Stp P K X w X' w' := by
  refine ⟨T.heap H ok, hX, T.ext H, h1, h2, h3, T.sz, fun b hb hno => T.blk b hb fun id _ ho => hno id ho, fun id ho => ?_, fun b hb => ?_, fun id cells hc => ?_⟩
  · by_cases hs : S id
    · rcases (T.own id hs ho).1 with h | ⟨id0, _, h1, h2⟩
      · exact .inl h
      · exact .inr ⟨id0, h1, h2⟩
    · exact .inr ⟨id, (Own.congr (T.ob id hs) (T.β id hs)).1 ho, by rw [T.β id hs]⟩
  · rcases T.Fnew b hb with h | ⟨h, _⟩ | ⟨id, _, h1, h2⟩
    · exact .inl h
    · exact .inr (.inl h)
    · exact .inr (.inr ⟨id, h1, h2⟩)
  · by_cases hs : S id
    · exact hb id cells hs hc
    · have ho : Own X id := by unfold Own; rw [hc]; trivial
      refine ⟨⟨cells, (T.ob id hs).trans hc, rfl⟩, T.β id hs, fun cs ty hcs => ⟨cs, ?_, rfl, fun _ _ => rfl⟩⟩
      rw [T.blk _ (ho.lt H) fun id' hs' ho' he => hs (H.inj id' id ho' ho he ▸ hs')]
      exact hcs
theorem Stp.drew {P : Program} {K : Kx} {X : Cx} {w w' : World} (H : Heap P K X) (hX : X.h = w.heap) (h0 : w'.heap = w.heap) (h1 : w'.os = w.os) (h2 : w'.tape = w.tape) (h3 : w'.output = w.output) : Stp P K X w X w' :=
  ⟨H, hX.trans h0.symm, Ext.refl X, h1, h2, h3, Nat.le_refl _, fun _ _ _ => rfl, fun id ho => .inr ⟨id, ho, rfl⟩, fun _ h => .inl h, fun _ _ h => BoxK.refl h⟩
def Cx.new (X : Cx) (nid : Nat) (l : Loc) (o : AO) (h : Array Obj) (fz : Bool) : Cx :=
  ⟨upd X.β nid l, fun fr b => X.F fr b ∨ (fz = true ∧ b = l.blk), upd X.ob nid o, h⟩
theorem Stp.new {P : Program} {K : Kx} {X : Cx} {w w' : World} {nid : Nat} {l : Loc} {o : AO} {fz : Bool} (H : Heap P K X) (hX : X.h = w.heap) (hd : X.ob nid = .dead)
    (hh : w'.heap.size = w.heap.size + 1) (hold : ∀ b, b < w.heap.size → w'.heap[b]? = w.heap[b]?) (h1 : w'.os = w.os) (h2 : w'.tape = w.tape) (h3 : w'.output = w.output) (hl : l.blk = w.heap.size)
    (hfz : fz = true → ¬ Own (X.new nid l o w'.heap fz) nid)
    (ok : Ext X (X.new nid l o w'.heap fz) → AOok P K (X.new nid l o w'.heap fz) nid) : Stp P K X w (X.new nid l o w'.heap fz) w' := by
  have hsz : X.h.size = w.heap.size := by rw [hX]
  have T : Turn P K X (X.new nid l o w'.heap fz) (fun id => id = nid) := by
    refine ⟨fun fr b h => .inl h, fun b h => ?_, fun b h => ?_, fun b h => ?_, ?_, fun b hb _ => ?_, fun id h => zb1 _ _ h, fun id h => zb1 _ _ h, fun id h => ?_, fun id h ho => ?_, fun id id' h h' _ _ _ => h.trans h'.symm⟩
    · rcases h with h | h
      · exact .inl (H.Fle b h)
      · exact .inr h
    · rcases h with h | ⟨_, h⟩
      · exact H.Ffr b h
      · rw [h, hl, ← hsz]; exact H.sz
    · rcases h with h | ⟨_, h⟩
      · exact .inl h
      · right; left; show _ ∧ b < w'.heap.size; rw [hh, h, hl, hsz]; omega
    · show _ ≤ w'.heap.size; rw [hh, hsz]; omega
    · show w'.heap[b]? = _; rw [hX]; exact hold b (by omega)
    · unfold Keeps; rw [h, hd]; trivial
    · subst h
      refine ⟨.inl ?_, fun hF => ?_⟩
      · show _ ≤ (upd X.β id l id).blk; rw [upd_same, hl, hsz]; exact Nat.le_refl _
      · rcases hF with hF | ⟨hF, _⟩
        · have := H.Fsz _ hF
          simp only [Cx.new, upd_same, hl] at this
          omega
        · exact hfz hF ho
  refine T.stp H (fun id h => ?_) rfl h1 h2 h3 (fun id cells h hc => ?_)
  · subst h; exact ok (T.ext H)
  · subst h; rw [hd] at hc; cases hc
end Go.Eng
end
section
namespace Go.Eng
open Go
theorem zbq {n m : Nat} (h : n ≠ m) : Nat.beq n m = false := by
  cases hb : Nat.beq n m with
  | false => rfl
  | true => exact absurd (Nat.eq_of_beq_eq_true hb) h
theorem zg {n m : Nat} (h : Nat.beq n m = true) : n = m := Nat.eq_of_beq_eq_true h
theorem zi9 {α : Type} {f : Nat → α} {n : Nat} {v : α} (h : f n = v) : upd f n v = f := by
  funext m; unfold upd; split
  · rename_i e; rw [e, h]
  · rfl
def Cx.frz (X : Cx) (id : Nat) (e : TypeId) (fr : Bool) (xs : Rw) (ser : Nat) : Cx :=
  ⟨X.β, fun f b => X.F f b ∨ ((X.β id).nil = false ∧ b = (X.β id).blk ∧ (f = true → fr = true)), upd X.ob id (.fz e fr xs ser), X.h⟩
theorem Stp.frz1 {P : Program} {K : Kx} {X : Cx} {w : World} {id : Nat} {e : TypeId} {fr : Bool} {xs : Rw} {ser : Nat} (H : Heap P K X) (hX : X.h = w.heap) (ho : X.ob id = .rw e fr xs ser) :
    Stp P K X w (X.frz id e fr xs ser) w := by
  have hok := H.ok id
  unfold AOok at hok
  rw [ho] at hok
  have hown : (X.β id).nil = false → Own X id := fun h => by unfold Own; rw [ho]; exact h
  have T : Turn P K X (X.frz id e fr xs ser) (fun i => i = id) := by
    refine ⟨fun f b h => .inl h, fun b h => ?_, fun b h => ?_, fun b h => ?_, Nat.le_refl _, fun b hb _ => rfl, fun i h => zb1 _ _ h, fun i h => rfl, fun i h => ?_, fun i h hi => ?_, fun i i' h h' _ _ _ => h.trans h'.symm⟩
    · rcases h with h | ⟨h1, h2, h3⟩
      · exact .inl (H.Fle b h)
      · exact .inr ⟨h1, h2, fun h => by cases h⟩
    · rcases h with h | ⟨h1, h2, h3⟩
      · exact H.Ffr b h
      · rcases hok with ⟨hn, _⟩ | ⟨_, _, h4, _⟩
        · rw [h1] at hn; cases hn
        · rw [h2]; exact h4 (h3 rfl)
    · rcases h with h | ⟨h1, h2, _⟩
      · exact .inl h
      · exact .inr (.inr ⟨id, rfl, hown h1, h2.symm⟩)
    · subst h
      unfold Keeps
      rw [ho]
      exact .inr (.inl ⟨⟨fr, xs, .inr (upd_same _ _ _), rfl⟩, rfl⟩)
    · subst h
      unfold Own at hi
      simp [Cx.frz] at hi
  refine T.stp H (fun i h => ?_) hX rfl rfl rfl (fun i cells h hc => ?_)
  · subst h
    have E := T.ext H
    unfold AOok
    simp only [Cx.frz, upd_same]
    rcases hok with hok | ⟨h1, h2, h3, cs, ty, h4, h5, h6⟩
    · exact .inl hok
    · exact .inr ⟨h1, h2, .inr ⟨h1, trivial, fun h => h⟩, cs, ty, _, h4, h6.mono fun _ _ _ hx => Con.mono (E.F fr) (E.h fr) hx⟩
  · subst h; rw [ho] at hc; cases hc
structure Frzd (P : Program) (K : Kx) (X : Cx) (w : World) (lk : Lk) (ids : List Nat) (X' : Cx) : Prop where
  stp : Stp P K X w X' w
  ob : X'.ob = updl X.ob (frz lk ids)
  β : X'.β = X.β
  h : X'.h = X.h
  was : ∀ id ∈ ids, ∀ e fr xs ser, lk id = .rw e fr xs ser → X'.ob id = .fz e fr xs ser
theorem frzs {P : Program} {K : Kx} {X : Cx} {w : World} {lk : Lk} (H : Heap P K X) (hX : X.h = w.heap) (hlk : ∀ id, lk id = X.ob id ∨ lk id = .dead) : ∀ ids : List Nat, ∃ X', Frzd P K X w lk ids X'
  | [] => ⟨X, Stp.refl H hX, rfl, rfl, rfl, fun _ h => by simp at h⟩
  | id :: r => by
    obtain ⟨X1, F1⟩ := frzs H hX hlk r
    cases hl : lk id
    case rw e fr xs ser =>
      have ho : X.ob id = .rw e fr xs ser := by
        rcases hlk id with h | h
        · rw [← h, hl]
        · rw [hl] at h; cases h
      have hf : frz lk (id :: r) = (id, .fz e fr xs ser) :: frz lk r := by simp only [frz, hl]
      by_cases hm : id ∈ r
      · refine ⟨X1, F1.stp, ?_, F1.β, F1.h, fun i hi e' fr' xs' ser' hl' => ?_⟩
        · rw [hf, zeq, ← F1.ob, zi9 (F1.was id hm _ _ _ _ hl)]
        · rcases List.mem_cons.1 hi with h | h
          · subst h; exact F1.was i hm _ _ _ _ hl'
          · exact F1.was i h _ _ _ _ hl'
      · have ho1 : X1.ob id = .rw e fr xs ser := by
          rw [F1.ob]
          have : ∀ (r : List Nat), id ∉ r → look (X.ob id) (frz lk r) id = X.ob id := by
            intro r
            induction r with
            | nil => intro _; rfl
            | cons y r ih =>
              intro hy
              have hne : y ≠ id := fun h => hy (by simp [h])
              have ihr := ih fun h => hy (by simp [h])
              unfold frz
              split
              · simp only [look, zbq hne, cond_false, ihr]
              · exact ihr
          show look (X.ob id) (frz lk r) id = _
          rw [this r hm, ho]
        have S2 := Stp.frz1 F1.stp.heap F1.stp.hX ho1
        refine ⟨_, F1.stp.trans H S2, ?_, F1.β, F1.h, fun i hi e' fr' xs' ser' hl' => ?_⟩
        · rw [hf, zeq, ← F1.ob]; rfl
        · by_cases hi2 : i = id
          · subst hi2
            rw [hl] at hl'
            injection hl' with a b c d
            subst a b c d
            exact upd_same _ _ _
          · rcases List.mem_cons.1 hi with h | h
            · exact absurd h hi2
            · show upd X1.ob id _ i = _
              rw [zb1 _ _ hi2]; exact F1.was i h _ _ _ _ hl'
    all_goals
      have hf : frz lk (id :: r) = frz lk r := by simp only [frz, hl]
      refine ⟨X1, F1.stp, by rw [hf]; exact F1.ob, F1.β, F1.h, fun i hi e' fr' xs' ser' hl' => ?_⟩
      rcases List.mem_cons.1 hi with h | h
      · subst h; rw [hl] at hl'; cases hl'
      · exact F1.was i h _ _ _ _ hl'
def Rd (P : Program) (X : Cx) (e : TypeId) (fr : Bool) (xs : Rw) (v : Value) : Prop :=
  ∃ A cap, v = .slice A xs.length cap ∧ xs.length ≤ cap ∧ (xs = [] ∨ ∃ blk off cs ty fz, A = some ⟨blk, off, none⟩ ∧ X.h[blk]? = some (.cells cs ty fz) ∧ RowAt P (Con P X.h (X.F fr) 7) e cs off xs)
theorem RefRw.get {X : Cx} {id n : Nat} {Q : TypeId → Rw → Prop} (h : RefRw X id n Q) {e : TypeId} {fr : Bool} {xs : Rw} {ser : Nat} (ho : X.ob id = .rw e fr xs ser ∨ X.ob id = .fz e fr xs ser) (hn : n = ser) : Q e xs := by
  unfold RefRw at h
  rcases ho with ho | ho <;> rw [ho] at h <;> exact h.2 hn
theorem zd7 {P : Program} {K : Kx} {X : Cx} (H : Heap P K X) {id : Nat} {e : TypeId} {fr : Bool} {xs : Rw} {ser : Nat} (ho : X.ob id = .rw e fr xs ser ∨ X.ob id = .fz e fr xs ser) :
    ((X.β id).nil = true ∧ xs = [] ∧ (X.β id).cap = 0) ∨ ((X.β id).nil = false ∧ xs.length ≤ (X.β id).cap ∧ ∃ cs ty fz, X.h[(X.β id).blk]? = some (.cells cs ty fz) ∧ RowAt P (Con P X.h (X.F fr) 7) e cs (X.β id).off xs) := by
  have h := H.ok id
  unfold AOok at h
  rcases ho with ho | ho <;> rw [ho] at h
  · rcases h with h | ⟨h1, h2, _, cs, ty, h3, _, h4⟩
    · exact .inl h
    · exact .inr ⟨h1, h2, cs, ty, _, h3, h4⟩
  · rcases h with h | ⟨h1, h2, _, cs, ty, fz, h3, h4⟩
    · exact .inl h
    · exact .inr ⟨h1, h2, cs, ty, fz, h3, h4⟩
theorem zc0 {xs : Rw} {lo hi : Nat} (h : hi ≤ xs.length) : (Eng.sub xs lo hi).length = hi - lo := by
  simp [Eng.sub]; omega
theorem zlz {xs : Rw} {lo hi i o : Nat} (h : i < hi - lo) : rd (Eng.sub xs lo hi) i o = rd xs (lo + i) o := by
  simp only [rd, Eng.sub, List.getD_eq_getElem?_getD, List.getElem?_take, h, if_true, List.getElem?_drop]
theorem RowAt.sub {P : Program} {con : TypeId → Option Addr → Rw → Prop} {e : TypeId} {cs : Array Value} {off : Nat} {xs : Rw} {lo hi : Nat} (h : RowAt P con e cs off xs) (hh : hi ≤ xs.length) :
    RowAt P con e cs (off + lo * esz P e) (Eng.sub xs lo hi) := by
  intro i hi' o ho
  rw [zc0 hh] at hi'
  obtain ⟨v, h1, h2⟩ := h (lo + i) (by omega) o ho
  refine ⟨v, ?_, by rw [zlz hi']; exact h2⟩
  rw [← h1]; congr 1; rw [Nat.add_mul]; omega
theorem zev {P : Program} {K : Kx} {X : Cx} (H : Heap P K X) {id : Nat} {e : TypeId} {fr : Bool} {xs : Rw} {ser : Nat} (ho : X.ob id = .rw e fr xs ser ∨ X.ob id = .fz e fr xs ser)
    {lo hi : Nat} (h1 : lo ≤ hi) (h2 : hi ≤ xs.length) : Rd P X e fr (Eng.sub xs lo hi) (.slice (slAddr P e (X.β id) lo) (hi - lo) ((X.β id).cap - lo)) := by
  have hl := zc0 (lo := lo) h2
  have hle : xs.length ≤ (X.β id).cap := by
    rcases zd7 H ho with ⟨_, hx, hc⟩ | ⟨_, hc, _⟩
    · rw [hx, hc]; simp
    · exact hc
  refine ⟨_, _, by rw [hl], by rw [hl]; omega, ?_⟩
  rcases zd7 H ho with ⟨_, hx, hc⟩ | ⟨hn, hc, cs, ty, fz, h3, h4⟩
  · left; subst hx; simp [Eng.sub]
  · by_cases he : hi - lo = 0
    · left; exact List.eq_nil_of_length_eq_zero (by rw [hl]; exact he)
    · right
      have hne : lo ≠ (X.β id).cap := by omega
      refine ⟨(X.β id).blk, (X.β id).off + lo * esz P e, cs, ty, fz, by simp [slAddr, hn, hne], h3, h4.sub h2⟩
theorem ow_rd {P : Program} {K : Kx} {X : Cx} (H : Heap P K X) {id : Nat} {e : TypeId} {fr : Bool} {xs : Rw} {ser : Nat} (ho : X.ob id = .rw e fr xs ser ∨ X.ob id = .fz e fr xs ser) :
    Rd P X e fr xs (.slice (slAddr P e (X.β id) 0) xs.length (X.β id).cap) := by
  rcases zd7 H ho with ⟨_, hx, hc⟩ | ⟨hn, hc, cs, ty, fz, h3, h4⟩
  · exact ⟨_, _, rfl, by rw [hx]; simp, .inl hx⟩
  · exact ⟨_, _, rfl, hc, .inr ⟨(X.β id).blk, (X.β id).off, cs, ty, fz, by simp [slAddr, hn], h3, h4⟩⟩
theorem zca {e e' : TypeId} (h : fits e (some e') = true) : e = e' := zg h
theorem lk_rw {X : Cx} {lk : Lk} {id : Nat} {o : AO} (hlk : ∀ id, lk id = X.ob id ∨ lk id = .dead) (h : lk id = o) (hd : o ≠ .dead) : X.ob id = o := by
  rcases hlk id with h1 | h1
  · rw [← h1, h]
  · rw [h1] at h; exact absurd h.symm hd
theorem zfh {P : Program} {K : Kx} {X : Cx} {lk : Lk} (H : Heap P K X) (hlk : ∀ id, lk id = X.ob id ∨ lk id = .dead) {x : AS} {v : Value} (hr : RS P X x v) {e' : Option TypeId} {fr : Bool} {xs : Rw} {ids : List Nat}
    (h : content lk x = some (e', fr, xs, ids)) {e : TypeId} (hf : fits e e' = true) : Rd P X e fr xs v := by
  unfold content at h
  split at h
  · simp at h; obtain ⟨rfl, rfl, rfl, rfl⟩ := h
    simp only [RS] at hr
    exact ⟨none, 0, by simpa using hr, Nat.le_refl _, .inl rfl⟩
  · simp at h; obtain ⟨rfl, rfl, rfl, rfl⟩ := h
    obtain ⟨A, cap, h1, h2, h3⟩ := hr
    have := zca hf; subst this
    refine ⟨A, cap, h1, h2, ?_⟩
    rcases h3 with h3 | ⟨blk, off, cs, ty, fz, h4, h5, h6, h7⟩
    · exact .inl h3
    · exact .inr ⟨blk, off, cs, ty, fz, h4, h6, h7⟩
  · rename_i id m
    simp only [RS] at hr
    split at h
    · rename_i e1 fr1 xs1 ser1 hl
      cases hb : Nat.beq m ser1 <;> simp [hb] at h
      obtain ⟨rfl, rfl, rfl, rfl⟩ := h
      have := zca hf; subst this
      have ho := lk_rw hlk hl (by simp)
      rw [hr.2.get (.inl ho) (zg hb)]
      exact ow_rd H (.inl ho)
    · rename_i e1 fr1 xs1 ser1 hl
      cases hb : Nat.beq m ser1 <;> simp [hb] at h
      obtain ⟨rfl, rfl, rfl, rfl⟩ := h
      have := zca hf; subst this
      have ho := lk_rw hlk hl (by simp)
      rw [hr.2.get (.inr ho) (zg hb)]
      exact ow_rd H (.inr ho)
    · cases h
  · rename_i id m lo hi
    simp only [RS] at hr
    split at h
    · rename_i e1 fr1 xs1 ser1 hl
      cases hb : Nat.beq m ser1 <;> simp [hb] at h
      obtain ⟨rfl, rfl, rfl, rfl⟩ := h
      have := zca hf; subst this
      have ho := lk_rw hlk hl (by simp)
      obtain ⟨h1, h2, h3⟩ := hr.2.get (.inl ho) (zg hb)
      rw [h3]
      exact zev H (.inl ho) h1 h2
    · rename_i e1 fr1 xs1 ser1 hl
      cases hb : Nat.beq m ser1 <;> simp [hb] at h
      obtain ⟨rfl, rfl, rfl, rfl⟩ := h
      have := zca hf; subst this
      have ho := lk_rw hlk hl (by simp)
      obtain ⟨h1, h2, h3⟩ := hr.2.get (.inr ho) (zg hb)
      rw [h3]
      exact zev H (.inr ho) h1 h2
    · cases h
  · cases h
theorem zl0 {P : Program} {K : Kx} {X X' : Cx} {w : World} {lk : Lk} {all : List Nat} (H : Heap P K X) (hlk : ∀ id, lk id = X.ob id ∨ lk id = .dead) (hf : Frzd P K X w lk all X') {x : AS} {v : Value} (hr : RS P X x v)
    {e' : Option TypeId} {fr : Bool} {xs : Rw} {ids : List Nat} (h : content lk x = some (e', fr, xs, ids)) (hids : ∀ id ∈ ids, id ∈ all) {e : TypeId} (hfit : fits e e' = true) :
    ∃ A cap, v = .slice A xs.length cap ∧ xs.length ≤ cap ∧ Con P X'.h (X'.F fr) 8 e A xs := by
  have H' := hf.stp.heap
  have fzc : ∀ {id : Nat} {e1 : TypeId} {fr1 : Bool} {xs1 : Rw} {ser1 : Nat}, X'.ob id = .fz e1 fr1 xs1 ser1 → ((X'.β id).nil = true ∧ xs1 = []) ∨ ((X'.β id).nil = false ∧ X'.F fr1 (X'.β id).blk) := by
    intro id e1 fr1 xs1 ser1 ho
    have hk := H'.ok id
    unfold AOok at hk
    rw [ho] at hk
    rcases hk with ⟨a, b, _⟩ | ⟨a, _, b, _⟩
    · exact .inl ⟨a, b⟩
    · exact .inr ⟨a, b⟩
  have big : ∀ {id m lo hi : Nat} {e1 : TypeId} {fr1 : Bool} {xs1 : Rw} {ser1 : Nat}, X'.ob id = .fz e1 fr1 xs1 ser1 → lo ≤ hi → hi ≤ xs1.length →
      ∃ A cap, (Value.slice (slAddr P e1 (X'.β id) lo) (hi - lo) ((X'.β id).cap - lo)) = .slice A (Eng.sub xs1 lo hi).length cap ∧ (Eng.sub xs1 lo hi).length ≤ cap ∧ Con P X'.h (X'.F fr1) 8 e1 A (Eng.sub xs1 lo hi) := by
    intro id m lo hi e1 fr1 xs1 ser1 ho h1 h2
    obtain ⟨A, cap, a1, a2, a3⟩ := zev H' (.inr ho) h1 h2
    refine ⟨A, cap, a1, a2, ?_⟩
    rcases a3 with a3 | ⟨blk, off, cs, ty, fz, a4, a5, a6⟩
    · exact .inl a3
    · rcases fzc ho with ⟨_, hx⟩ | ⟨hn, hF⟩
      · left; rw [hx]; simp [Eng.sub]
      · have hb : blk = (X'.β id).blk := by
          injection a1 with b1 b2 b3
          rw [a4] at b1
          simp only [slAddr, hn, Bool.false_eq_true, if_false, Option.some.injEq, Addr.mk.injEq] at b1
          exact b1.1.symm
        exact .inr ⟨blk, off, cs, ty, fz, a4, hb ▸ hF, a5, a6⟩
  have big0 : ∀ {id : Nat} {e1 : TypeId} {fr1 : Bool} {xs1 : Rw} {ser1 : Nat}, X'.ob id = .fz e1 fr1 xs1 ser1 →
      ∃ A cap, (Value.slice (slAddr P e1 (X'.β id) 0) xs1.length (X'.β id).cap) = .slice A xs1.length cap ∧ xs1.length ≤ cap ∧ Con P X'.h (X'.F fr1) 8 e1 A xs1 := by
    intro id e1 fr1 xs1 ser1 ho
    have := big (m := 0) ho (Nat.zero_le _) (Nat.le_refl _)
    simpa [Eng.sub] using this
  have now : ∀ {id : Nat} {e1 : TypeId} {fr1 : Bool} {xs1 : Rw} {ser1 : Nat}, (lk id = .rw e1 fr1 xs1 ser1 ∧ id ∈ all) ∨ lk id = .fz e1 fr1 xs1 ser1 → ∃ fr2, X'.ob id = .fz e1 fr2 xs1 ser1 ∧ (fr1 = fr2) := by
    intro id e1 fr1 xs1 ser1 h
    rcases h with ⟨h1, h2⟩ | h1
    · exact ⟨fr1, hf.was id h2 _ _ _ _ h1, rfl⟩
    · refine ⟨fr1, ?_, rfl⟩
      have ho := lk_rw hlk h1 (by simp)
      rw [hf.ob]
      have : ∀ (r : List Nat), look (X.ob id) (frz lk r) id = X.ob id := by
        intro r
        induction r with
        | nil => rfl
        | cons y r ih =>
          unfold frz
          split
          · rename_i hy
            have hne : y ≠ id := fun hh => by rw [hh, h1] at hy; cases hy
            simp only [look, zbq hne, cond_false, ih]
          · exact ih
      show look (X.ob id) (frz lk all) id = _
      rw [this, ho]
  unfold content at h
  split at h
  · simp at h; obtain ⟨rfl, rfl, rfl, rfl⟩ := h
    simp only [RS] at hr
    exact ⟨none, 0, by simpa using hr, Nat.le_refl _, .inl rfl⟩
  · simp at h; obtain ⟨rfl, rfl, rfl, rfl⟩ := h
    have := hr.ext hf.stp.ext
    obtain ⟨A, cap, h1, h2, h3⟩ := this
    have := zca hfit; subst this
    exact ⟨A, cap, h1, h2, h3⟩
  · rename_i id m
    simp only [RS] at hr
    split at h
    · rename_i e1 fr1 xs1 ser1 hl
      cases hb : Nat.beq m ser1 <;> simp [hb] at h
      obtain ⟨rfl, rfl, rfl, rfl⟩ := h
      have := zca hfit; subst this
      obtain ⟨_, ho', rfl⟩ := now (.inl ⟨hl, hids id (by simp)⟩)
      rw [hr.2.get (.inl (lk_rw hlk hl (by simp))) (zg hb), ← hf.β]
      exact big0 ho'
    · rename_i e1 fr1 xs1 ser1 hl
      cases hb : Nat.beq m ser1 <;> simp [hb] at h
      obtain ⟨rfl, rfl, rfl, rfl⟩ := h
      have := zca hfit; subst this
      obtain ⟨_, ho', rfl⟩ := now (.inr hl)
      rw [hr.2.get (.inr (lk_rw hlk hl (by simp))) (zg hb), ← hf.β]
      exact big0 ho'
    · cases h
  · rename_i id m lo hi
    simp only [RS] at hr
    split at h
    · rename_i e1 fr1 xs1 ser1 hl
      cases hb : Nat.beq m ser1 <;> simp [hb] at h
      obtain ⟨rfl, rfl, rfl, rfl⟩ := h
      have := zca hfit; subst this
      obtain ⟨_, ho', rfl⟩ := now (.inl ⟨hl, hids id (by simp)⟩)
      obtain ⟨h1, h2, h3⟩ := hr.2.get (.inl (lk_rw hlk hl (by simp))) (zg hb)
      rw [h3, ← hf.β]
      exact big (m := m) ho' h1 h2
    · rename_i e1 fr1 xs1 ser1 hl
      cases hb : Nat.beq m ser1 <;> simp [hb] at h
      obtain ⟨rfl, rfl, rfl, rfl⟩ := h
      have := zca hfit; subst this
      obtain ⟨_, ho', rfl⟩ := now (.inr hl)
      obtain ⟨h1, h2, h3⟩ := hr.2.get (.inr (lk_rw hlk hl (by simp))) (zg hb)
      rw [h3, ← hf.β]
      exact big (m := m) ho' h1 h2
    · cases h
  · cases h
theorem zc8 {a b : IntKind} (h : keq a b = true) : a = b := by simpa [keq] using h
theorem zqn {P : Program} {K : Kx} {X X' : Cx} {w : World} {lk : Lk} {all : List Nat} (H : Heap P K X) (hlk : ∀ id, lk id = X.ob id ∨ lk id = .dead) (hf : Frzd P K X w lk all X') {k : CK} {x : AS} {v : Value} (hr : RS P X x v)
    {c : C} {f : Bool} {ids : List Nat} (h : toC P lk k x = some (c, f, ids)) (hids : ∀ id ∈ ids, id ∈ all) : CellOk (Con P X'.h (X'.F f) 7) k v c := by
  cases k with
  | i k1 =>
    cases x <;> simp only [toC] at h <;> try (cases h)
    rename_i k2 n
    cases hb : keq k1 k2 <;> simp [hb] at h
    obtain ⟨rfl, rfl, rfl⟩ := h
    simp only [RS] at hr
    simp only [CellOk, C.int, zc8 hb]; exact hr
  | b =>
    cases x <;> simp only [toC] at h <;> cases h
    exact hr
  | s =>
    cases x <;> simp only [toC] at h <;> cases h
    exact hr
  | sl e =>
    simp only [toC] at h
    split at h
    · rename_i e' fr xs ids' hc
      cases hb : (fits e e' && deep P 7 e) <;> simp [hb] at h
      obtain ⟨rfl, rfl, rfl⟩ := h
      simp only [Bool.and_eq_true] at hb
      obtain ⟨A, cap, h1, h2, h3⟩ := zl0 H hlk hf hr hc hids hb.1
      exact ⟨A, cap, h1, h2, Con.down (k := 1) hb.2 h3⟩
    · cases h
  | x => cases x <;> simp only [toC] at h <;> cases h
theorem ze8 {P : Program} {K : Kx} {X X' : Cx} {w : World} {lk : Lk} {all : List Nat} (H : Heap P K X) (hlk : ∀ id, lk id = X.ob id ∨ lk id = .dead) (hf : Frzd P K X w lk all X') {e : TypeId} :
    ∀ {xs : List AS} {vs : List Value} {o : Nat} {cs : List C} {f : Bool} {ids : List Nat}, RSs P X xs vs → toCs P lk e o xs = some (cs, f, ids) → (∀ id ∈ ids, id ∈ all) →
      cs.length = xs.length ∧ ∀ j c, cs[j]? = some c → ∃ v, vs[j]? = some v ∧ CellOk (Con P X'.h (X'.F f) 7) (ck P e (o + j)) v c
  | [], vs, o, cs, f, ids, hr, h, hids => by simp [toCs] at h; obtain ⟨rfl, rfl, rfl⟩ := h; simp
  | x :: xs, vs, o, cs, f, ids, hr, h, hids => by
    cases hr with
    | cons hx ht =>
      simp only [toCs] at h
      split at h
      · cases h
      · rename_i c f1 ids1 h1
        split at h
        · cases h
        · rename_i cs' f2 ids2 h2
          simp at h
          obtain ⟨rfl, rfl, rfl⟩ := h
          have a := zqn H hlk hf hx h1 fun id hi => hids id (by simp [hi])
          obtain ⟨b1, b2⟩ := ze8 H hlk hf ht h2 fun id hi => hids id (by simp [hi])
          have low : ∀ (g1 g2 : Bool) (k : CK) (v : Value) (c : C), (g2 = true → g1 = true) → CellOk (Con P X'.h (X'.F g1) 7) k v c → CellOk (Con P X'.h (X'.F g2) 7) k v c := by
            intro g1 g2 k v c hg hc
            refine hc.mono fun e A xs hx => Con.mono (fun b hb => ?_) (fun b hb => rfl) hx
            cases g1 <;> cases g2 <;> first | exact hb | exact hf.stp.heap.Fle b hb | (exact absurd (hg rfl) (by simp))
          refine ⟨by simp [b1], fun j c hj => ?_⟩
          cases j with
          | zero => simp at hj; subst hj; exact ⟨_, by simp, low f1 _ _ _ _ (by simp +contextual) a⟩
          | succ j =>
            simp at hj
            obtain ⟨v, c1, c2⟩ := b2 j c hj
            exact ⟨v, by simpa using c1, by rw [show o + (j + 1) = o + 1 + j by omega]; exact low f2 _ _ _ _ (by simp +contextual) c2⟩
end Go.Eng
end
section
namespace Go.Eng
open Go
section
variable {P : Program} {K : Kx} {X : Cx} {w : World} {lk : Lk}
def ValRes (P : Program) (K : Kx) (X : Cx) (w : World) (r : AR) (s : Sem Value) : Prop :=
  ∃ v w' X', s.run P w = .ok v w' ∧ X'.ob = updl X.ob r.ws ∧ RV P X' r.v v ∧ Stp P K X w X' w'
theorem ValRes.pure {r : AR} {s : Sem Value} {v : Value} (H : Heap P K X) (hX : X.h = w.heap) (hw : r.ws = []) (hs : s.run P w = .ok v w) (hv : RV P X r.v v) : ValRes P K X w r s :=
  ⟨v, w, X, hs, by rw [hw]; rfl, hv, Stp.refl H hX⟩
theorem zj9 (v : Value) : RS P X (ofConst1 v) v := by
  unfold ofConst1
  split <;> simp only [RS]
  rfl
theorem zeh (v : Value) : RV P X (ofConst v) v := by
  unfold ofConst
  split
  · rename_i cs
    refine ⟨cs, rfl, ?_⟩
    unfold RSs
    have : ∀ l : List Value, F2 (RS P X) (l.map ofConst1) l := by
      intro l
      induction l with
      | nil => exact .nil
      | cons x l ih => exact .cons (zj9 x) ih
    exact this _
  · exact zj9 v
theorem RS.one {x : AS} {v : Value} (h : RS P X x v) (h1 : x.one = true) : v.oneCell' = true ∧ v.cells = #[v] := by
  cases x <;> simp [AS.one] at h1 <;> simp only [RS] at h
  case pt id off => unfold RefBx at h; split at h <;> first | (subst h; exact ⟨rfl, rfl⟩) | exact h.elim
  case pe => obtain ⟨_, _, _, _, _, h, _⟩ := h; subst h; exact ⟨rfl, rfl⟩
  case po => obtain ⟨⟨_, h⟩, _⟩ := h; subst h; exact ⟨rfl, rfl⟩
  case fz => obtain ⟨_, _, h, _⟩ := h; subst h; exact ⟨rfl, rfl⟩
  case ow => obtain ⟨⟨_, _, _, h⟩, _⟩ := h; subst h; exact ⟨rfl, rfl⟩
  case sb => obtain ⟨⟨_, _, _, h⟩, _⟩ := h; subst h; exact ⟨rfl, rfl⟩
  case fn => obtain ⟨_, h⟩ := h; subst h; exact ⟨rfl, rfl⟩
  case mp id => unfold RefMp at h; split at h <;> first | (subst h; exact ⟨rfl, rfl⟩) | exact h.elim
  all_goals subst h; exact ⟨rfl, rfl⟩
theorem zsm {t : TypeId} {d : TypeDesc} (h : P.underlying t = some d) : ∃ i, P.info? t = some i := by
  unfold Program.underlying at h
  cases hi : P.info? t with
  | none => rw [hi] at h; cases h
  | some i => exact ⟨i, rfl⟩
theorem zgv {t : TypeId} {d : TypeDesc} (h : P.underlying t = some d) (w : World) : (sizeOf t).run P w = .ok (esz P t) w := by
  obtain ⟨i, hi⟩ := zsm h
  simp [sizeOf, typeInfo, hi, esz]
theorem zej {t : TypeId} {d : TypeDesc} (h : P.underlying t = some d) (w : World) : (isAgg t).run P w = .ok (isAg P t) w := by
  simp only [isAgg, Sem.run_bind, run_underlying h, Result.andThen_ok, isAg, h]
  cases d <;> rfl
theorem zem {w : World} {blk : Nat} {cs : Array Value} {ty : TypeId} {fz : Nat × Nat} (h : w.heap[blk]? = some (.cells cs ty fz)) (o : Nat) : w.cell? ⟨blk, o, none⟩ = cs[o]? := by
  simp [World.cell?, h]
theorem zcf (b o j : Nat) : (⟨b, o, none⟩ : Addr).add j = ⟨b, o + j, none⟩ := Addr.add_lit b o j
theorem zhe {t : TypeId} {d : TypeDesc} (hu : P.underlying t = some d) {blk off : Nat} {cs : Array Value} {ty : TypeId} {fz : Nat × Nat} (hc : w.heap[blk]? = some (.cells cs ty fz)) :
    (isAg P t = true → ∀ vs : List Value, vs.length = esz P t → (∀ j v, vs[j]? = some v → cs[off + j]? = some v) → (loadVar t ⟨blk, off, none⟩).run P w = .ok (.agg vs.toArray) w) ∧
    (isAg P t = false → ∀ v, cs[off]? = some v → (loadVar t ⟨blk, off, none⟩).run P w = .ok v w) := by
  constructor
  · intro ha vs hl hv
    have := run_loadCells_list (P := P) w ⟨blk, off, none⟩ vs fun j v hj => by rw [zcf, zem hc]; exact hv j v hj
    simp only [loadVar, Sem.run_bind, zej hu, Result.andThen_ok, ha, if_true, zgv hu, ← hl, this, Sem.run_pure]
  · intro ha v hv
    simp only [loadVar, Sem.run_bind, zej hu, Result.andThen_ok, ha, Bool.false_eq_true, if_false, run_load, zem hc, hv]
theorem zqm {fr : Bool} {k : CK} {v : Value} {c : C} (h : CellOk (Con P X.h (X.F fr) 7) k v c) : RS P X (ofC k fr c) v := by
  cases k <;> simp only [CellOk] at h <;> simp only [ofC, RS] <;> try exact h
  obtain ⟨A, cap, h1, h2, h3⟩ := h
  exact ⟨A, cap, h1, h2, h3.up⟩
theorem zk1 (H : Heap P K X) (hX : X.h = w.heap) {t e : TypeId} {fr : Bool} {xs : Rw} {ix o blk off : Nat} {cs : Array Value} {ty : TypeId} {fz : Nat × Nat} (hc : X.h[blk]? = some (.cells cs ty fz))
    (hrow : RowAt P (Con P X.h (X.F fr) 7) e cs off xs) (hix : ix < xs.length) {d : TypeDesc} (hu : P.underlying t = some d) {r : AR} (h : aread P t e fr xs ix o = some r) :
    ValRes P K X w r (Instr.loadAt t (.pointer (some ⟨blk, off + ix * esz P e + o, none⟩))) := by
  rw [hX] at hc
  have L := zhe (P := P) (off := off + ix * esz P e + o) hu hc
  have cell : ∀ j, j < esz P e → ∃ v, cs[off + ix * esz P e + j]? = some v ∧ RS P X (ofC (ck P e j) fr (rd xs ix j)) v := fun j hj =>
    let ⟨v, h1, h2⟩ := hrow ix hix j hj
    ⟨v, h1, zqm h2⟩
  unfold aread at h
  split at h
  · rename_i ha
    cases hb : Nat.ble (o + esz P t) (esz P e) <;> simp [hb, AR.pure] at h
    subst h
    have hle : o + esz P t ≤ esz P e := Nat.le_of_ble_eq_true hb
    have : ∀ n, o + n ≤ esz P e → ∃ vs : List Value, vs.length = n ∧ (∀ j v, vs[j]? = some v → cs[off + ix * esz P e + o + j]? = some v) ∧ F2 (RS P X) (ofCs P e fr xs ix o n) vs := by
      intro n
      induction n with
      | zero => intro _; exact ⟨[], rfl, by simp, .nil⟩
      | succ n ih =>
        intro hn
        obtain ⟨vs, h1, h2, h3⟩ := ih (by omega)
        obtain ⟨v, h4, h5⟩ := cell (o + n) (by omega)
        refine ⟨vs ++ [v], by simp [h1], fun j u hj => ?_, ?_⟩
        · rcases Nat.lt_or_ge j n with hj' | hj'
          · rw [List.getElem?_append_left (by omega)] at hj; exact h2 j u hj
          · rw [List.getElem?_append_right (by omega)] at hj
            have : j - vs.length = 0 := by
              rcases Nat.eq_zero_or_pos (j - vs.length) with h0 | h0
              · exact h0
              · rw [List.getElem?_eq_none (by simp; omega)] at hj; cases hj
            rw [this] at hj
            simp at hj
            subst hj
            rw [← h4]; congr 1; omega
        · have : ofCs P e fr xs ix o (n + 1) = ofCs P e fr xs ix o n ++ [ofC (ck P e (o + n)) fr (rd xs ix (o + n))] := by
            simp [ofCs, List.range_succ]
          rw [this]
          exact h3.append (.cons h5 .nil)
    obtain ⟨vs, h1, h2, h3⟩ := this _ hle
    refine .pure H hX rfl ?_ ⟨_, rfl, h3⟩
    simp only [Instr.loadAt, Instr.sureAddr, Sem.run_bind, Sem.run_pure, Result.andThen_ok]
    exact L.1 ha vs h1 h2
  · rename_i ha
    cases hb : Nat.ble (o + 1) (esz P e) <;> simp [hb, sc] at h
    subst h
    have hle : o + 1 ≤ esz P e := Nat.le_of_ble_eq_true hb
    obtain ⟨v, h4, h5⟩ := cell o (by omega)
    refine .pure H hX rfl ?_ h5
    simp only [Instr.loadAt, Instr.sureAddr, Sem.run_bind, Sem.run_pure, Result.andThen_ok]
    exact L.2 ha v h4
theorem zfe (H : Heap P K X) {id : Nat} {cells : List AS} (ho : X.ob id = .bx cells ∨ X.ob id = .rb cells) :
    ∃ cs ty fz, X.h[(X.β id).blk]? = some (.cells cs ty fz) ∧ ∀ j x, cells[j]? = some x → ∃ v, cs[(X.β id).off + j]? = some v ∧ RS P X x v := by
  have h := H.ok id
  unfold AOok at h
  rcases ho with ho | ho <;> rw [ho] at h
  · obtain ⟨cs, ty, h1, h2⟩ := h; exact ⟨cs, ty, _, h1, h2⟩
  · obtain ⟨_, cs, ty, fz, h1, h2⟩ := h; exact ⟨cs, ty, fz, h1, h2⟩
theorem RefBx.get {id : Nat} {Q : Prop} (h : RefBx X id Q) : Q := by
  unfold RefBx at h; split at h <;> first | exact h | exact h.elim
theorem zgm {cells : List AS} {cs : Array Value} {off : Nat} (h : ∀ j x, cells[j]? = some x → ∃ v, cs[off + j]? = some v ∧ RS P X x v) : ∀ (n o : Nat), o + n ≤ cells.length →
    ∃ vs : List Value, vs.length = n ∧ (∀ j v, vs[j]? = some v → cs[off + o + j]? = some v) ∧ F2 (RS P X) ((cells.drop o).take n) vs
  | 0, o, _ => ⟨[], rfl, by simp, by simp; exact .nil⟩
  | n + 1, o, hn => by
    obtain ⟨vs, h1, h2, h3⟩ := zgm h n (o + 1) (by omega)
    have ho : o < cells.length := by omega
    obtain ⟨v, h4, h5⟩ := h o cells[o] (by simp [ho])
    refine ⟨v :: vs, by simp [h1], fun j u hj => ?_, ?_⟩
    · cases j with
      | zero => simp at hj; subst hj; exact h4
      | succ j => simp at hj; have := h2 j u hj; rw [← this]; congr 1; omega
    · rw [List.drop_eq_getElem_cons ho]; exact .cons h5 h3
theorem zsh (H : Heap P K X) (hX : X.h = w.heap) (hlk : ∀ id, lk id = X.ob id ∨ lk id = .dead) {t : TypeId} {a : AV} {va : Value} (ha : RV P X a va) {r : AR} (h : aload P lk t a = some r) :
    ValRes P K X w r (Instr.loadAt t va) := by
  unfold aload at h
  split at h
  · rename_i d id off hu
    simp only [RV, RS] at ha
    have hv := ha.get
    subst hv
    have key : ∀ cells, (X.ob id = .bx cells ∨ X.ob id = .rb cells) → (match isAg P t with
      | true => cond (Nat.ble (off + esz P t) cells.length) (AR.pure (.ag ((cells.drop off).take (esz P t)))) none
      | false => (match cells[off]? with | some x => sc x | none => none)) = some r → ValRes P K X w r (Instr.loadAt t (.pointer (some ((X.β id).ptr off)))) := by
      intro cells ho h
      obtain ⟨cs, ty, fz, h1, h2⟩ := zfe H ho
      have hc := h1
      rw [hX] at hc
      have L := zhe (P := P) (off := (X.β id).off + off) hu hc
      split at h
      · rename_i hag
        cases hb : Nat.ble (off + esz P t) cells.length <;> simp [hb, AR.pure] at h
        subst h
        obtain ⟨vs, a1, a2, a3⟩ := zgm h2 (esz P t) off (Nat.le_of_ble_eq_true hb)
        refine .pure H hX rfl ?_ ⟨_, rfl, a3⟩
        simp only [Instr.loadAt, Instr.sureAddr, Sem.run_bind, Sem.run_pure, Result.andThen_ok]
        exact L.1 hag vs a1 a2
      · rename_i hag
        split at h
        · rename_i x hx
          simp [sc] at h
          subst h
          obtain ⟨v, a1, a2⟩ := h2 off x hx
          refine .pure H hX rfl ?_ a2
          simp only [Instr.loadAt, Instr.sureAddr, Sem.run_bind, Sem.run_pure, Result.andThen_ok]
          exact L.2 hag v a1
        · cases h
    split at h
    · rename_i cells hl; exact key cells (.inl (lk_rw hlk hl (by simp))) h
    · rename_i cells hl; exact key cells (.inr (lk_rw hlk hl (by simp))) h
    · cases h
  · rename_i d e fr xs ix o hu
    simp only [RV, RS] at ha
    obtain ⟨blk, off, cs, ty, fz, h1, h2, h3, h4, h5⟩ := ha
    subst h1
    exact zk1 H hX h4 h5 h2 hu h
  · rename_i d id n ix o hu
    simp only [RV, RS] at ha
    have key : ∀ e fr xs ser, (X.ob id = .rw e fr xs ser ∨ X.ob id = .fz e fr xs ser) → cond (Nat.beq n ser) (aread P t e fr xs ix o) none = some r → ValRes P K X w r (Instr.loadAt t va) := by
      intro e fr xs ser ho h
      cases hb : Nat.beq n ser <;> simp [hb] at h
      obtain ⟨h1, h2, h3⟩ := ha.2.get ho (zg hb)
      subst h3
      rcases zd7 H ho with ⟨a1, a2, _⟩ | ⟨a1, a2, cs, ty, fz, a3, a4⟩
      · rw [a2] at h1; simp at h1
      · exact zk1 H hX a3 a4 h1 hu h
    split at h
    · rename_i e fr xs ser hl; exact key e fr xs ser (.inl (lk_rw hlk hl (by simp))) h
    · rename_i e fr xs ser hl; exact key e fr xs ser (.inr (lk_rw hlk hl (by simp))) h
    · cases h
  · cases h
end
end Go.Eng
end
section
namespace Go.Eng
open Go
section
variable {P : Program} {K : Kx} {X : Cx} {w : World} {lk : Lk}
theorem zi4 {s : TypeId} {n : Nat} {f : Field} (h : (fields P s)[n]? = some f) : ∃ fs, P.underlying s = some (.struct fs) ∧ fs[n]? = some f := by
  unfold fields at h
  split at h
  · rename_i fs hu; exact ⟨fs, hu, by simpa using h⟩
  · simp at h
theorem zgr {t : TypeId} (h : esz P t ≠ 0) (w : World) : (sizeOf t).run P w = .ok (esz P t) w := by
  unfold esz at h ⊢
  cases hi : P.info? t with
  | none => simp [hi] at h
  | some i => simp [sizeOf, typeInfo, hi]
theorem RefBx.imp {id : Nat} {Q Q' : Prop} (h : RefBx X id Q) (hq : Q → Q') : RefBx X id Q' := h.ext (Keeps.refl X id) fun _ => hq
theorem RefRw.imp {id n : Nat} {Q Q' : TypeId → Rw → Prop} (h : RefRw X id n Q) (hq : ∀ e xs, Q e xs → Q' e xs) : RefRw X id n Q' := by
  unfold RefRw at h ⊢
  split <;> rename_i ho <;> simp only [ho] at h
  · exact ⟨h.1, fun hn => hq _ _ (h.2 hn)⟩
  · exact ⟨h.1, fun hn => hq _ _ (h.2 hn)⟩
  · trivial
theorem RefRw.mk {id n : Nat} {Q : TypeId → Rw → Prop} {e : TypeId} {fr : Bool} {xs : Rw} {ser : Nat} (ho : X.ob id = .rw e fr xs ser ∨ X.ob id = .fz e fr xs ser) (hn : n = ser) (h : Q e xs) : RefRw X id n Q := by
  unfold RefRw
  rcases ho with ho | ho <;> rw [ho] <;> exact ⟨Nat.le_of_eq hn, fun _ => h⟩
theorem zlx (hlk : ∀ id, lk id = X.ob id ∨ lk id = .dead) {id n : Nat} (h : now lk id n = true) : ∃ e fr xs ser, (X.ob id = .rw e fr xs ser ∨ X.ob id = .fz e fr xs ser) ∧ n = ser := by
  unfold now at h
  split at h
  · rename_i e fr xs ser hl; exact ⟨e, fr, xs, ser, .inl (lk_rw hlk hl (by simp)), zg h⟩
  · rename_i e fr xs ser hl; exact ⟨e, fr, xs, ser, .inr (lk_rw hlk hl (by simp)), zg h⟩
  · cases h
theorem zqa (H : Heap P K X) (hX : X.h = w.heap) (hlk : ∀ id, lk id = X.ob id ∨ lk id = .dead) {s : TypeId} {f : Nat} {a : AV} {va : Value} (ha : RV P X a va) {r : AR} (h : afield P lk s f a = some r) :
    ValRes P K X w r (Instr.fieldAt s va f) := by
  unfold afield at h
  split at h
  · rename_i x
    split at h
    · cases h
    · rename_i fd hf
      obtain ⟨fs, hu, hf'⟩ := zi4 hf
      cases hb : Nat.beq (esz P fd.type) 0 <;> simp [hb] at h
      have hne : esz P fd.type ≠ 0 := fun e => by rw [e] at hb; simp at hb
      have key : ∀ (b o : Nat), va = .pointer (some ⟨b, o, none⟩) → (Instr.fieldAt s va f).run P w = .ok (.pointer (some ⟨b, o + fd.offset, none⟩)) w := by
        intro b o hv
        subst hv
        simp only [Instr.fieldAt, Sem.run_bind, run_underlying hu, Result.andThen_ok, hf', Instr.sureAddr, Sem.run_pure, fieldPlace, zgr hne, hne, if_false, zcf]
      simp only [RV] at ha
      split at h
      · rename_i id off
        simp [sc] at h; subst h
        have hv := (show RefBx X id _ from ha)
        refine .pure H hX rfl (key _ _ hv.get) ?_
        exact hv.imp fun _ => by simp [Loc.ptr, Nat.add_assoc]
      · rename_i e fr xs ix o
        simp [sc] at h; subst h
        obtain ⟨blk, off, cs, ty, fz, h1, h2, h3, h4, h5⟩ := (show RS P X (.pe e fr xs ix o) va from ha)
        refine .pure H hX rfl (key _ _ h1) ?_
        exact ⟨blk, off, cs, ty, fz, by simp [Nat.add_assoc], h2, h3, h4, h5⟩
      · rename_i id n ix o
        obtain ⟨⟨a, h0⟩, h1⟩ := (show RS P X (.po id n ix o) va from ha)
        cases hn : now lk id n <;> simp [hn, sc] at h
        subst h
        obtain ⟨e, fr, xs, ser, ho, hs⟩ := zlx hlk hn
        obtain ⟨h2, h3, hv⟩ := h1.get ho hs
        exact .pure H hX rfl (key _ _ hv) ⟨⟨_, rfl⟩, RefRw.mk ho hs ⟨h2, h3, by simp [Nat.add_assoc]⟩⟩
      · cases h
  · cases h
theorem zgc {i : Int} {n : Nat} : inb i n = true ↔ 0 ≤ i ∧ i < (n : Int) := by simp [inb]
theorem zes {t e : TypeId} (h : elOf P t = some e) : P.underlying t = some (.slice e) := by
  unfold elOf at h
  split at h
  · rename_i e' hu; simp at h; subst h; exact hu
  · cases h
theorem zja {t e : TypeId} (hu : P.underlying t = some (.slice e)) {b o len cap : Nat} {k : IntKind} {i : Int} (h0 : 0 ≤ i) (h1 : i < len) (hs : P.info? e ≠ none) :
    (Instr.indexAt t (.slice (some ⟨b, o, none⟩) len cap) (.int k i)).run P w = .ok (.pointer (some ⟨b, o + i.toNat * esz P e, none⟩)) w := by
  have hsz : (sizeOf e).run P w = .ok (esz P e) w := by
    cases hi : P.info? e with
    | none => exact absurd hi hs
    | some i => simp [sizeOf, typeInfo, hi, esz]
  simp [Instr.indexAt, run_underlying hu, asIntOf, h0, h1, hsz, zcf]
theorem zno (H : Heap P K X) (hX : X.h = w.heap) (hlk : ∀ id, lk id = X.ob id ∨ lk id = .dead) {t : TypeId} {a i : AV} {va vi : Value} (ha : RV P X a va) (hi : RV P X i vi) {r : AR} (h : aindex P lk t a i = some r)
    (hg : ∀ b ∈ r.gs, b = true) : ValRes P K X w r (Instr.indexAt t va vi) := by
  unfold aindex at h
  split at h
  · rename_i x k n
    split at h
    · cases h
    · rename_i e he
      have hu := zes he
      simp only [RV, RS] at hi
      subst hi
      simp only [RV] at ha
      cases hinf : P.info? e with
      | none => simp [hinf] at h
      | some inf =>
        simp only [hinf] at h
        have hs : P.info? e ≠ none := by rw [hinf]; simp
        split at h
        · rename_i e' fr xs
          cases hb : Nat.beq e e' <;> simp [hb] at h
          subst h
          have := zg hb; subst this
          have hin := zgc.1 (hg (inb n xs.length) (by simp))
          obtain ⟨A, cap, h1, h2, h3⟩ := (show RS P X (.fz e fr xs) va from ha)
          rcases h3 with h3 | ⟨blk, off, cs, ty, fz, h4, h5, h6, h7⟩
          · rw [h3] at hin; simp at hin; omega
          · subst h1 h4
            refine .pure H hX rfl (zja hu hin.1 hin.2 hs) ?_
            exact ⟨blk, off, cs, ty, fz, by simp, by omega, h5, h6, h7⟩
        · rename_i id m
          have key : ∀ e' fr xs ser, (X.ob id = .rw e' fr xs ser ∨ X.ob id = .fz e' fr xs ser) → cond (Nat.beq e e' && Nat.beq m ser) (some (⟨[inb n xs.length], .sc (.po id m n.toNat 0), [], 0⟩ : AR)) none = some r → ValRes P K X w r (Instr.indexAt t va (.int k n)) := by
            intro e' fr xs ser ho h
            cases hb : (Nat.beq e e' && Nat.beq m ser) <;> simp [hb] at h
            subst h
            simp only [Bool.and_eq_true] at hb
            have := zg hb.1; subst this
            have hin := zgc.1 (hg (inb n xs.length) (by simp))
            have hv := (show RS P X (.ow id m) va from ha).2.get ho (zg hb.2)
            have hn : (X.β id).nil = false := by
              rcases zd7 H ho with ⟨_, hx, _⟩ | ⟨hn, _⟩
              · rw [hx] at hin; simp at hin; omega
              · exact hn
            have hsl : slAddr P e (X.β id) 0 = some ⟨(X.β id).blk, (X.β id).off, none⟩ := by simp [slAddr, hn]
            rw [hsl] at hv
            subst hv
            refine .pure H hX rfl (zja hu hin.1 hin.2 hs) ⟨⟨_, rfl⟩, RefRw.mk ho (zg hb.2) ⟨by omega, hn, by simp⟩⟩
          split at h
          · rename_i e' fr xs ser hl; exact key e' fr xs ser (.inl (lk_rw hlk hl (by simp))) h
          · rename_i e' fr xs ser hl; exact key e' fr xs ser (.inr (lk_rw hlk hl (by simp))) h
          · cases h
        · cases h
  · cases h
end
end Go.Eng
end
section
namespace Go.Eng
open Go
section
variable {P : Program} {K : Kx} {X : Cx} {w : World} {lk : Lk}
theorem zrc {op : BinOp} {xt : TypeId} {k : IntKind} {a b : Int} {gs : List Bool} {v : AS} (h : binInt op k a b = some (gs, v)) (hg : ∀ b ∈ gs, b = true) :
    ∃ u, (binOp op xt (.int k a) (.int k b)).run P w = .ok u w ∧ RS P X v u := by
  cases op <;> simp only [binInt] at h <;> try (cases h)
  case add => exact ⟨_, by rw [binOp_add]; rfl, rfl⟩
  case sub => exact ⟨_, by rw [binOp_sub]; rfl, rfl⟩
  case mul => exact ⟨_, by rw [binOp_mul]; rfl, rfl⟩
  case quo =>
    have hb : b ≠ 0 := by simpa using hg (b != 0) (by simp)
    exact ⟨_, by rw [binOp_quo]; simp [Op.intDiv, hb], rfl⟩
  case rem =>
    have hb : b ≠ 0 := by simpa using hg (b != 0) (by simp)
    exact ⟨_, by rw [binOp_rem]; simp [Op.intDiv, hb], rfl⟩
  case and => exact ⟨_, by rw [binOp_and]; rfl, rfl⟩
  case or => exact ⟨_, by rw [binOp_or]; rfl, rfl⟩
  case xor => exact ⟨_, by rw [binOp_xor]; rfl, rfl⟩
  case eql => exact ⟨_, by rw [binOp_eql]; rfl, rfl⟩
  case neq => exact ⟨_, by rw [binOp_neq]; rfl, rfl⟩
  case lss => exact ⟨_, by rw [binOp_lss]; rfl, rfl⟩
  case leq => exact ⟨_, by rw [binOp_leq]; rfl, rfl⟩
  case gtr => exact ⟨_, by rw [binOp_gtr]; rfl, rfl⟩
  case geq => exact ⟨_, by rw [binOp_geq]; rfl, rfl⟩
theorem znz {op : BinOp} {xt : TypeId} {k k' : IntKind} {a b : Int} {gs : List Bool} {v : AS} (h : binShift op k a b = some (gs, v)) (hg : ∀ b ∈ gs, b = true) :
    ∃ u, (binOp op xt (.int k a) (.int k' b)).run P w = .ok u w ∧ RS P X v u := by
  cases op <;> simp only [binShift] at h <;> try (cases h)
  case shl =>
    have hb : 0 ≤ b := by simpa using hg (decide (0 ≤ b)) (by simp)
    exact ⟨_, by rw [binOp_shl]; simp [Op.shift, show ¬ b < 0 by omega], rfl⟩
  case shr =>
    have hb : 0 ≤ b := by simpa using hg (decide (0 ≤ b)) (by simp)
    exact ⟨_, by rw [binOp_shr]; simp [Op.shift, show ¬ b < 0 by omega], rfl⟩
theorem zpa {op : BinOp} {xt : TypeId} {a b : ByteArray} {gs : List Bool} {v : AS} (h : binStr op a b = some (gs, v)) (hg : ∀ b ∈ gs, b = true) :
    ∃ u, (binOp op xt (.string a) (.string b)).run P w = .ok u w ∧ RS P X v u := by
  have hs : binOp op xt (.string a) (.string b) = Op.stringOp op a b := by cases op <;> rfl
  rw [hs]
  cases op <;> simp only [binStr] at h <;> try (cases h)
  case add =>
    have hb : a.size + b.size ≤ most := by simpa using hg (decide (a.size + b.size ≤ most)) (by simp)
    refine ⟨_, ?_, rfl⟩
    have : ¬ ((a.size + b.size : Nat) : Int) > IntKind.i64.max := by
      rw [IntKind.max_i64]; unfold most at hb; omega
    simp only [Op.stringOp, this, if_false, Sem.run_pure]
  all_goals exact ⟨_, rfl, rfl⟩
theorem zdm {t : TypeId} {k : CK} (h : plain P t = some k) : (k = .b ∧ P.underlying t = some .bool) ∨ (k = .s ∧ P.underlying t = some .string) ∨ ∃ j, k = .i j ∧ P.underlying t = some (.int j) := by
  unfold plain at h
  split at h <;> rename_i hu <;> cases h
  · exact .inr (.inr ⟨_, rfl, hu⟩)
  · exact .inl ⟨rfl, hu⟩
  · exact .inr (.inl ⟨rfl, hu⟩)
theorem zqt {t : TypeId} {k : CK} (h : plain P t = some k) : ∃ d, P.underlying t = some d ∧ isAg P t = false := by
  rcases zdm h with ⟨_, hu⟩ | ⟨_, hu⟩ | ⟨j, _, hu⟩ <;> exact ⟨_, hu, by simp [isAg, hu]⟩
theorem zn7 {t : TypeId} {k : CK} (hk : plain P t = some k) {x y : AS} {u v : Value} (hx : RS P X x u) (hy : RS P X y v) {b : Bool} (h : eq1 k x y = some b) (d : Nat) : (Op.equalIn (d + 1) t u v).run P w = .ok b w := by
  rcases zdm hk with ⟨rfl, hu⟩ | ⟨rfl, hu⟩ | ⟨j, rfl, hu⟩
  · cases x <;> cases y <;> simp only [eq1] at h <;> cases h
    simp only [RS] at hx hy
    subst hx hy
    exact run_equalIn_bool' w d t _ _ hu
  · cases x <;> cases y <;> simp only [eq1] at h <;> cases h
    simp only [RS] at hx hy
    subst hx hy
    exact run_equalIn_string w d t _ _ hu
  · cases x <;> cases y <;> simp only [eq1] at h <;> try (cases h)
    rename_i j1 a j2 c
    cases hb : (keq j j1 && keq j j2) <;> simp [hb] at h
    simp only [Bool.and_eq_true] at hb
    have e1 := zc8 hb.1; have e2 := zc8 hb.2; subst e1 e2
    simp only [RS] at hx hy
    subst hx hy h
    exact run_equalIn_int w d t _ _ a c hu
theorem zhk {t : TypeId} {d : TypeDesc} (hu : P.underlying t = some d) (ha : isAg P t = false) {cs : Array Value} {o : Nat} {v : Value} (h : cs[o]? = some v) : (part t cs o).run P w = .ok v w := by
  simp only [part, Sem.run_bind, zej hu, Result.andThen_ok, ha, Bool.false_eq_true, if_false, h, Sem.run_pure]
theorem zkm {xs ys : List AS} {us vs : Array Value} (hx : RSs P X xs us.toList) (hy : RSs P X ys vs.toList) (d : Nat) : ∀ {fs : List Field} {b : Bool}, eqFs P fs xs ys = some b → (Op.eqFields (d + 1) us vs fs).run P w = .ok b w
  | [], b, h => by simp [eqFs] at h; subst h; simp [Op.eqFields]
  | f :: fs, b, h => by
    simp only [eqFs] at h
    cases hn : (f.name == "_") <;> simp [hn] at h
    split at h
    · rename_i k x y hk h1 h2
      split at h
      · cases h
      · rename_i b1 hb1
        split at h
        · cases h
        · rename_i r hr
          simp at h
          subst h
          have ih := zkm hx hy d hr
          obtain ⟨u, u1, u2⟩ := hx.get h1
          obtain ⟨v, v1, v2⟩ := hy.get h2
          obtain ⟨dd, hd1, hd2⟩ := zqt hk
          have he := zn7 (w := w) hk u2 v2 hb1 d
          have hn' : f.name ≠ "_" := by simpa using hn
          have p1 := zhk (w := w) hd1 hd2 (show us[f.offset]? = some u by simpa using u1)
          have p2 := zhk (w := w) hd1 hd2 (show vs[f.offset]? = some v by simpa using v1)
          rw [Op.eqFields]
          simp only [if_pos hn', Sem.run_bind, p1, p2, he, Result.andThen_ok]
          cases b1
          · simp
          · simpa using ih
    · cases h
theorem zof (H : Heap P K X) (hX : X.h = w.heap) {op : BinOp} {xt : TypeId} {ox oy : Operand} {a b : AV} {va vb : Value} (ha : RV P X a va) (hb : RV P X b vb) {r : AR} (h : abin P op xt a b = some r)
    (hg : ∀ b ∈ r.gs, b = true) : ValRes P K X w r (do eqGuard op xt ox oy va vb; binOp op xt va vb) := by
  unfold abin at h
  split at h
  · rename_i k a k' b
    simp only [RV, RS] at ha hb
    subst ha hb
    rw [eqGuard_at_int]
    split at h
    · split at h
      · rename_i gs v h1
        simp at h; subst h
        obtain ⟨u, h2, h3⟩ := znz (P := P) (X := X) (w := w) (xt := xt) (k' := k') h1 hg
        exact .pure H hX rfl (by simpa using h2) h3
      · cases h
    · cases hk : keq k k' <;> simp [hk] at h
      have := zc8 hk; subst this
      split at h
      · rename_i gs v h1
        simp at h; subst h
        obtain ⟨u, h2, h3⟩ := zrc (P := P) (X := X) (w := w) (xt := xt) h1 hg
        exact .pure H hX rfl (by simpa using h2) h3
      · cases h
  · simp only [RV, RS] at ha hb
    subst ha hb
    rw [eqGuard_at_string]
    split at h
    · rename_i gs v h1
      simp at h; subst h
      obtain ⟨u, h2, h3⟩ := zpa (P := P) (X := X) (w := w) (xt := xt) h1 hg
      exact .pure H hX rfl (by simpa using h2) h3
    · cases h
  · simp only [RV, RS] at ha hb
    subst ha hb
    rw [eqGuard_at_bool]
    rename_i a b
    have e1 : binOp .eql xt (.bool a) (.bool b) = (do pure (.bool (← Op.equal xt (.bool a) (.bool b)))) := rfl
    have e2 : binOp .neq xt (.bool a) (.bool b) = (do pure (.bool (!(← Op.equal xt (.bool a) (.bool b))))) := rfl
    split at h <;> (try unfold sc at h) <;> cases h <;> rename_i hu
    · refine .pure H hX rfl ?_ rfl
      have e3 : (Op.equal xt (.bool a) (.bool b)).run P w = .ok (a == b) w := run_equalIn_bool' w 9999 xt a b hu
      simp only [e1, Sem.run_bind, Sem.run_pure, Result.andThen_ok, e3]
    · refine .pure H hX rfl ?_ rfl
      have e3 : (Op.equal xt (.bool a) (.bool b)).run P w = .ok (a == b) w := run_equalIn_bool' w 9999 xt a b hu
      simp only [e2, Sem.run_bind, Sem.run_pure, Result.andThen_ok, e3]
  · rename_i xs ys
    obtain ⟨us, rfl, hx⟩ := ha
    obtain ⟨vs, rfl, hy⟩ := hb
    have key : ∀ {r : Bool}, aeqs P xt xs ys = some r → (Op.equalIn 10000 xt (.agg us) (.agg vs)).run P w = .ok r w ∧ P.eqGuardType P.depth xt = false := by
      intro r h
      unfold aeqs at h
      split at h
      · rename_i fs hu
        cases hc : (P.stoodInHeld xt || P.eqGuardType P.depth xt) <;> simp [hc] at h
        simp only [Bool.or_eq_false_iff] at hc
        have hf : P.fieldsOf xt = fs := by simp [Program.fieldsOf, hu]
        refine ⟨?_, hc.2⟩
        rw [run_equalIn_struct (P := P) w 9999 xt us vs (by rw [hf]; exact hu) hc.1, hf]
        exact zkm hx hy 9998 h
      · cases h
    split at h
    · split at h
      · rename_i r hr
        simp [sc] at h; subst h
        obtain ⟨k1, k2⟩ := key hr
        refine .pure H hX rfl ?_ rfl
        rw [Sem.run_bind, run_eqGuard_agg w .eql xt ox oy us vs k2, Result.andThen_ok, run_eql_struct, k1, Result.andThen_ok]
      · cases h
    · split at h
      · rename_i r hr
        simp [sc] at h; subst h
        obtain ⟨k1, k2⟩ := key hr
        refine .pure H hX rfl ?_ rfl
        rw [Sem.run_bind, run_eqGuard_agg w .neq xt ox oy us vs k2, Result.andThen_ok, run_neq_struct, k1, Result.andThen_ok]
      · cases h
    · cases h
  · cases h
theorem zs1 (H : Heap P K X) (hX : X.h = w.heap) {op : UnOp} {a : AV} {va : Value} (ha : RV P X a va) {r : AR} (h : aun op a = some r) : ValRes P K X w r (Op.unary op va) := by
  unfold aun at h
  split at h <;> (try unfold sc at h) <;> cases h <;> simp only [RV, RS] at ha <;> subst ha
  · exact .pure H hX rfl rfl rfl
  · exact .pure H hX rfl rfl rfl
end
end Go.Eng
end
section
namespace Go.Eng
open Go
section
variable {P : Program} {K : Kx} {X : Cx} {w : World} {lk : Lk}
def OV (P : Program) (X : Cx) : Option AV → Option Value → Prop
  | none, none => True
  | some a, some v => RV P X a v
  | _, _ => False
theorem zez {len cap : Nat} (hle : len ≤ cap) {lo hi : Option AV} {vlo vhi : Option Value} {gs : List Bool} {l h : Nat} (hb : bounds len lo hi = some (gs, l, h)) (hg : ∀ b ∈ gs, b = true)
    (rlo : OV P X lo vlo) (rhi : OV P X hi vhi) (s : Bool) : (Instr.sliceBounds s len cap vlo vhi none).run P w = .ok (l, h, cap) w ∧ l ≤ h ∧ h ≤ len := by
  have hiP : ∃ g1, (∀ b ∈ g1, b ∈ gs) ∧ ((hi = none ∧ h = len) ∨ ∃ k n, hi = some (.sc (.i k n)) ∧ h = n.toNat ∧ g1 = [decide (0 ≤ n), decide (n ≤ (len : Int))]) ∧
      ((lo = none ∧ l = 0) ∨ ∃ k n, lo = some (.sc (.i k n)) ∧ l = n.toNat ∧ decide (0 ≤ n) ∈ gs ∧ decide (n ≤ (h : Int)) ∈ gs) := by
    unfold bounds at hb
    split at hb
    · cases hb
    · rename_i g1 h1 he
      have hd : (hi = none ∧ h1 = len) ∨ ∃ k n, hi = some (.sc (.i k n)) ∧ h1 = n.toNat ∧ g1 = [decide (0 ≤ n), decide (n ≤ (len : Int))] := by
        split at he
        · simp at he; exact .inl ⟨rfl, he.2.symm⟩
        · rename_i k n; simp at he; exact .inr ⟨_, n, rfl, he.2.symm, he.1.symm⟩
        · cases he
      split at hb
      · simp at hb
        obtain ⟨rfl, rfl, rfl⟩ := hb
        exact ⟨g1, fun b h => h, hd, .inl ⟨rfl, rfl⟩⟩
      · rename_i k n
        simp at hb
        obtain ⟨rfl, rfl, rfl⟩ := hb
        exact ⟨g1, fun b h => by simp [h], hd, .inr ⟨_, n, rfl, rfl, by simp, by simp⟩⟩
      · cases hb
  obtain ⟨g1, hsub, hhi, hlo⟩ := hiP
  have hhle : h ≤ len ∧ ∀ (s : Bool), vhi = none ∧ h = len ∨ ∃ k n, vhi = some (.int k n) ∧ 0 ≤ n ∧ n ≤ (cap : Int) ∧ h = n.toNat := by
    rcases hhi with ⟨rfl, rfl⟩ | ⟨k, n, rfl, rfl, rfl⟩
    · cases vhi with
      | none => exact ⟨Nat.le_refl _, fun _ => .inl ⟨rfl, rfl⟩⟩
      | some v => exact rhi.elim
    · cases vhi with
      | none => exact rhi.elim
      | some v =>
        simp only [OV, RV, RS] at rhi
        subst rhi
        have a : 0 ≤ n := by simpa using hg (decide (0 ≤ n)) (hsub _ (by simp))
        have b : n ≤ (len : Int) := by simpa using hg (decide (n ≤ (len : Int))) (hsub _ (by simp))
        exact ⟨by omega, fun _ => .inr ⟨k, n, rfl, a, by omega, rfl⟩⟩
  have hll : l ≤ h ∧ (vlo = none ∧ l = 0 ∨ ∃ k n, vlo = some (.int k n) ∧ 0 ≤ n ∧ n ≤ (h : Int) ∧ l = n.toNat) := by
    rcases hlo with ⟨rfl, rfl⟩ | ⟨k, n, rfl, rfl, g2, g3⟩
    · cases vlo with
      | none => exact ⟨Nat.zero_le _, .inl ⟨rfl, rfl⟩⟩
      | some v => exact rlo.elim
    · cases vlo with
      | none => exact rlo.elim
      | some v =>
        simp only [OV, RV, RS] at rlo
        subst rlo
        have a : 0 ≤ n := by simpa using hg _ g2
        have b : n ≤ (h : Int) := by simpa using hg _ g3
        exact ⟨by omega, .inr ⟨k, n, rfl, a, b, rfl⟩⟩
  refine ⟨?_, hll.1, hhle.1⟩
  rcases hhle.2 s with ⟨rfl, rfl⟩ | ⟨k, n, rfl, a, b, rfl⟩ <;> rcases hll.2 with ⟨rfl, rfl⟩ | ⟨k', n', rfl, a', b', rfl⟩
  · simp [Instr.sliceBounds]
  · have e1 := run_sliceBound (P := P) w k' n' h .sliceB a' b'
    simp [Instr.sliceBounds, e1]
  · have e2 := fun c => run_sliceBound (P := P) w k n cap c a b
    simp [Instr.sliceBounds, e2]
  · have e1 := run_sliceBound (P := P) w k' n' n.toNat .sliceB a' b'
    have e2 := fun c => run_sliceBound (P := P) w k n cap c a b
    simp only [Instr.sliceBounds, Sem.run_bind, Sem.run_pure, Result.andThen_ok, e1, e2, Option.isSome_none, Bool.false_eq_true, if_false]
theorem zfs (H : Heap P K X) (hX : X.h = w.heap) (hlk : ∀ id, lk id = X.ob id ∨ lk id = .dead) {t : TypeId} {a : AV} {lo hi : Option AV} {va : Value} {vlo vhi : Option Value} (ha : RV P X a va)
    (rlo : OV P X lo vlo) (rhi : OV P X hi vhi) {r : AR} (h : aslice P lk t a lo hi = some r) (hg : ∀ b ∈ r.gs, b = true) : ValRes P K X w r (Instr.sliceAt t va vlo vhi none) := by
  unfold aslice at h
  split at h
  · rename_i z hu
    simp only [RV, RS] at ha
    subst ha
    split at h
    · rename_i gs l h' hb
      simp at h; subst h
      obtain ⟨b1, b2, b3⟩ := zez (w := w) (Nat.le_refl _) hb hg rlo rhi false
      refine .pure H hX rfl ?_ rfl
      simp [Instr.sliceAt, Instr.slice, run_underlying hu, b1]
    · cases h
  · rename_i e x hu
    have srun : ∀ {A : Option Addr} {len cap l h' : Nat}, va = .slice A len cap → (Instr.sliceBounds true len cap vlo vhi none).run P w = .ok (l, h', cap) w → P.info? e ≠ none →
        (Instr.sliceAt t va vlo vhi none).run P w = .ok (.slice (if cap = l then A else A.map (·.add (l * esz P e))) (h' - l) (cap - l)) w := by
      intro A len cap l h' hv hb hs
      subst hv
      have hsz : (sizeOf e).run P w = .ok (esz P e) w := by
        cases hi : P.info? e with
        | none => exact absurd hi hs
        | some i => simp [sizeOf, typeInfo, hi, esz]
      simp [Instr.sliceAt, Instr.slice, run_underlying hu, hb, hsz]
    cases hinf : P.info? e with
    | none => simp [hinf] at h
    | some inf =>
      simp only [hinf] at h
      have hs : P.info? e ≠ none := by rw [hinf]; simp
      have part : ∀ (id m : Nat) (e' : TypeId) (fr : Bool) (xs : Rw) (ser : Nat), (X.ob id = .rw e' fr xs ser ∨ X.ob id = .fz e' fr xs ser) → e = e' → m = ser → RS P X (.ow id m) va → ∀ {gs : List Bool} {l h' : Nat}, bounds xs.length lo hi = some (gs, l, h') → (∀ b ∈ gs, b = true) →
          l ≤ h' ∧ h' ≤ xs.length ∧ (Instr.sliceAt t va vlo vhi none).run P w = .ok (.slice (slAddr P e (X.β id) l) (h' - l) ((X.β id).cap - l)) w := by
        intro id m e' fr xs ser ho he hm hr gs l h' hb hg
        subst he
        have hv := hr.2.get ho hm
        have hle : xs.length ≤ (X.β id).cap := by
          rcases zd7 H ho with ⟨_, hx, hc⟩ | ⟨_, hc, _⟩
          · rw [hx, hc]; simp
          · exact hc
        obtain ⟨b1, b2, b3⟩ := zez (w := w) hle hb hg rlo rhi true
        refine ⟨b2, b3, ?_⟩
        rw [srun hv b1 hs]
        congr 2
        unfold slAddr
        cases hn : (X.β id).nil
        · by_cases hc : (X.β id).cap = l
          · simp [hc]
          · simp [hc, Ne.symm hc, zcf]
        · by_cases hc : (X.β id).cap = l <;> simp [hc]
      split at h
      · split at h
        · rename_i gs l h' hb
          simp at h; subst h
          simp only [RV, RS] at ha
          obtain ⟨b1, b2, b3⟩ := zez (w := w) (Nat.le_refl _) hb hg rlo rhi true
          refine .pure H hX rfl (srun ha b1 hs) ?_
          have hl : l = 0 := by omega
          have hh : h' = 0 := by omega
          subst hl hh
          simp [RV, RS]
        · cases h
      · rename_i e' fr xs
        cases hb : Nat.beq e e' <;> simp [hb] at h
        have := zg hb; subst this
        split at h
        · rename_i gs l h' hb
          simp at h; subst h
          obtain ⟨A, cap, h1, h2, h3⟩ := (show RS P X (.fz e fr xs) va from ha)
          obtain ⟨b1, b2, b3⟩ := zez (w := w) h2 hb hg rlo rhi true
          refine .pure H hX rfl (srun h1 b1 hs) ?_
          refine ⟨_, _, by rw [zc0 b3], by rw [zc0 b3]; omega, ?_⟩
          by_cases he : h' - l = 0
          · left; exact List.eq_nil_of_length_eq_zero (by rw [zc0 b3]; exact he)
          · have hne : cap ≠ l := by omega
            rcases h3 with h3 | ⟨blk, off, cs, ty, fz, h4, h5, h6, h7⟩
            · rw [h3] at b3; simp at b3; omega
            · right
              subst h4
              exact ⟨blk, off + l * esz P e, cs, ty, fz, by simp [hne, zcf], h5, h6, h7.sub b3⟩
        · cases h
      · rename_i id m
        split at h
        · rename_i e' fr xs ser hl
          cases hb : (Nat.beq e e' && Nat.beq m ser) <;> simp [hb] at h
          simp only [Bool.and_eq_true] at hb
          split at h
          · rename_i gs l h' hb2
            simp at h; subst h
            have ho := lk_rw hlk hl (by simp)
            have he := zg hb.1; subst he
            obtain ⟨c1, c2, c3⟩ := part id m _ fr xs ser (.inl ho) rfl (zg hb.2) ha hb2 hg
            exact .pure H hX rfl c3 ⟨⟨_, _, _, rfl⟩, RefRw.mk (.inl ho) (zg hb.2) ⟨c1, c2, rfl⟩⟩
          · cases h
        · rename_i e' fr xs ser hl
          cases hb : (Nat.beq e e' && Nat.beq m ser) <;> simp [hb] at h
          simp only [Bool.and_eq_true] at hb
          split at h
          · rename_i gs l h' hb2
            simp at h; subst h
            have ho := lk_rw hlk hl (by simp)
            have he := zg hb.1; subst he
            obtain ⟨c1, c2, c3⟩ := part id m _ fr xs ser (.inr ho) rfl (zg hb.2) ha hb2 hg
            refine .pure H hX rfl c3 ?_
            obtain ⟨A, cap, d1, d2, d3⟩ := zev H (.inr ho) c1 c2
            refine ⟨A, cap, d1, d2, ?_⟩
            rcases d3 with d3 | ⟨blk, off, cs, ty, fz, d4, d5, d6⟩
            · exact .inl d3
            · have hk := H.ok id
              unfold AOok at hk
              rw [ho] at hk
              rcases hk with ⟨_, hx, _⟩ | ⟨hn, _, hF, _⟩
              · left; rw [hx]; simp [Eng.sub]
              · right
                refine ⟨blk, off, cs, ty, fz, d4, ?_, d5, d6⟩
                have : blk = (X.β id).blk := by
                  injection d1 with q1 q2 q3
                  rw [d4] at q1
                  simp only [slAddr, hn, Bool.false_eq_true, if_false, Option.some.injEq, Addr.mk.injEq] at q1
                  exact q1.1.symm
                rw [this]; exact hF
          · cases h
        · cases h
      · cases h
  · cases h
end
end Go.Eng
end
section
namespace Go.Eng
open Go
section
variable {P : Program} {K : Kx} {X : Cx} {w : World} {lk : Lk}
theorem zmu (H : Heap P K X) (hX : X.h = w.heap) {ix : Nat} {a : AV} {va : Value} (ha : RV P X a va) {r : AR} (h : aextract ix a = some r) : ValRes P K X w r (Instr.extract va ix) := by
  unfold aextract at h
  split at h
  · rename_i ts
    obtain ⟨vs, rfl, hf⟩ := ha
    split at h
    · rename_i xs hx
      unfold AR.pure at h; cases h
      obtain ⟨v, h1, h2⟩ := hf.get hx
      have h1' : vs[ix]? = some v := by simpa using h1
      exact .pure H hX rfl (by simp [Instr.extract, h1']) h2
    · rename_i x hx
      unfold sc at h; cases h
      obtain ⟨v, h1, h2⟩ := hf.get hx
      have h1' : vs[ix]? = some v := by simpa using h1
      refine .pure H hX rfl (by simp [Instr.extract, h1']; rfl) ?_
      cases h2 with
      | cons hx _ => exact hx
    · cases h
  · cases h
theorem ze9 {mx : Bool} {k : IntKind} : ∀ {as : List AV} {a : Int} {vs : List Value} {x : AS}, F2 (RV P X) as vs → amm mx k a as = some x →
    ∃ v, (vs.foldlM (if mx then Builtin.max2 else Builtin.min2) (.int k a)).run P w = .ok v w ∧ RS P X x v
  | [], a, vs, x, hf, h => by
    cases hf
    simp [amm] at h; subst h
    exact ⟨_, rfl, rfl⟩
  | y :: as, a, vs, x, hf, h => by
    cases hf with
    | cons hy ht =>
      rename_i v vs
      cases y with
      | sc y =>
        cases y <;> simp only [amm] at h <;> try (cases h)
        rename_i k' b
        cases hk : keq k k' <;> simp [hk] at h
        have := zc8 hk; subst this
        simp only [RV, RS] at hy
        subst hy
        cases mx
        · obtain ⟨v, h1, h2⟩ := ze9 (mx := false) ht h
          refine ⟨v, ?_, h2⟩
          simp only [List.foldlM_cons, Sem.run_bind, Bool.false_eq_true, if_false, Builtin.min2, Sem.run_pure, Result.andThen_ok]
          simpa [mn2] using h1
        · obtain ⟨v, h1, h2⟩ := ze9 (mx := true) ht h
          refine ⟨v, ?_, h2⟩
          simp only [List.foldlM_cons, Sem.run_bind, if_true, Builtin.max2, Sem.run_pure, Result.andThen_ok]
          simpa [mx2] using h1
      | ag _ => simp [amm] at h
      | tu _ => simp [amm] at h
theorem RV.cells {a : AV} {va : Value} (h : RV P X a va) (hne : a.cells ≠ []) : RSs P X a.cells va.cells.toList := by
  cases a with
  | sc x =>
    simp only [RV] at h
    by_cases hu : x = .un
    · subst hu; simp [AV.cells] at hne
    · have hc : (AV.sc x).cells = [x] := by cases x <;> first | rfl | exact absurd rfl hu
      rw [hc]
      by_cases hd : x = .ud
      · subst hd
        simp only [RS] at h
        subst h
        exact .cons rfl .nil
      · have h1 : x.one = true := by cases x <;> first | rfl | exact absurd rfl hu | exact absurd rfl hd
        rw [(h.one h1).2]
        exact .cons h .nil
  | ag xs => obtain ⟨cs, rfl, hf⟩ := h; exact hf
  | tu ts => simp [AV.cells] at hne
theorem RSs.set {xs : List AS} {vs : List Value} (h : RSs P X xs vs) {o : Nat} {x : AS} {v : Value} (hx : RS P X x v) : RSs P X (xs.set o x) (vs.set o v) := by
  induction h generalizing o with
  | nil => exact .nil
  | cons h1 _ ih =>
    cases o with
    | zero => exact .cons hx (by assumption)
    | succ o => exact .cons h1 ih
theorem zp8 : ∀ {ps : List AS} {us : List Value} {xs : List AS} {cs : Array Value} {o : Nat}, RSs P X xs cs.toList → RSs P X ps us →
    RSs P X (setMany xs o ps) (us.zipIdx.foldl (fun cs (c, j) => cs.setIfInBounds (o + j) c) cs).toList := by
  have key : ∀ {ps : List AS} {us : List Value} {xs : List AS} {cs : Array Value} {o k : Nat}, RSs P X xs cs.toList → RSs P X ps us →
      RSs P X (setMany xs (o + k) ps) ((us.zipIdx k).foldl (fun cs (c, j) => cs.setIfInBounds (o + j) c) cs).toList := by
    intro ps us xs cs o k hx hp
    induction hp generalizing xs cs k with
    | nil => exact hx
    | cons h1 _ ih =>
      simp only [setMany, List.zipIdx_cons, List.foldl_cons]
      exact ih (k := k + 1) (by rw [Array.toList_setIfInBounds]; exact hx.set h1)
  intro ps us xs cs o hx hp
  exact key (k := 0) hx hp
theorem zff : ∀ {ps : List AS} {xs : List AS} {o : Nat}, (setMany xs o ps).length = xs.length
  | [], _, _ => rfl
  | _ :: ps, xs, o => by rw [setMany, zff]; simp
theorem zha {place place' : Nat → Option (Nat × Nat)} (hp : ∀ i, place i = place' i) : ∀ {ps : List (Nat × AV)} {us : List (Nat × Value)} {xs : List AS} {cs : Array Value} {r : List AS},
    F2 (fun (a : Nat × AV) (b : Nat × Value) => a.1 = b.1 ∧ RV P X a.2 b.2) ps us → RSs P X xs cs.toList → lay place xs ps = some r → ∃ rs, Instr.fill place' cs us = some rs ∧ RSs P X r rs.toList
  | [], us, xs, cs, r, hf, hx, h => by cases hf; simp [lay] at h; subst h; exact ⟨cs, rfl, hx⟩
  | (i, a) :: ps, us, xs, cs, r, hf, hx, h => by
    cases hf with
    | cons h1 ht =>
      rename_i u us
      obtain ⟨i', v⟩ := u
      obtain ⟨h1, h2⟩ := h1
      simp only at h1 h2
      subst h1
      simp only [lay] at h
      split at h
      · cases h
      · rename_i o n hpl
        cases hc : (!a.cells.isEmpty && (Nat.beq a.cells.length n && Nat.ble (o + n) xs.length)) <;> simp [hc] at h
        simp only [Bool.and_eq_true, Bool.not_eq_true', List.isEmpty_eq_false_iff] at hc
        obtain ⟨c1, c2, c3⟩ := hc
        have hcl := h2.cells c1
        have e1 : v.cells.size = n := by have := hcl.length; rw [zg c2] at this; simpa using this.symm
        have e2 : xs.length = cs.size := by simpa using hx.length
        have e3 := Nat.le_of_ble_eq_true c3
        obtain ⟨rs, r1, r2⟩ := zha hp ht (zp8 (o := o) hx hcl) h
        refine ⟨rs, ?_, r2⟩
        rw [hp] at hpl
        have hif : ¬ (v.cells.size ≠ n ∨ o + v.cells.size > cs.size) := by omega
        simp only [Instr.fill, hpl]
        rw [if_neg (by simpa using hif)]
        rw [← r1]
        congr 1
        rw [← Array.foldl_toList, Array.toList_zipIdx]
theorem zfg {t : TypeId} {z : AV} (h : zero P t = some z) : ∃ i zv, P.info? t = some i ∧ i.zero = some zv ∧ z = ofConst zv := by
  unfold zero at h
  split at h
  · rename_i i hi
    cases hz : i.zero with
    | none => simp [hz] at h
    | some zv => simp [hz] at h; exact ⟨i, zv, hi, hz, h.symm⟩
  · cases h
theorem zk5 : ∀ {fs : List Field}, (fs.all fun f => (P.info? f.type).isSome) = true → fs.mapM (fun f => (P.info? f.type).map fun i => (f.offset, i.size)) = some (fs.map fun f => (f.offset, esz P f.type))
  | [], _ => rfl
  | f :: fs, h => by
    simp only [List.all_cons, Bool.and_eq_true] at h
    obtain ⟨i, hi⟩ := Option.isSome_iff_exists.1 h.1
    simp [List.mapM_cons, hi, zk5 h.2, esz]
theorem F2.parts {ps : List (Nat × Operand)} {V : Operand → AV} {ρ : Operand → Value} (h : ∀ x ∈ ps.map (·.2), RV P X (V x) (ρ x)) :
    F2 (fun (a : Nat × AV) (b : Nat × Value) => a.1 = b.1 ∧ RV P X a.2 b.2) ((ps.map (·.1)).zip ((ps.map (·.2)).map V)) (ps.map fun (i, x) => (i, ρ x)) := by
  induction ps with
  | nil => exact .nil
  | cons p ps ih =>
    obtain ⟨i, x⟩ := p
    exact .cons ⟨rfl, h x (by simp)⟩ (ih fun y hy => h y (by simp at hy ⊢; exact .inr hy))
theorem zqo (H : Heap P K X) (hX : X.h = w.heap) {t : TypeId} {ps : Array (Nat × Operand)} {V : Operand → AV} {ρ : Operand → Value} (hV : ∀ x ∈ ps.toList.map (·.2), RV P X (V x) (ρ x))
    {z : List AS} {fs : Array Field} (hz : zero P t = some (.ag z)) (hu : P.underlying t = some (.struct fs)) (hi : (fs.toList.all fun f => (P.info? f.type).isSome) = true) {cs : List AS}
    (h : lay (fun i => (fs.toList[i]?).map fun f => (f.offset, esz P f.type)) z ((ps.toList.map (·.1)).zip ((ps.toList.map (·.2)).map V)) = some cs) :
    ValRes P K X w ⟨[], .ag cs, [], 0⟩ (Instr.build t (ps.map fun (i, x) => (i, ρ x))) := by
  obtain ⟨it, zv, h1, h2, h3⟩ := zfg hz
  have hzv : ∃ zc, zv = .agg zc ∧ RSs P X z zc.toList := by
    have := zeh (P := P) (X := X) zv
    rw [← h3] at this
    exact this
  obtain ⟨zc, rfl, hzc⟩ := hzv
  have hp : ∀ i, (fun i => (fs.toList[i]?).map fun f => (f.offset, esz P f.type)) i = (((fs.toList.map fun f => (f.offset, esz P f.type)).toArray[·]?) : Nat → Option (Nat × Nat)) i := by
    intro i; simp
  obtain ⟨rs, r1, r2⟩ := zha hp (F2.parts hV) hzc h
  refine .pure H hX rfl ?_ ⟨rs, rfl, r2⟩
  refine run_build w t _ rs ?_
  simp only [Program.built, h1, hu, h2, zk5 hi, Array.toList_map]
  exact r1
theorem zph (H : Heap P K X) (hX : X.h = w.heap) {s : TypeId} {f : Nat} {cs : List AS} {va : Value} (ha : RV P X (.ag cs) va) {fd : Field} (hf : (fields P s)[f]? = some fd) {d : TypeDesc} (hu : P.underlying fd.type = some d) {r : AR}
    (h : (match isAg P fd.type with
      | true => cond (Nat.ble (fd.offset + esz P fd.type) cs.length) (AR.pure (.ag ((cs.drop fd.offset).take (esz P fd.type)))) none
      | false => (match cs[fd.offset]? with | some x => sc x | none => none)) = some r) : ValRes P K X w r (Instr.field s va f) := by
  obtain ⟨fs, hs, hf'⟩ := zi4 hf
  obtain ⟨us, rfl, hus⟩ := ha
  have hrun : (Instr.field s (.agg us) f).run P w = (part fd.type us fd.offset).run P w := by
    simp [Instr.field, run_underlying hs, hf', asAgg]
  split at h
  · rename_i hag
    cases hb : Nat.ble (fd.offset + esz P fd.type) cs.length <;> simp [hb, AR.pure] at h
    subst h
    refine .pure H hX rfl (hrun.trans ?_) ⟨us.extract fd.offset (fd.offset + esz P fd.type), rfl, ?_⟩
    · simp [part, zej hu, hag, zgv hu]
    · have : ∀ {xs : List AS} {vs : List Value}, RSs P X xs vs → ∀ o n, RSs P X ((xs.drop o).take n) ((vs.drop o).take n) := by
        intro xs vs hf
        induction hf with
        | nil => intro o n; simp; exact .nil
        | cons h1 ht ih =>
          intro o n
          cases o with
          | zero =>
            cases n with
            | zero => simp; exact .nil
            | succ n => simp; exact .cons h1 (by have := ih 0 n; simp at this; exact this)
          | succ o => simpa using ih o n
      have h2 := this hus fd.offset (esz P fd.type)
      have e : (us.extract fd.offset (fd.offset + esz P fd.type)).toList = (us.toList.drop fd.offset).take (esz P fd.type) := by
        simp [Array.toList_extract, List.extract_eq_take_drop]
      rw [e]; exact h2
  · rename_i hag
    split at h
    · rename_i x hx
      unfold sc at h; cases h
      obtain ⟨v, h1, h2⟩ := hus.get hx
      have h1' : us[fd.offset]? = some v := by simpa using h1
      exact .pure H hX rfl (hrun.trans (zhk hu hag h1')) h2
    · cases h
end
end Go.Eng
end
section
namespace Go.Eng
open Go
section
variable {P : Program} {K : Kx} {X : Cx} {w : World} {lk : Lk}
theorem zqb (H : Heap P K X) (hX : X.h = w.heap) {t : TypeId} (hu : P.underlying t = some .string) {z : ByteArray} {k : IntKind} {n : Int} (hg : inb n z.size = true) :
    ValRes P K X w ⟨[inb n z.size], .sc (.i .u8 (byteAt z n.toNat)), [], 0⟩ (Instr.index t (.string z) (.int k n)) := by
  obtain ⟨h0, h1⟩ := zgc.1 hg
  have hl : n.toNat < z.size := by omega
  have hz : z[n.toNat]? = some z[n.toNat] := getElem?_pos z n.toNat hl
  refine .pure H hX rfl ?_ rfl
  have hb : ((z[n.toNat]).toNat : Int) = byteAt z n.toNat := by
    have hl' : n.toNat < z.data.size := hl
    unfold byteAt
    rw [Array.getD_eq_getD_getElem?, Array.getElem?_eq_getElem hl']
    rfl
  simp only [Instr.index, Sem.run_bind, asIntOf, Sem.run_pure, Result.andThen_ok, run_underlying hu, h0, if_true, hz]
  rw [← hb]
theorem zp1 {e : TypeId} (he : P.underlying e = some (.int .u8)) (h1 : esz P e = 1) {con : TypeId → Option Addr → Rw → Prop} {cs : Array Value} {off : Nat} {xs : Rw} (h : RowAt P con e cs off xs) :
    ∀ j v, (xs.map fun r => Value.int .u8 (r.getD 0 (.i 0)).int)[j]? = some v → cs[off + j]? = some v := by
  intro j v hj
  rw [List.getElem?_map] at hj
  cases hx : xs[j]? with
  | none => rw [hx] at hj; cases hj
  | some r =>
    rw [hx] at hj
    simp at hj
    subst hj
    have hlt : j < xs.length := by
      rcases Nat.lt_or_ge j xs.length with h | h
      · exact h
      · rw [List.getElem?_eq_none h] at hx; cases hx
    obtain ⟨v, a1, a2⟩ := h j hlt 0 (by omega)
    have hk : ck P e 0 = .i .u8 := by simp [ck, kinds, he]
    rw [hk] at a2
    simp only [CellOk] at a2
    rw [h1, Nat.mul_one, Nat.add_zero] at a1
    rw [a1, a2]
    simp [rd, List.getD_eq_getElem?_getD, hx]
theorem zrd (H : Heap P K X) (hX : X.h = w.heap) {src dst e : TypeId} (hs : P.underlying src = some (.slice e)) (hd : P.underlying dst = some .string) (he : P.underlying e = some (.int .u8)) (h1 : esz P e = 1)
    {fr : Bool} {xs : Rw} {v : Value} (hr : Rd P X e fr xs v) : ValRes P K X w ⟨[], .sc (.s (bytesOf xs)), [], 0⟩ (convert src dst v) := by
  obtain ⟨A, cap, hv, hle, hx⟩ := hr
  subst hv
  have hc : (convert src dst (.slice A xs.length cap)).run P w = (Conv.bytesToString (.slice A xs.length cap)).run P w := by
    simp [convert, run_underlying hs, run_underlying hd, run_underlying he]
  refine .pure H hX rfl (v := .string (bytesOf xs)) (hc.trans ?_) rfl
  rcases hx with rfl | ⟨blk, off, cs, ty, fz, rfl, h2, h3⟩
  · cases A with
    | none => rfl
    | some a => simp [Conv.bytesToString, loadCells, loadCellsFrom]; rfl
  · rw [hX] at h2
    have hl := run_loadCells_list (P := P) w ⟨blk, off, none⟩ (xs.map fun r => Value.int .u8 (r.getD 0 (.i 0)).int) fun j v hj => by
      rw [zcf, zem h2]; exact zp1 he h1 h3 j v hj
    rw [List.length_map] at hl
    have hl' : (loadCells ⟨blk, off, none⟩ xs.length).run P w = .ok ((xs.map fun r => (r.getD 0 (.i 0)).int).map (Value.int .u8)).toArray w := by
      rw [hl, List.map_map]; rfl
    rw [run_bytesToString w _ _ cap _ hl', foldl_push_bytes]
    congr 2
    simp only [bytesOf, List.map_map]
    congr 1
    show #[] ++ _ = _
    simp
theorem zow (H : Heap P K X) (hX : X.h = w.heap) (hlk : ∀ id, lk id = X.ob id ∨ lk id = .dead) {nid : Nat} {src dst : TypeId} {a : AV} {va : Value} (ha : RV P X a va) {r : AR} (h : aconv P lk nid src dst a = some r)
    (hn : r.nn = 0) : ValRes P K X w r (convert src dst va) := by
  unfold aconv at h
  split at h
  · rename_i x
    split at h
    · rename_i h1 h2
      unfold sc at h; cases h
      simp only [RV, RS] at ha
      subst ha
      refine .pure H hX rfl ?_ rfl
      simp [convert, run_underlying h1, run_underlying h2, Conv.intToInt]
    · rename_i h1 h2
      unfold sc at h; cases h
      simp only [RV, RS] at ha
      subst ha
      refine .pure H hX rfl ?_ rfl
      simp [convert, run_underlying h1, run_underlying h2]
    · rename_i e z h1 h2
      split at h
      · cases hb : Nat.beq (esz P e) 1 <;> simp [hb] at h
        subst h; simp at hn
      · cases h
    · rename_i e h1 h2
      split at h
      · rename_i e' fr xs ids h3 h4
        cases hb : (fits e e' && Nat.beq (esz P e) 1) <;> simp [hb, sc] at h
        subst h
        simp only [Bool.and_eq_true] at hb
        exact zrd H hX h1 h2 h3 (zg hb.2) (zfh H hlk ha h4 hb.1)
      · cases h
    · cases h
  · cases h
theorem ze3 {k : CK} {x : AS} {v : Value} (hx : RS P X x v) {c : C} (h : toCk k x = some c) : CellOk (fun _ _ _ => False) k v c := by
  cases k <;> cases x <;> simp only [toCk] at h <;> try (cases h)
  · rename_i k j n
    cases hb : keq k j <;> simp [hb] at h
    subst h
    have := zc8 hb; subst this
    exact hx
  · exact hx
  · exact hx
theorem zf6 {kt : TypeId} {d : TypeDesc} {kk : CK} (hp : plain P kt = some kk) (hu : P.underlying kt = some d) {vt : TypeId} {key : Value} {kc : C} (hk : CellOk (fun _ _ _ => False) kk key kc) : ∀ {es : List (C × C)} {ents : List MapEntry} (i : Nat),
    MapOk P kt vt es ents → ∃ res, Instr.findNow d key ents i = some res ∧ ((res = none ∧ mget kk kc es = none) ∨ ∃ j v c, res = some (i + j, v) ∧ mget kk kc es = some c ∧ CellOk (fun _ _ _ => False) (pk P vt) v c ∧ j < ents.length ∧
        ∀ (v' : Value) (c' : C), CellOk (fun _ _ _ => False) (pk P vt) v' c' → (∀ e, ents[j]? = some e → Instr.sameBits 10000 e.key key = true) ∧ MapOk P kt vt (mput kk kc c' es) (ents.modify j fun e => { e with key := key, val := v' })) ∧
      (res = none → ∀ (v' : Value) (c' : C) (b : Nat), CellOk (fun _ _ _ => False) (pk P vt) v' c' → MapOk P kt vt (mput kk kc c' es) (ents ++ [{ key := key, val := v', born := b }]))
  | [], ents, i, hm => by
    cases hm
    refine ⟨none, rfl, .inl ⟨rfl, rfl⟩, fun _ v' c' b hv => ?_⟩
    have : pk P kt = kk := by simp [pk, hp]
    exact .cons ⟨by rw [this]; exact hk, hv⟩ .nil
  | (k1, v1) :: es, ents, i, hm => by
    cases hm with
    | cons h1 ht =>
      rename_i m ents
      obtain ⟨h1, h2⟩ := h1
      have hpk : pk P kt = kk := by simp [pk, hp]
      rw [hpk] at h1
      have hsame : ∃ b, Instr.sameNow d key m.key = some b ∧ ceq kk kc k1 = b ∧ (b = true → Instr.sameBits 10000 m.key key = true) := by
        rcases zdm hp with ⟨rfl, hu'⟩ | ⟨rfl, hu'⟩ | ⟨j, rfl, hu'⟩ <;> rw [hu'] at hu <;> cases hu <;> simp only [CellOk] at hk h1 <;> rw [hk, h1]
        · exact ⟨_, rfl, rfl, fun h => by have h' := eq_of_beq (show (kc.bool == k1.bool) = true from h); rw [h']; exact beq_self_eq_true k1.bool⟩
        · refine ⟨kc.str == k1.str, rfl, rfl, fun h => ?_⟩
          rw [beq_toListBytes] at h
          have h' := eq_of_beq h
          show (k1.str == kc.str) = true
          rw [beq_toListBytes, h']; exact beq_self_eq_true k1.str.toList
        · refine ⟨kc.int == k1.int, by simp [Instr.sameNow], rfl, fun h => ?_⟩
          have h' := eq_of_beq h
          rw [h']; simp [Instr.sameBits]
      obtain ⟨b, s1, s2, s3⟩ := hsame
      cases b
      · obtain ⟨res, r1, r2, r3⟩ := zf6 hp hu hk (i + 1) ht
        refine ⟨res, by simp only [Instr.findNow, s1]; exact r1, ?_, fun hn v' c' b hv => ?_⟩
        · have hg : mget kk kc ((k1, v1) :: es) = mget kk kc es := by simp [mget, s2]
          rcases r2 with ⟨a1, a2⟩ | ⟨j, v, c, a1, a2, a3, a4, a5⟩
          · exact .inl ⟨a1, hg.trans a2⟩
          · refine .inr ⟨j + 1, v, c, by rw [a1]; congr 2; omega, hg.trans a2, a3, by simp; omega, fun v' c' hv => ?_⟩
            obtain ⟨b1, b2⟩ := a5 v' c' hv
            refine ⟨fun e he => b1 e (by simpa using he), ?_⟩
            simp only [mput, s2, cond_false, List.modify_succ_cons]
            exact .cons ⟨by rw [hpk]; exact h1, h2⟩ b2
        · simp only [mput, s2, cond_false, List.cons_append]
          exact .cons ⟨by rw [hpk]; exact h1, h2⟩ (r3 hn v' c' b hv)
      · refine ⟨some (i, m.val), by simp only [Instr.findNow, s1], .inr ⟨0, m.val, v1, by simp, by simp [mget, s2], h2, by simp, fun v' c' hv => ⟨fun e he => ?_, ?_⟩⟩, fun hn => by cases hn⟩
        · simp at he; subst he; exact s3 rfl
        · simp only [mput, s2, cond_true, List.modify_zero_cons]
          exact .cons ⟨by rw [hpk]; exact hk, hv⟩ ht
end
end Go.Eng
end
section
namespace Go.Eng
open Go
section
variable {P : Program} {K : Kx} {X : Cx} {w : World} {lk : Lk}
theorem zf5 {t : TypeId} {x : AS} {c : C} (h : toCk (pk P t) x = some c) : ∃ k, plain P t = some k ∧ pk P t = k := by
  cases hp : plain P t with
  | none => simp [pk, hp, toCk] at h
  | some k => exact ⟨k, rfl, by simp [pk, hp]⟩
theorem ze2 {kt : TypeId} {kk : CK} (hp : plain P kt = some kk) {key : Value} (b : Bool) (n : Nat) : (Instr.checkKey b (n + 1) kt key).run P w = .ok () w := by
  rcases zdm hp with ⟨_, hu⟩ | ⟨_, hu⟩ | ⟨j, _, hu⟩ <;> simp [Instr.checkKey, run_underlying hu]
theorem zgt {r : Nat} {ents : Array MapEntry} {clock : Nat} (h : w.heap[r]? = some (.map ents clock)) : (getObj r).run P w = .ok (.map ents clock) w := by
  simp [getObj, Sem.run, h]
theorem zld {kt : TypeId} {d : TypeDesc} (hu : P.underlying kt = some d) {key : Value} {l : List MapEntry} {res : Option (Nat × Value)} (h : Instr.findNow d key l 0 = some res) : (Instr.findKey kt key l).run P w = .ok res w := by
  simp [Instr.findKey, run_underlying hu, h]
theorem zme {fr : Bool} {k : CK} {v : Value} {c : C} (h : CellOk (fun _ _ _ => False) k v c) : RS P X (ofC k fr c) v := by
  cases k <;> simp only [CellOk] at h <;> simp only [ofC, RS] <;> try exact h
  obtain ⟨_, _, _, _, h⟩ := h; exact h.elim
theorem zpv (H : Heap P K X) (hX : X.h = w.heap) (hlk : ∀ id, lk id = X.ob id ∨ lk id = .dead) {t : TypeId} {ok : Bool} {m k : AV} {vm vk : Value} (hm : RV P X m vm) (hk : RV P X k vk) {r : AR} (h : alookup P lk t ok m k = some r) :
    ValRes P K X w r (Instr.lookup t vm vk ok) := by
  unfold alookup at h
  split at h
  · rename_i m k
    split at h
    · rename_i kt vt hu
      split at h
      · rename_i kc zx h1 h2
        split at h
        · cases h
        · rename_i z hz
          obtain ⟨kk, hp, hpk⟩ := zf5 h1
          obtain ⟨vkk, hvp, hvpk⟩ := zf5 hz
          simp only [RV] at hm hk
          have hkc := ze3 hk h1
          rw [hpk] at hkc
          obtain ⟨i, zv, z1, z2, z3⟩ := zfg h2
          have hzr : RS P X zx zv := by
            have := zeh (P := P) (X := X) zv
            rw [← z3] at this; exact this
          have hzc := ze3 hzr hz
          have hzv : (zeroValue vt).run P w = .ok zv w := by simp [zeroValue, typeInfo, z1, z2]
          have hud : ∃ d, P.underlying kt = some d := by
            rcases zdm hp with ⟨_, hu⟩ | ⟨_, hu⟩ | ⟨j, _, hu⟩ <;> exact ⟨_, hu⟩
          obtain ⟨d, hud⟩ := hud
          split at h
          · cases h
          · rename_i es hes
            have hents : ∃ ents : Array MapEntry, MapOk P kt vt es ents.toList ∧ ((vm = .map none ∧ ents = #[]) ∨ ∃ r clock, vm = .map (some r) ∧ w.heap[r]? = some (.map ents clock)) := by
              split at hes
              · cases hes
                simp only [RS] at hm
                exact ⟨#[], .nil, .inl ⟨hm, rfl⟩⟩
              · rename_i id
                split at hes
                · rename_i kt' vt' es' hl
                  cases hb : (Nat.beq kt kt' && Nat.beq vt vt') <;> simp [hb] at hes
                  subst hes
                  simp only [Bool.and_eq_true] at hb
                  have e1 := zg hb.1; have e2 := zg hb.2; subst e1 e2
                  have ho := lk_rw hlk hl (by simp)
                  have hk2 := H.ok id
                  unfold AOok at hk2
                  rw [ho] at hk2
                  obtain ⟨ents, clock, a1, a2⟩ := hk2
                  have hv : vm = .map (some (X.β id).blk) := by
                    have := (show RefMp X id _ from hm)
                    unfold RefMp at this
                    rw [ho] at this
                    exact this
                  rw [hX] at a1
                  exact ⟨ents, a2, .inr ⟨_, clock, hv, a1⟩⟩
                · cases hes
              · cases hes
            obtain ⟨ents, hmo, hents⟩ := hents
            obtain ⟨res, r1, r2, _⟩ := zf6 hp hud hkc 0 hmo
            have hfind := zld (w := w) hud r1
            have hall : ∃ v b, (res.elim (v, b) fun x => (x.2, true)) = (v, (mget kk kc es).isSome) ∧ (res = none → v = zv ∧ b = false) ∧ CellOk (fun _ _ _ => False) (pk P vt) v ((mget kk kc es).getD z) := by
              rcases r2 with ⟨a1, a2⟩ | ⟨j, v, c, a1, a2, a3, _⟩
              · subst a1
                exact ⟨zv, false, by simp [a2], fun _ => ⟨rfl, rfl⟩, by rw [a2]; exact hzc⟩
              · subst a1
                exact ⟨v, true, by simp [a2], (fun h => by cases h), by rw [a2]; exact a3⟩
            obtain ⟨v, bb, v1, v0, v2⟩ := hall
            have hlook : (Instr.lookup t vm vk ok).run P w = .ok (if ok then .tuple #[v, .bool (mget kk kc es).isSome] else v) w := by
              rcases hents with ⟨rfl, rfl⟩ | ⟨r, clock, rfl, hr⟩
              · unfold Instr.lookup
                simp only [Sem.run_bind, run_underlying hu, Result.andThen_ok, Sem.run_pure, ze2 hp, hfind]
                cases res with
                | none =>
                  obtain ⟨e1, e2⟩ := v0 rfl
                  simp only [Option.elim_none, Prod.mk.injEq, true_and] at v1
                  simp only [Sem.run_bind, hzv, Result.andThen_ok, Sem.run_pure, ← v1, e1, e2]
                | some x =>
                  simp only [Option.elim_some, Prod.mk.injEq] at v1
                  simp only [Sem.run_bind, Result.andThen_ok, Sem.run_pure, v1.1, ← v1.2]
              · unfold Instr.lookup
                simp only [Sem.run_bind, run_underlying hu, Result.andThen_ok, Sem.run_pure, zgt hr, ze2 hp, hfind]
                cases res with
                | none =>
                  obtain ⟨e1, e2⟩ := v0 rfl
                  simp only [Option.elim_none, Prod.mk.injEq, true_and] at v1
                  simp only [Sem.run_bind, hzv, Result.andThen_ok, Sem.run_pure, ← v1, e1, e2]
                | some x =>
                  simp only [Option.elim_some, Prod.mk.injEq] at v1
                  simp only [Sem.run_bind, Result.andThen_ok, Sem.run_pure, v1.1, ← v1.2]
            rw [hpk] at h
            split at h
            · unfold AR.pure at h; cases h
              refine .pure H hX rfl hlook ⟨#[v, .bool (mget kk kc es).isSome], rfl, ?_⟩
              exact .cons (.cons (zme v2) .nil) (.cons (.cons rfl .nil) .nil)
            · unfold sc at h; cases h
              exact .pure H hX rfl hlook (zme v2)
      · cases h
    · cases h
  · cases h
end
end Go.Eng
end
section
namespace Go.Eng
open Go
section
variable {P : Program} {K : Kx} {X : Cx} {w : World} {lk : Lk}
theorem zfw (w : World) (o : Obj) {b : Nat} (h : b < w.heap.size) : (w.alloc o).heap[b]? = w.heap[b]? := by
  show (w.heap.push o)[b]? = _
  rw [Array.getElem?_push, if_neg (by omega)]
theorem zfx (w : World) (o : Obj) : (w.alloc o).heap[w.heap.size]? = some o := by
  show (w.heap.push o)[w.heap.size]? = _
  rw [Array.getElem?_push, if_pos rfl]
def locAt (w : World) (cap : Nat) : Loc := ⟨w.heap.size, 0, cap, false⟩
theorem zhp (H : Heap P K X) (hX : X.h = w.heap) {nid : Nat} (hd : X.ob nid = .dead) {cells : List AS} {us : Array Value} {t : TypeId} (hc : ∀ (j : Nat) (x : AS), cells[j]? = some x → ∃ v, us[j]? = some v ∧ RS P X x v) :
    ∃ X', X'.ob = upd X.ob nid (.bx cells) ∧ RV P X' (.sc (.pt nid 0)) (.pointer (some ⟨w.heap.size, 0, none⟩)) ∧ Stp P K X w X' (w.alloc (.cells us t)) := by
  refine ⟨X.new nid (locAt w 0) (.bx cells) (w.alloc (.cells us t)).heap false, rfl, ?_, ?_⟩
  · show RefBx _ nid _
    unfold RefBx
    simp [Cx.new, Loc.ptr, locAt]
  · refine Stp.new H hX hd (by simp) (fun b hb => zfw w _ hb) rfl rfl rfl rfl (by simp) fun E => ?_
    unfold AOok
    simp only [Cx.new, upd_same]
    refine ⟨us, t, zfx w _, fun j x hj => ?_⟩
    obtain ⟨v, h1, h2⟩ := hc j x hj
    exact ⟨v, by simpa [locAt] using h1, h2.ext E⟩
theorem zjr (H : Heap P K X) (hX : X.h = w.heap) {nid : Nat} (hd : X.ob nid = .dead) {e : TypeId} {fr : Bool} {xs : Rw} {us : Array Value} {t : TypeId} {cap : Nat} (h1 : xs.length ≤ cap) (h2 : cap * esz P e ≤ us.size)
    (h3 : RowAt P (Con P X.h (X.F fr) 7) e us 0 xs) {w1 : World} (hh : w1.heap = w.heap) (ho : w1.os = w.os) (ht : w1.tape = w.tape) (hp : w1.output = w.output) :
    ∃ X', X'.ob = upd X.ob nid (.rw e fr xs 0) ∧ RV P X' (.sc (.ow nid 0)) (.slice (some ⟨w.heap.size, 0, none⟩) xs.length cap) ∧ Stp P K X w X' (w1.alloc (.cells us t)) := by
  refine ⟨X.new nid (locAt w cap) (.rw e fr xs 0) (w1.alloc (.cells us t)).heap false, rfl, ?_, ?_⟩
  · refine ⟨⟨_, _, _, rfl⟩, ?_⟩
    unfold RefRw
    simp [Cx.new, locAt, slAddr]
  · refine Stp.new H hX hd (by simp [hh]) (fun b hb => (zfw w1 _ (by rw [hh]; exact hb)).trans (by rw [hh])) ho ht hp rfl (by simp) fun E => ?_
    unfold AOok
    simp only [Cx.new, upd_same]
    have hsz : w1.heap.size = w.heap.size := by rw [hh]
    refine .inr ⟨rfl, h1, fun _ => ?_, us, t, ?_, by simpa [locAt] using h2, ?_⟩
    · show _ ≤ w.heap.size; rw [← hX]; exact H.sz
    · show (w1.alloc _).heap[w.heap.size]? = _; rw [← hsz]; exact zfx w1 _
    · exact h3.mono fun _ _ _ hx => Con.mono (E.F fr) (E.h fr) hx
theorem zb7 (f : Nat → AO) (n : Nat) (o : AO) : updl f [(n, o)] = upd f n o := by rw [zeq, updl_nil]
theorem zll {a : AV} {va : Value} (h : RV P X a va) : ∀ (j : Nat) (x : AS), a.cells[j]? = some x → ∃ v, va.cells[j]? = some v ∧ RS P X x v := by
  intro j x hj
  have hne : a.cells ≠ [] := fun e => by rw [e] at hj; simp at hj
  obtain ⟨v, h1, h2⟩ := (h.cells hne).get hj
  exact ⟨v, by simpa using h1, h2⟩
theorem zoc (H : Heap P K X) (hX : X.h = w.heap) {nid : Nat} (hd : X.ob nid = .dead) {t : TypeId} {z : AV} (hz : zero P t = some z) (old : Value) :
    ValRes P K X w ⟨[], .sc (.pt nid 0), [(nid, .bx z.cells)], 1⟩ (Instr.alloc t true old) := by
  obtain ⟨i, zv, h1, h2, h3⟩ := zfg hz
  have hr : RV P X z zv := by rw [h3]; exact zeh zv
  obtain ⟨X', a1, a2, a3⟩ := zhp (t := t) H hX hd (zll hr)
  refine ⟨_, _, X', ?_, a1.trans (zb7 _ _ _).symm, a2, a3⟩
  simp [Instr.alloc, zeroValue, typeInfo, h1, h2, newVar, newRow]
theorem zor (H : Heap P K X) (hX : X.h = w.heap) {nid : Nat} (hd : X.ob nid = .dead) {t : TypeId} {a : AV} {va : Value} (ha : RV P X a va) :
    ValRes P K X w ⟨[], .sc (.pt nid 0), [(nid, .bx a.cells)], 1⟩ (Instr.box t va) := by
  obtain ⟨X', a1, a2, a3⟩ := zhp (t := t) H hX hd (zll ha)
  refine ⟨_, _, X', ?_, a1.trans (zb7 _ _ _).symm, a2, a3⟩
  simp [Instr.box, newVar, newRow]
theorem zoa (H : Heap P K X) (hX : X.h = w.heap) {nid : Nat} (hd : X.ob nid = .dead) {t kt vt : TypeId} : ValRes P K X w ⟨[], .sc (.mp nid), [(nid, .mp kt vt [])], 1⟩ (Instr.makeMap t none) := by
  refine ⟨.map (some w.heap.size), w.alloc (.map #[] 0), X.new nid (locAt w 0) (.mp kt vt []) (w.alloc (.map #[] 0)).heap false, ?_, (zb7 _ _ _).symm, ?_, ?_⟩
  · simp [Instr.makeMap]
  · show RefMp _ nid _
    unfold RefMp
    simp [Cx.new, locAt]
  · refine Stp.new H hX hd (by simp) (fun b hb => zfw w _ hb) rfl rfl rfl rfl (by simp) fun E => ?_
    unfold AOok
    simp only [Cx.new, upd_same]
    exact ⟨#[], 0, zfx w _, .nil⟩
def Cx.wrt (X : Cx) (id : Nat) (l : Loc) (o : AO) (h : Array Obj) : Cx := ⟨upd X.β id l, X.F, upd X.ob id o, h⟩
theorem Stp.write {id : Nat} {w' : World} {l : Loc} {o : AO} (H : Heap P K X) (hX : X.h = w.heap) (hown : Own X id) (hsz : w'.heap.size = w.heap.size) (hoth : ∀ b, b ≠ (X.β id).blk → w'.heap[b]? = w.heap[b]?)
    (h1 : w'.os = w.os) (h2 : w'.tape = w.tape) (h3 : w'.output = w.output) (hl : l.blk = (X.β id).blk) (hk : Keeps X (X.wrt id l o w'.heap) id) (ok : Ext X (X.wrt id l o w'.heap) → AOok P K (X.wrt id l o w'.heap) id)
    (hb : ∀ cells, X.ob id = .bx cells → BoxK X (X.wrt id l o w'.heap) id cells.length) : Stp P K X w (X.wrt id l o w'.heap) w' := by
  have T : Turn P K X (X.wrt id l o w'.heap) (fun i => i = id) := by
    refine ⟨fun fr b h => h, H.Fle, H.Ffr, fun b h => .inl h, ?_, fun b hb hno => ?_, fun i h => zb1 _ _ h, fun i h => zb1 _ _ h, fun i h => h ▸ hk, fun i h ho => ?_, fun i i' h h' _ _ _ => h.trans h'.symm⟩
    · show _ ≤ w'.heap.size; rw [hsz, hX]; exact Nat.le_refl _
    · show w'.heap[b]? = _; rw [hX]; exact hoth b fun e => hno id rfl hown e.symm
    · subst h
      have : ((X.wrt i l o w'.heap).β i).blk = (X.β i).blk := by simp [Cx.wrt, hl]
      rw [this]
      exact ⟨.inr ⟨i, rfl, hown, rfl⟩, H.nF i hown⟩
  refine T.stp H (fun i h => ?_) rfl h1 h2 h3 (fun i cells h hc => ?_)
  · subst h; exact ok (T.ext H)
  · subst h; exact hb cells hc
theorem zgd (o : Nat) (c d : C) : ∀ (l : List C) (n : Nat), (setAt l n c).getD o (.i 0) = if o = n then c else l.getD o (.i 0)
  | [], 0 => by cases o <;> simp [setAt]
  | [], n + 1 => by
    cases o with
    | zero => simp [setAt]
    | succ o =>
      have := zgd o c d [] n
      simp only [setAt, List.getD_cons_succ, this, Nat.add_right_cancel_iff]
      simp
  | x :: l, 0 => by cases o <;> simp [setAt]
  | x :: l, n + 1 => by
    cases o with
    | zero => simp [setAt]
    | succ o =>
      have := zgd o c d l n
      simp only [setAt, List.getD_cons_succ, this, Nat.add_right_cancel_iff]
theorem zh5 (xs : Rw) (i o : Nat) (c : C) : (wr xs i o c).length = xs.length := by simp [wr]
theorem rd_wr {xs : Rw} {i o j p : Nat} {c : C} (hi : i < xs.length) : rd (wr xs i o c) j p = if j = i ∧ p = o then c else rd xs j p := by
  unfold rd wr
  by_cases hj : j = i
  · subst hj
    have : (xs.set j (setAt (xs.getD j []) o c)).getD j [] = setAt (xs.getD j []) o c := by
      rw [List.getD_eq_getElem?_getD, List.getElem?_set_self hi, Option.getD_some]
    rw [this, zgd p c c]
    simp
  · have : (xs.set i (setAt (xs.getD i []) o c)).getD j [] = xs.getD j [] := by
      rw [List.getD_eq_getElem?_getD, List.getElem?_set_ne (Ne.symm hj), ← List.getD_eq_getElem?_getD]
    rw [this]
    simp [hj]
theorem ze7 : ∀ (cs : List C) (xs : Rw) (i o : Nat), (wrs xs i o cs).length = xs.length
  | [], _, _, _ => rfl
  | c :: cs, xs, i, o => by rw [wrs, ze7, zh5]
theorem zlm {i : Nat} : ∀ (cs : List C) {xs : Rw} {o j p : Nat}, i < xs.length → rd (wrs xs i o cs) j p = if j = i ∧ o ≤ p ∧ p < o + cs.length then cs.getD (p - o) (.i 0) else rd xs j p
  | [], xs, o, j, p, hi => by simp [wrs]; omega
  | c :: cs, xs, o, j, p, hi => by
    rw [wrs, zlm cs (by rw [zh5]; exact hi), rd_wr hi]
    by_cases hj : j = i
    · by_cases hp : o + 1 ≤ p ∧ p < o + 1 + cs.length
      · have h1 : j = i ∧ o ≤ p ∧ p < o + (c :: cs).length := ⟨hj, by omega, by simp; omega⟩
        rw [if_pos ⟨hj, hp⟩, if_pos h1, show p - o = (p - (o + 1)) + 1 by omega, List.getD_cons_succ]
      · rw [if_neg (fun h => hp h.2)]
        by_cases hpo : p = o
        · rw [if_pos ⟨hj, hpo⟩, if_pos ⟨hj, by omega, by simp; omega⟩, hpo, Nat.sub_self, List.getD_cons_zero]
        · rw [if_neg (fun h => hpo h.2), if_neg (fun h => by simp at h; omega)]
    · rw [if_neg (fun h => hj h.1), if_neg (fun h => hj h.1), if_neg (fun h => hj h.1)]
end
end Go.Eng
end
section
namespace Go.Eng
open Go
section
variable {P : Program} {K : Kx} {X : Cx} {w : World} {lk : Lk}
def splice (cs : Array Value) (o : Nat) (vs : List Value) : Array Value := (cs.toList.take o ++ vs ++ cs.toList.drop (o + vs.length)).toArray
theorem zc4 {cs : Array Value} {o : Nat} {vs : List Value} (h : o + vs.length ≤ cs.size) (c : Nat) : (splice cs o vs)[c]? = if o ≤ c ∧ c < o + vs.length then vs[c - o]? else cs[c]? := by
  have hl : cs.toList.length = cs.size := by simp
  have ht : (cs.toList.take o).length = o := by simp; omega
  unfold splice
  rw [List.getElem?_toArray, List.append_assoc]
  by_cases h1 : c < o
  · rw [List.getElem?_append_left (by omega), List.getElem?_take_of_lt h1, if_neg (by omega)]; simp
  · rw [List.getElem?_append_right (by omega), ht]
    by_cases h2 : c < o + vs.length
    · rw [List.getElem?_append_left (by omega), if_pos ⟨by omega, h2⟩]
    · rw [List.getElem?_append_right (by omega), if_neg (by omega), List.getElem?_drop, show o + vs.length + (c - o - vs.length) = c by omega]; simp
theorem zfz {cs : Array Value} {o : Nat} {vs : List Value} (h : o + vs.length ≤ cs.size) : (splice cs o vs).size = cs.size := by
  have hl : cs.toList.length = cs.size := by simp
  simp [splice]; omega
theorem zge : ∀ {ps : List AS} {xs : List AS} {o j : Nat}, o + ps.length ≤ xs.length → (setMany xs o ps)[j]? = if o ≤ j ∧ j < o + ps.length then ps[j - o]? else xs[j]?
  | [], xs, o, j, h => by simp [setMany]; intro a b; omega
  | p :: ps, xs, o, j, h => by
    simp at h
    rw [setMany, zge (by simp; omega)]
    by_cases h1 : o + 1 ≤ j ∧ j < o + 1 + ps.length
    · rw [if_pos h1, if_pos ⟨by omega, by simp; omega⟩, show j - o = (j - (o + 1)) + 1 by omega, List.getElem?_cons_succ]
    · rw [if_neg h1]
      by_cases h2 : j = o
      · subst h2
        rw [if_pos ⟨Nat.le_refl _, by simp⟩, Nat.sub_self, List.getElem?_set_self (by omega)]; simp
      · rw [if_neg (by simp; omega), List.getElem?_set_ne (Ne.symm h2)]
theorem zjm {t : TypeId} {va : Value} (hs : va.cells.size = esz P t) (h0 : 0 < esz P t) {g o : Nat} {cur : Array Value} {ty : TypeId} (hg : w.heap[g]? = some (.cells cur ty (0, 0))) (hl : o + va.cells.size ≤ cur.size)
    (h1 : ∀ v ∈ va.cells.toList, v.oneCell' = true) : (storeVar t ⟨g, o, none⟩ va).run P w = .ok () (w.setRow g (splice cur o va.cells.toList)) := by
  have hsz : (sizeOf t).run P w = .ok (esz P t) w := zgr (by omega) w
  have hst := run_storeCells_at P g o ty va.cells.toList 0 cur w hg (by simpa using hl) h1
  simp only [Nat.add_zero] at hst
  simp only [storeVar, Sem.run_bind, hsz, Result.andThen_ok]
  rw [if_neg (by omega)]
  exact hst
theorem znl {xs : List AS} {vs : List Value} (h : RSs P X xs vs) (h1 : xs.all AS.one = true) : ∀ v ∈ vs, v.oneCell' = true := by
  induction h with
  | nil => intro v hv; simp at hv
  | cons hx _ ih =>
    simp only [List.all_cons, Bool.and_eq_true] at h1
    intro v hv
    rcases List.mem_cons.1 hv with rfl | hv
    · exact (hx.one h1.1).1
    · exact ih h1.2 v hv
theorem zm0 {s i j p q : Nat} (hp : p < s) (hq : q < s) (h : i * s + p = j * s + q) : i = j ∧ p = q := by
  have h0 : 0 < s := by omega
  have e1 : (i * s + p) / s = i := by rw [Nat.mul_comm, Nat.mul_add_div h0, Nat.div_eq_of_lt hp, Nat.add_zero]
  have e2 : (j * s + q) / s = j := by rw [Nat.mul_comm, Nat.mul_add_div h0, Nat.div_eq_of_lt hq, Nat.add_zero]
  have : i = j := by rw [← e1, h, e2]
  subst this
  exact ⟨rfl, by omega⟩
def UnitRes (P : Program) (K : Kx) (X : Cx) (w : World) (r : AR) (s : Sem Unit) : Prop :=
  r.v = .sc .ud ∧ ∃ w' X', s.run P w = .ok () w' ∧ X'.ob = updl X.ob r.ws ∧ Stp P K X w X' w'
theorem F_low {H : Heap P K X} {a b : Bool} (h : b = true → a = true) {n : Nat} (hf : X.F a n) : X.F b n := by
  cases a <;> cases b <;> first | exact hf | exact H.Fle n hf | (exact absurd (h rfl) (by simp))
theorem zhi {ob : Nat → AO} {ids : List Nat} {id : Nat} (h : id ∉ ids) : updl ob (frz lk ids) id = ob id := by
  show look (ob id) (frz lk ids) id = ob id
  induction ids with
  | nil => rfl
  | cons y r ih =>
    have hne : y ≠ id := fun e => h (by simp [e])
    have ihr := ih fun e => h (by simp [e])
    unfold frz
    split
    · simp only [look, zbq hne, cond_false, ihr]
    · exact ihr
theorem zeo {l : List Nat} {n : Nat} : has l n = true ↔ n ∈ l := by
  induction l with
  | nil => simp [has]
  | cons k r ih =>
    simp only [has, List.mem_cons]
    cases hb : Nat.beq k n
    · have hne : k ≠ n := fun e => by subst e; simp at hb
      simp only [cond_false, ih]
      exact ⟨.inr, fun h => h.resolve_left (Ne.symm hne)⟩
    · simp [(zg hb).symm]
theorem zqi (H : Heap P K X) (hX : X.h = w.heap) (hlk : ∀ id, lk id = X.ob id ∨ lk id = .dead) {t : TypeId} {a x : AV} {va vx : Value} (ha : RV P X a va) (hx : RV P X x vx) {r : AR} (h : astore P lk t a x = some r) :
    UnitRes P K X w r (Instr.storeAt t va vx) := by
  unfold astore at h
  cases hc : (!x.cells.isEmpty && (Nat.beq x.cells.length (esz P t) && x.cells.all AS.one)) <;> simp only [hc, cond_false, cond_true] at h
  · cases h
  simp only [Bool.and_eq_true, Bool.not_eq_true', List.isEmpty_eq_false_iff] at hc
  obtain ⟨c1, c2, c3⟩ := hc
  have hcs := hx.cells c1
  have hlen : vx.cells.size = esz P t := by have := hcs.length; rw [zg c2] at this; simpa using this.symm
  have hpos : 0 < esz P t := by rw [← zg c2]; exact List.length_pos_iff.2 c1
  have hone := znl hcs c3
  have hl2 : vx.cells.toList.length = x.cells.length := hcs.length.symm
  split at h
  · rename_i id off
    split at h
    · rename_i cells hl
      have ho := lk_rw hlk hl (by simp)
      cases hb : Nat.ble (off + x.cells.length) cells.length <;> simp [hb] at h
      subst h
      have hb := Nat.le_of_ble_eq_true hb
      have hv := (show RefBx X id _ from ha).get
      subst hv
      have hok := H.ok id
      unfold AOok at hok
      rw [ho] at hok
      obtain ⟨cs, ty, h1, h2⟩ := hok
      have hown : Own X id := by unfold Own; rw [ho]; trivial
      have hfit : (X.β id).off + off + vx.cells.toList.length ≤ cs.size := by
        have hlt : off + x.cells.length - 1 < cells.length := by
          have := List.length_pos_iff.2 c1; omega
        obtain ⟨v, h3, _⟩ := h2 (off + x.cells.length - 1) cells[off + x.cells.length - 1] (by simp [hlt])
        have := (Array.getElem?_eq_some_iff.1 h3).1
        have := List.length_pos_iff.2 c1
        omega
      have hg : w.heap[(X.β id).blk]? = some (.cells cs ty (0, 0)) := by rw [← hX]; exact h1
      refine ⟨rfl, w.setRow (X.β id).blk (splice cs ((X.β id).off + off) vx.cells.toList), X.wrt id (X.β id) (.bx (setMany cells off x.cells)) (w.setRow (X.β id).blk (splice cs ((X.β id).off + off) vx.cells.toList)).heap, ?_, (zb7 _ _ _).symm, ?_⟩
      · simp only [Instr.storeAt, Instr.sureAddr, Sem.run_bind, Sem.run_pure, Result.andThen_ok, Loc.ptr]
        exact zjm hlen hpos hg (by simpa using hfit) hone
      · have hnew := setRow_heap w (X.β id).blk cs (splice cs ((X.β id).off + off) vx.cells.toList) ty (0, 0) hg
        refine Stp.write H hX hown (by simp) (fun b hb => setRow_other _ _ _ _ hb) rfl rfl rfl rfl ?_ (fun E => ?_) (fun cells' hc' => ?_)
        · unfold Keeps; rw [ho]; exact ⟨⟨_, upd_same _ _ _⟩, upd_same _ _ _⟩
        · unfold AOok
          simp only [Cx.wrt, upd_same]
          refine ⟨_, ty, hnew, fun j y hj => ?_⟩
          rw [zge hb] at hj
          by_cases hr : off ≤ j ∧ j < off + x.cells.length
          · rw [if_pos hr] at hj
            obtain ⟨v, e1, e2⟩ := hcs.get hj
            refine ⟨v, ?_, e2.ext E⟩
            rw [zc4 hfit, if_pos ⟨by omega, by omega⟩, ← e1]; congr 1; omega
          · rw [if_neg hr] at hj
            obtain ⟨v, e1, e2⟩ := h2 j y hj
            refine ⟨v, ?_, e2.ext E⟩
            rw [zc4 hfit, if_neg (by omega)]; exact e1
        · rw [ho] at hc'
          cases hc'
          refine ⟨⟨_, upd_same _ _ _, zff⟩, upd_same _ _ _, fun cs2 ty2 h22 => ?_⟩
          rw [h1] at h22
          cases h22
          refine ⟨_, hnew, zfz hfit, fun c hc => ?_⟩
          rw [zc4 hfit, if_neg (by omega)]
    · cases h
  · rename_i id n ix o
    split at h
    · rename_i e fr xs ser hl
      have ho := lk_rw hlk hl (by simp)
      cases hb : (Nat.beq n ser && Nat.ble (o + x.cells.length) (esz P e)) <;> simp only [hb, cond_false, cond_true] at h
      · cases h
      simp only [Bool.and_eq_true] at hb
      have hb2 := Nat.le_of_ble_eq_true hb.2
      split at h
      · rename_i cs f ids htc
        cases hh : has ids id <;> simp [hh] at h
        subst h
        have hni : id ∉ ids := fun hm => by rw [zeo.2 hm] at hh; cases hh
        obtain ⟨X1, F1⟩ := frzs (w := w) H hX hlk ids
        obtain ⟨t1, t2⟩ := ze8 H hlk F1 hcs htc fun _ h => h
        have ho1 : X1.ob id = .rw e fr xs ser := by rw [F1.ob, zhi hni, ho]
        obtain ⟨hix, hnil, hv⟩ := (show RS P X (.po id n ix o) va from ha).2.get (.inl ho) (zg hb.1)
        have H1 := F1.stp.heap
        have hok := H1.ok id
        unfold AOok at hok
        rw [ho1] at hok
        rw [← F1.β] at hnil hv
        rcases hok with ⟨hn, _⟩ | ⟨_, q1, q2, cur, ty, q3, q4, q5⟩
        · rw [hnil] at hn; cases hn
        have hown : Own X1 id := by unfold Own; rw [ho1]; exact hnil
        have hX1 : X1.h = w.heap := F1.stp.hX
        have hg : w.heap[(X1.β id).blk]? = some (.cells cur ty (0, 0)) := by rw [← hX1]; exact q3
        have hfit : (X1.β id).off + ix * esz P e + o + vx.cells.toList.length ≤ cur.size := by
          have h3 : (ix + 1) * esz P e ≤ (X1.β id).cap * esz P e := Nat.mul_le_mul_right _ (by omega)
          rw [Nat.add_mul] at h3
          omega
        have hrow : RowAt P (Con P X1.h (X1.F (fr && f)) 7) e (splice cur ((X1.β id).off + ix * esz P e + o) vx.cells.toList) (X1.β id).off (wrs xs ix o cs) := by
          intro i hi p hp
          rw [ze7] at hi
          rw [zlm cs hix]
          by_cases hr : i = ix ∧ o ≤ p ∧ p < o + cs.length
          · rw [if_pos hr]
            obtain ⟨rfl, r1, r2⟩ := hr
            have hget : cs[p - o]? = some (cs.getD (p - o) (.i 0)) := by
              have : p - o < cs.length := by omega
              simp [List.getD_eq_getElem?_getD, this]
            obtain ⟨v, v1, v2⟩ := t2 (p - o) _ hget
            refine ⟨v, ?_, ?_⟩
            · rw [zc4 hfit, if_pos ⟨by omega, by omega⟩, ← v1]; congr 1; omega
            · rw [show o + (p - o) = p by omega] at v2
              exact v2.mono fun _ _ _ hx => Con.mono (fun b hb => F_low (H := H1) (by simp +contextual) hb) (fun _ _ => rfl) hx
          · rw [if_neg hr]
            obtain ⟨v, v1, v2⟩ := q5 i hi p hp
            refine ⟨v, ?_, v2.mono fun _ _ _ hx => Con.mono (fun b hb => F_low (H := H1) (by simp +contextual) hb) (fun _ _ => rfl) hx⟩
            rw [zc4 hfit, if_neg ?_]
            · exact v1
            · rintro ⟨z1, z2⟩
              apply hr
              have hq : ∃ q, o ≤ q ∧ q < o + vx.cells.toList.length ∧ i * esz P e + p = ix * esz P e + q := ⟨i * esz P e + p - ix * esz P e, by omega, by omega, by omega⟩
              obtain ⟨q, g1, g2, g3⟩ := hq
              obtain ⟨rfl, rfl⟩ := zm0 hp (by omega) g3
              exact ⟨rfl, g1, by omega⟩
        refine ⟨rfl, w.setRow (X1.β id).blk (splice cur ((X1.β id).off + ix * esz P e + o) vx.cells.toList),
          X1.wrt id (X1.β id) (.rw e (fr && f) (wrs xs ix o cs) ser) (w.setRow (X1.β id).blk (splice cur ((X1.β id).off + ix * esz P e + o) vx.cells.toList)).heap, ?_, ?_, ?_⟩
        · rw [hv]
          simp only [Instr.storeAt, Instr.sureAddr, Sem.run_bind, Sem.run_pure, Result.andThen_ok]
          exact zjm hlen hpos hg (by simpa using hfit) hone
        · rw [zeq, ← F1.ob]; rfl
        · have hnew := setRow_heap w (X1.β id).blk cur (splice cur ((X1.β id).off + ix * esz P e + o) vx.cells.toList) ty (0, 0) hg
          refine F1.stp.trans H (Stp.write H1 hX1 hown (by simp) (fun b hb => setRow_other _ _ _ _ hb) rfl rfl rfl rfl ?_ (fun E => ?_) (fun cells' hc' => ?_))
          · unfold Keeps; rw [ho1]; exact .inr (.inl ⟨⟨_, _, .inl (upd_same _ _ _), ze7 _ _ _ _⟩, upd_same _ _ _⟩)
          · unfold AOok
            simp only [Cx.wrt, upd_same]
            refine .inr ⟨hnil, by rw [ze7]; exact q1, fun hq => q2 (by simp at hq; exact hq.1), _, ty, hnew, by rw [zfz hfit]; exact q4, ?_⟩
            exact hrow.mono fun _ _ _ hx => Con.mono (E.F _) (E.h _) hx
          · rw [ho1] at hc'; cases hc'
      · cases h
    · cases h
  · cases h
end
end Go.Eng
end
section
namespace Go.Eng
open Go
section
variable {P : Program} {K : Kx} {X : Cx} {w : World} {lk : Lk}
structure Src (P : Program) (w : World) (size n : Nat) (x : Value) (news : List Value) : Prop where
  len : ∀ w', (Builtin.lenOf x).run P w' = .ok n w'
  cells : ∀ w', w'.heap = w.heap → (Builtin.firstCells size n x).run P w' = .ok news.toArray w'
  length : news.length = n * size
theorem zoz {t u ty e : TypeId} {i : TypeInfo} {z : Value} {d : TypeDesc} (ht : P.underlying t = some (.slice e)) (hu : P.underlying u = some d) (hd : ∀ k, d ≠ .int k) (hi : P.info? e = some i) (hz : i.zero = some z)
    {A : Option Addr} {n0 c0 n : Nat} {x : Value} {olds news : List Value} (hx : Src P w i.size n x news) (ho : ∀ w', w'.heap = w.heap → (Builtin.firstCells i.size n0 (.slice A n0 c0)).run P w' = .ok olds.toArray w')
    (hb : n0 + n ≤ most) (hby : i.bytes ≤ 128) :
    (n0 + n ≤ c0 → A = none → (Builtin.append_ #[t, u] ty #[.slice A n0 c0, x]).run P w = .ok (.slice none (n0 + n) c0) w) ∧
    (n0 + n ≤ c0 → ∀ a, A = some a → ∀ w', (storeCells (a.add (n0 * i.size)) news).run P w = .ok () w' → (Builtin.append_ #[t, u] ty #[.slice A n0 c0, x]).run P w = .ok (.slice A (n0 + n) c0) w') ∧
    (¬ n0 + n ≤ c0 → (Builtin.append_ #[t, u] ty #[.slice A n0 c0, x]).run P w =
      .ok (.slice (some ⟨w.heap.size, 0, none⟩) (n0 + n) (grownCap w (n0 + n) c0 e)) (w.drew.alloc (.cells (olds.toArray ++ news.toArray ++ Builtin.zeroCells z.cells (grownCap w (n0 + n) c0 e - (n0 + n))) e))) := by
  have hzeros : (match d with | .int _ => true | _ => false) = false := by
    cases d <;> first | rfl | exact absurd rfl (hd _)
  have hm : ((underlying u).run P w).andThen (fun a w' => Result.ok (match a with | .int _ => true | _ => false) w') = .ok false w := by
    rw [run_underlying hu]; simp only [Result.andThen_ok, hzeros]
  have f1 := hx.cells w rfl
  have f2 := hx.cells { w with drawn := w.drawn + 1 } rfl
  have f3 := ho { w with drawn := w.drawn + 1 } rfl
  unfold most at hb
  refine ⟨fun hr hA => ?_, fun hr a hA w' hst => ?_, fun hr => ?_⟩
  · subst hA
    simp only [Builtin.append_, List.getElem?_toArray, List.getElem?_cons_zero, List.getElem?_cons_succ, Sem.run_bind, run_underlying ht, run_underlying hu, Result.andThen_ok, sizeOf, typeInfo, run_program, hi, Sem.run_pure, hzeros, Bool.false_eq_true, if_false, hx.len, if_pos hr,
      Bool.not_false, if_true, f1]
  · subst hA
    simp only [Builtin.append_, List.getElem?_toArray, List.getElem?_cons_zero, List.getElem?_cons_succ, Sem.run_bind, run_underlying ht, run_underlying hu, Result.andThen_ok, sizeOf, typeInfo, run_program, hi, Sem.run_pure, hzeros, Bool.false_eq_true, if_false, hx.len, if_pos hr,
      Bool.not_false, if_true, f1, hst]
  · have h63 : ¬ (((n0 + n : Nat) : Int) > IntKind.i64.max ∧ (False ∨ i.bytes = 0)) := by rw [IntKind.max_i64]; omega
    have h48 : ¬ (Builtin.nextslicecap (n0 + n) c0 * i.bytes > 2 ^ 48) := by
      have h1 := nextslicecap_le (need := n0 + n) (old := c0) (by omega)
      have h2 : Builtin.nextslicecap (n0 + n) c0 * i.bytes ≤ (2 * (n0 + n)) * 128 := Nat.mul_le_mul h1 hby
      omega
    simp only [Builtin.append_, List.getElem?_toArray, List.getElem?_cons_zero, List.getElem?_cons_succ, Sem.run_bind, run_underlying ht, run_underlying hu, Result.andThen_ok, sizeOf, typeInfo, run_program, hi, Sem.run_pure, hzeros, Bool.false_eq_true, if_false, hx.len, if_neg hr,
      if_neg h63, if_neg h48, Bool.not_false, if_true, run_choose, Question.forced, run_askRoom, f2, f3, zeroValue, hz, newRow, run_newObj]
    rfl
end
end Go.Eng
end
section
namespace Go.Eng
open Go
section
variable {P : Program} {K : Kx} {X : Cx} {w : World} {lk : Lk}
theorem CellOk.oneCell {con : TypeId → Option Addr → Rw → Prop} {k : CK} {v : Value} {c : C} (h : CellOk con k v c) : v.oneCell' = true := by
  cases k <;> simp only [CellOk] at h
  · subst h; rfl
  · subst h; rfl
  · subst h; rfl
  · obtain ⟨_, _, h, _⟩ := h; subst h; rfl
theorem zqw {e : TypeId} (h : flat P e = true) (o : Nat) (e' : TypeId) : ck P e o ≠ .sl e' := by
  intro hk
  have hm := zk0 hk (by simp)
  unfold flat at h
  rw [List.all_eq_true] at h
  have := h _ hm
  simp at this
theorem RowAt.flat {e : TypeId} (hf : flat P e = true) {con con' : TypeId → Option Addr → Rw → Prop} {cs : Array Value} {off : Nat} {xs : Rw} (h : RowAt P con e cs off xs) : RowAt P con' e cs off xs := fun i hi o ho => by
  obtain ⟨v, h1, h2⟩ := h i hi o ho
  refine ⟨v, h1, ?_⟩
  have := zqw hf o
  cases hk : ck P e o <;> rw [hk] at h2 <;> first | exact h2 | exact absurd hk (this _)
theorem RowAt.low (H : Heap P K X) {a b : Bool} (hab : b = true → a = true) {e : TypeId} {cs : Array Value} {off : Nat} {xs : Rw} (h : RowAt P (Con P X.h (X.F a) 7) e cs off xs) : RowAt P (Con P X.h (X.F b) 7) e cs off xs :=
  h.mono fun _ _ _ hx => Con.mono (fun n hn => F_low (H := H) hab hn) (fun _ _ => rfl) hx
theorem RowAt.cat {con : TypeId → Option Addr → Rw → Prop} {e : TypeId} {cs cs1 cs2 : Array Value} {off off1 off2 : Nat} {zs ys : Rw} (h1 : RowAt P con e cs1 off1 zs) (h2 : RowAt P con e cs2 off2 ys)
    (e1 : ∀ j, j < zs.length * esz P e → cs[off + j]? = cs1[off1 + j]?) (e2 : ∀ j, j < ys.length * esz P e → cs[off + zs.length * esz P e + j]? = cs2[off2 + j]?) : RowAt P con e cs off (zs ++ ys) := by
  intro i hi o ho
  rw [List.length_append] at hi
  by_cases hz : i < zs.length
  · obtain ⟨v, a, b⟩ := h1 i hz o ho
    have hlt : i * esz P e + o < zs.length * esz P e := by
      have := Nat.mul_le_mul_right (esz P e) (show i + 1 ≤ zs.length from hz)
      rw [Nat.add_mul] at this; omega
    refine ⟨v, ?_, ?_⟩
    · rw [Nat.add_assoc, e1 _ hlt, ← Nat.add_assoc]; exact a
    · have : rd (zs ++ ys) i o = rd zs i o := by simp [rd, List.getD_eq_getElem?_getD, List.getElem?_append_left hz]
      rw [this]; exact b
  · obtain ⟨v, a, b⟩ := h2 (i - zs.length) (by omega) o ho
    have hlt : (i - zs.length) * esz P e + o < ys.length * esz P e := by
      have := Nat.mul_le_mul_right (esz P e) (show i - zs.length + 1 ≤ ys.length by omega)
      rw [Nat.add_mul] at this; omega
    have hsplit : i * esz P e = zs.length * esz P e + (i - zs.length) * esz P e := by rw [← Nat.add_mul]; congr 1; omega
    refine ⟨v, ?_, ?_⟩
    · rw [show off + i * esz P e + o = off + zs.length * esz P e + ((i - zs.length) * esz P e + o) by omega, e2 _ hlt, ← Nat.add_assoc]; exact a
    · have : rd (zs ++ ys) i o = rd ys (i - zs.length) o := by simp [rd, List.getD_eq_getElem?_getD, List.getElem?_append_right (by omega : zs.length ≤ i)]
      rw [this]; exact b
theorem RowAt.size {con : TypeId → Option Addr → Rw → Prop} {e : TypeId} {cs : Array Value} {off : Nat} {xs : Rw} (h : RowAt P con e cs off xs) (h0 : 0 < esz P e) (hne : xs ≠ []) : off + xs.length * esz P e ≤ cs.size := by
  have hl := List.length_pos_iff.2 hne
  obtain ⟨v, a, _⟩ := h (xs.length - 1) (by omega) (esz P e - 1) (by omega)
  have h1 := (Array.getElem?_eq_some_iff.1 a).1
  have h2 : xs.length * esz P e = (xs.length - 1) * esz P e + esz P e := by
    have : xs.length = (xs.length - 1) + 1 := by omega
    rw [this, Nat.add_mul, Nat.one_mul]; simp
  omega
theorem zjq {con : TypeId → Option Addr → Rw → Prop} {e : TypeId} {cs : Array Value} {off : Nat} {xs : Rw} (h : RowAt P con e cs off xs) (h0 : 0 < esz P e) (hne : xs ≠ []) :
    ∃ news : List Value, news.length = xs.length * esz P e ∧ (∀ j v, news[j]? = some v → cs[off + j]? = some v) ∧ (∀ j, j < xs.length * esz P e → news.toArray[0 + j]? = cs[off + j]?) := by
  have hs := h.size h0 hne
  refine ⟨(cs.toList.drop off).take (xs.length * esz P e), by simp; omega, fun j v hj => ?_, fun j hj => ?_⟩
  · have hlt : j < xs.length * esz P e := by
      rcases Nat.lt_or_ge j (xs.length * esz P e) with hl | hl
      · exact hl
      · rw [List.getElem?_eq_none (by simp; omega)] at hj; cases hj
    rw [List.getElem?_take_of_lt hlt, List.getElem?_drop] at hj
    simpa using hj
  · rw [List.getElem?_toArray, Nat.zero_add, List.getElem?_take_of_lt hj, List.getElem?_drop]; simp
theorem RowAt.ones {con : TypeId → Option Addr → Rw → Prop} {e : TypeId} {news : List Value} {xs : Rw} (h : RowAt P con e news.toArray 0 xs) (hl : news.length = xs.length * esz P e) : ∀ v ∈ news, v.oneCell' = true := by
  intro v hv
  obtain ⟨j, hj, rfl⟩ := List.getElem_of_mem hv
  have h0 : 0 < esz P e := by
    rcases Nat.eq_zero_or_pos (esz P e) with h0 | h0
    · rw [h0, Nat.mul_zero] at hl; omega
    · exact h0
  obtain ⟨u, a, b⟩ := h (j / esz P e) (Nat.div_lt_of_lt_mul (by rw [Nat.mul_comm, ← hl]; exact hj)) (j % esz P e) (Nat.mod_lt _ h0)
  rw [Nat.zero_add, Nat.mul_comm, Nat.div_add_mod] at a
  simp [hj] at a
  rw [a]; exact b.oneCell
theorem zrz (hX : X.h = w.heap) {e : TypeId} (h0 : 0 < esz P e) {fr : Bool} {ys : Rw} {v : Value} (h : Rd P X e fr ys v) : ∃ news, Src P w (esz P e) ys.length v news ∧ RowAt P (Con P X.h (X.F fr) 7) e news.toArray 0 ys := by
  obtain ⟨A, cap, rfl, hc, hr⟩ := h
  rcases hr with rfl | ⟨blk, off, cs, ty, fz, rfl, h2, h3⟩
  · refine ⟨[], ⟨fun _ => rfl, fun w' hw => ?_, by simp⟩, fun i hi => by simp at hi⟩
    cases A with
    | none => simp [Builtin.firstCells]
    | some a => simp [Builtin.firstCells, loadCells, loadCellsFrom]
  · by_cases hne : ys = []
    · subst hne
      exact ⟨[], ⟨fun _ => rfl, fun w' hw => by simp [Builtin.firstCells, loadCells, loadCellsFrom], by simp⟩, fun i hi => by simp at hi⟩
    · obtain ⟨news, n1, n2, n3⟩ := zjq h3 h0 hne
      refine ⟨news, ⟨fun _ => rfl, fun w' hw => ?_, n1⟩, ?_⟩
      · refine run_firstCells_some w' _ _ _ _ _ news n1 fun j v hj => ?_
        rw [zcf, zem (by rw [hw, ← hX]; exact h2)]
        exact n2 j v hj
      · intro i hi o ho
        obtain ⟨v, a, b⟩ := h3 i hi o ho
        have hlt : i * esz P e + o < ys.length * esz P e := by
          have := Nat.mul_le_mul_right (esz P e) (show i + 1 ≤ ys.length from hi)
          rw [Nat.add_mul] at this; omega
        exact ⟨v, by rw [Nat.add_assoc, n3 _ hlt, ← Nat.add_assoc]; exact a, b⟩
theorem zdj (s : ByteArray) : (rowsOf s).length = s.size := by simp [rowsOf]
theorem zrx {e : TypeId} (h1 : esz P e = 1) (hk : ck P e 0 = .i .u8) (s : ByteArray) (con : TypeId → Option Addr → Rw → Prop) : ∃ news, Src P w (esz P e) (rowsOf s).length (.string s) news ∧ RowAt P con e news.toArray 0 (rowsOf s) := by
  refine ⟨s.data.toList.map fun b => .int .u8 b.toNat, ⟨fun _ => by rw [zdj]; rfl, fun w' hw => ?_, by simp [rowsOf, h1]⟩, fun i hi o ho => ?_⟩
  · have : (s.extract 0 (rowsOf s).length) = s := by rw [zdj]; exact ByteArray.extract_zero_size
    simp only [Builtin.firstCells, this, Sem.run_pure]
    congr 1
    apply Array.ext'
    simp
  · have ho : o = 0 := by omega
    subst ho
    rw [zdj] at hi
    have hi' : i < s.data.toList.length := by simpa using hi
    refine ⟨.int .u8 ((s.data.toList[i]).toNat : Int), ?_, ?_⟩
    · rw [h1, List.getElem?_toArray, Nat.zero_add, Nat.mul_one, Nat.add_zero, List.getElem?_map, List.getElem?_eq_getElem hi']; rfl
    · rw [hk]
      have : (rowsOf s).getD i [] = [C.i ((s.data.toList[i]).toNat : Int)] := by
        simp only [rowsOf, List.getD_eq_getElem?_getD, List.getElem?_map, List.getElem?_eq_getElem hi']; rfl
      simp only [CellOk, rd, this]
      rfl
end
end Go.Eng
end
section
namespace Go.Eng
open Go
section
variable {P : Program} {K : Kx} {X : Cx} {w : World} {lk : Lk}
def Stands (P : Program) (con : TypeId → Option Addr → Rw → Prop) (e : TypeId) (w w' : World) (b0 : Option Nat) (l : Loc) (xs : Rw) : Prop :=
  (l.nil = true ∧ xs = [] ∧ l.cap = 0 ∧ w'.heap = w.heap) ∨
  (l.nil = false ∧ xs.length ≤ l.cap ∧ (∃ cs ty, w'.heap[l.blk]? = some (.cells cs ty (0, 0)) ∧ l.off + l.cap * esz P e ≤ cs.size ∧ RowAt P con e cs l.off xs) ∧
    ((b0 = some l.blk ∧ w'.heap.size = w.heap.size ∧ ∀ b, b ≠ l.blk → w'.heap[b]? = w.heap[b]?) ∨ (l.blk = w.heap.size ∧ w'.heap.size = w.heap.size + 1 ∧ ∀ b, b < w.heap.size → w'.heap[b]? = w.heap[b]?)))
def Base (P : Program) (con : TypeId → Option Addr → Rw → Prop) (e : TypeId) (w : World) (b0 : Option Nat) (A : Option Addr) (c0 : Nat) (zs : Rw) : Prop :=
  (A = none ∧ zs = [] ∧ c0 = 0) ∨ ∃ blk off cur ty, b0 = some blk ∧ A = some ⟨blk, off, none⟩ ∧ w.heap[blk]? = some (.cells cur ty (0, 0)) ∧ zs.length ≤ c0 ∧ off + c0 * esz P e ≤ cur.size ∧ RowAt P con e cur off zs
theorem zpj {t u ty e : TypeId} {i : TypeInfo} {z : Value} {d : TypeDesc} (ht : P.underlying t = some (.slice e)) (hu : P.underlying u = some d) (hd : ∀ k, d ≠ .int k) (hi : P.info? e = some i) (hz : i.zero = some z)
    (hzs : z.cells.size = esz P e) (h0 : 0 < esz P e) (hby : i.bytes ≤ 128) {con : TypeId → Option Addr → Rw → Prop} {b0 : Option Nat} {A : Option Addr} {c0 : Nat} {zs ys : Rw} {x : Value} {news : List Value}
    (hB : Base P con e w b0 A c0 zs) (hx : Src P w (esz P e) ys.length x news) (hr : RowAt P con e news.toArray 0 ys) (hb : zs.length + ys.length ≤ most) :
    ∃ v w' l, (Builtin.append_ #[t, u] ty #[.slice A zs.length c0, x]).run P w = .ok v w' ∧ v = .slice (slAddr P e l 0) (zs ++ ys).length l.cap ∧ w'.os = w.os ∧ w'.tape = w.tape ∧ w'.output = w.output ∧ Stands P con e w w' b0 l (zs ++ ys) := by
  have hsz : i.size = esz P e := by simp [esz, hi]
  have hlen := hx.length
  have holds : ∃ olds : List Value, olds.length = zs.length * esz P e ∧ (∀ w', w'.heap = w.heap → (Builtin.firstCells i.size zs.length (.slice A zs.length c0)).run P w' = .ok olds.toArray w') ∧ RowAt P con e olds.toArray 0 zs := by
    rcases hB with ⟨rfl, rfl, rfl⟩ | ⟨blk, off, cur, ty, _, rfl, h1, h2, h3, h4⟩
    · exact ⟨[], by simp, fun w' _ => by simp [Builtin.firstCells], fun i hi => by simp at hi⟩
    · by_cases hne : zs = []
      · subst hne
        exact ⟨[], by simp, fun w' _ => by simp [Builtin.firstCells, loadCells, loadCellsFrom], fun i hi => by simp at hi⟩
      · obtain ⟨olds, n1, n2, n3⟩ := zjq h4 h0 hne
        refine ⟨olds, n1, fun w' hw => ?_, fun i hi o ho => ?_⟩
        · refine run_firstCells_some w' _ _ _ _ _ olds (by rw [hsz]; exact n1) fun j v hj => ?_
          rw [zcf, zem (by rw [hw]; exact h1)]
          exact n2 j v hj
        · obtain ⟨v, a, b⟩ := h4 i hi o ho
          have hlt : i * esz P e + o < zs.length * esz P e := by
            have := Nat.mul_le_mul_right (esz P e) (show i + 1 ≤ zs.length from hi)
            rw [Nat.add_mul] at this; omega
          exact ⟨v, by rw [Nat.add_assoc, n3 _ hlt, ← Nat.add_assoc]; exact a, b⟩
  obtain ⟨olds, o1, o2, o3⟩ := holds
  obtain ⟨r1, r2, r3⟩ := zoz (ty := ty) ht hu hd hi hz (A := A) (c0 := c0) (hsz ▸ hx) o2 hb hby
  by_cases hroom : zs.length + ys.length ≤ c0
  · cases hA : A with
    | none =>
      rcases hB with ⟨_, rfl, rfl⟩ | ⟨blk, off, cur, ty', _, h, _⟩
      · have hys : ys = [] := List.eq_nil_of_length_eq_zero (by have h9 : ([] : Rw).length = 0 := rfl; omega)
        subst hys
        exact ⟨_, w, ⟨0, 0, 0, true⟩, by rw [← hA]; exact r1 hroom hA, by simp [slAddr], rfl, rfl, rfl, .inl ⟨rfl, rfl, rfl, rfl⟩⟩
      · rw [hA] at h; cases h
    | some a =>
      rcases hB with ⟨h, _⟩ | ⟨blk, off, cur, ty', hb0, h, h1, h2, h3, h4⟩
      · rw [hA] at h; cases h
      · rw [h] at hA; cases hA
        have hfit : off + zs.length * esz P e + news.length ≤ cur.size := by
          rw [hlen]
          have := Nat.mul_le_mul_right (esz P e) hroom
          rw [Nat.add_mul] at this
          omega
        have hst := run_storeCells_at P blk (off + zs.length * esz P e) ty' news 0 cur w h1 (by simpa using hfit) (hr.ones hlen)
        simp only [Nat.add_zero] at hst
        refine ⟨_, w.setRow blk (splice cur (off + zs.length * esz P e) news), ⟨blk, off, c0, false⟩, by rw [h] at r2; exact r2 hroom _ rfl _ (by rw [zcf, hsz]; exact hst), ?_, rfl, rfl, rfl, .inr ⟨rfl, ?_, ?_, .inl ⟨hb0, by simp, fun b hb => setRow_other _ _ _ _ hb⟩⟩⟩
        · simp [slAddr]
        · rw [List.length_append]; exact hroom
        · refine ⟨_, ty', setRow_heap w blk cur _ ty' (0, 0) h1, by rw [zfz hfit]; exact h3, RowAt.cat h4 hr (fun j hj => ?_) fun j hj => ?_⟩
          · show (splice cur (off + zs.length * esz P e) news)[off + j]? = _
            rw [zc4 hfit, if_neg (by omega)]
          · show (splice cur (off + zs.length * esz P e) news)[off + zs.length * esz P e + j]? = _
            rw [zc4 hfit, if_pos ⟨by omega, by omega⟩, List.getElem?_toArray]; congr 1; omega
  · have hcap := grownCap_ge w (zs.length + ys.length) c0 e
    have hall : (olds.toArray ++ news.toArray ++ Builtin.zeroCells z.cells (grownCap w (zs.length + ys.length) c0 e - (zs.length + ys.length))).size = grownCap w (zs.length + ys.length) c0 e * esz P e := by
      simp only [Array.size_append, List.size_toArray, size_zeroCells, hzs, o1, hlen]
      rw [← Nat.add_mul, ← Nat.add_mul]; congr 1; omega
    refine ⟨_, _, ⟨w.heap.size, 0, grownCap w (zs.length + ys.length) c0 e, false⟩, r3 hroom, ?_, rfl, rfl, rfl, .inr ⟨rfl, ?_, ?_, .inr ⟨rfl, by simp, fun b hb => zfw w.drew _ hb⟩⟩⟩
    · simp [slAddr]
    · rw [List.length_append]; exact hcap
    · refine ⟨_, e, zfx w.drew _, by simpa using Nat.le_of_eq hall.symm, RowAt.cat o3 hr (fun j hj => ?_) fun j hj => ?_⟩
      · rw [Array.append_assoc, Array.getElem?_append_left (by simp; omega)]
      · rw [Array.append_assoc, Array.getElem?_append_right (by simp; omega), Array.getElem?_append_left (by simp; omega)]
        congr 1; simp; omega
theorem Stp.row {id : Nat} {e : TypeId} {g : Bool} {xs : Rw} {ser : Nat} {l : Loc} {w' : World} {b0 : Option Nat} (H : Heap P K X) (hX : X.h = w.heap) (hst : X.ob id = .dead ∨ ∃ e0 fr0 xs0 ser0, X.ob id = .rw e0 fr0 xs0 ser0 ∧ ser0 < ser)
    (hS : Stands P (Con P X.h (X.F g) 7) e w w' b0 l xs) (hb0 : ∀ b, b0 = some b → Own X id ∧ (X.β id).blk = b ∧ (g = true → K.h0.size ≤ b)) (h1 : w'.os = w.os) (h2 : w'.tape = w.tape) (h3 : w'.output = w.output) :
    Stp P K X w ⟨upd X.β id l, X.F, upd X.ob id (.rw e g xs ser), w'.heap⟩ w' := by
  have hsz : X.h.size = w.heap.size := by rw [hX]
  have T : Turn P K X ⟨upd X.β id l, X.F, upd X.ob id (.rw e g xs ser), w'.heap⟩ (fun i => i = id) := by
    refine ⟨fun fr b h => h, H.Fle, H.Ffr, fun b h => .inl h, ?_, fun b hb hno => ?_, fun i h => zb1 _ _ h, fun i h => zb1 _ _ h, fun i h => ?_, fun i h ho => ?_, fun i i' h h' _ _ _ => h.trans h'.symm⟩
    · show _ ≤ w'.heap.size
      rcases hS with ⟨_, _, _, h⟩ | ⟨_, _, _, ⟨_, h, _⟩ | ⟨_, h, _⟩⟩ <;> rw [hsz] <;> first | (rw [h]; exact Nat.le_refl _) | omega
    · show w'.heap[b]? = _
      rw [hX]
      rcases hS with ⟨_, _, _, h⟩ | ⟨_, _, _, ⟨hb1, _, h⟩ | ⟨_, _, h⟩⟩
      · rw [h]
      · obtain ⟨q1, q2, _⟩ := hb0 _ hb1
        exact h b fun e => hno id rfl q1 (q2.trans e.symm)
      · exact h b (by omega)
    · subst h
      unfold Keeps
      rcases hst with h | ⟨e0, fr0, xs0, ser0, h, hlt⟩ <;> rw [h]
      · trivial
      · exact .inr (.inr ⟨e, g, xs, ser, .inl (upd_same _ _ _), hlt⟩)
    · subst h
      simp only [upd_same]
      have hn : l.nil = false := by unfold Own at ho; simpa using ho
      rcases hS with ⟨h, _⟩ | ⟨_, _, _, ⟨hb1, _, h⟩ | ⟨h, _, _⟩⟩
      · rw [hn] at h; cases h
      · obtain ⟨q1, q2, _⟩ := hb0 _ hb1
        exact ⟨.inr ⟨i, rfl, q1, q2⟩, fun hF => H.nF i q1 (q2 ▸ hF)⟩
      · exact ⟨.inl (by omega), fun hF => by have := H.Fsz _ hF; omega⟩
  refine T.stp H (fun i h => ?_) rfl h1 h2 h3 (fun i cells h hc => ?_)
  · subst h
    have E := T.ext H
    unfold AOok
    simp only [upd_same]
    rcases hS with ⟨q1, q2, q3, _⟩ | ⟨q1, q2, ⟨cs, ty, q3, q4, q5⟩, q6⟩
    · exact .inl ⟨q1, q2, q3⟩
    · refine .inr ⟨q1, q2, fun hg => ?_, cs, ty, q3, q4, q5.mono fun _ _ _ hx => Con.mono (E.F g) (E.h g) hx⟩
      rcases q6 with ⟨hb1, _⟩ | ⟨hb1, _⟩
      · exact (hb0 _ hb1).2.2 hg
      · rw [hb1, ← hsz]; exact H.sz
  · subst h
    rcases hst with h | ⟨e0, fr0, xs0, ser0, h, _⟩ <;> rw [h] at hc <;> cases hc
end
end Go.Eng
end
section
namespace Go.Eng
open Go
section
variable {P : Program} {K : Kx} {X : Cx} {w : World} {lk : Lk}
theorem zgj {e : TypeId} (h : rowOk P e = true) : ∃ i z za, P.info? e = some i ∧ i.zero = some z ∧ zero P e = some za ∧ RSs P X za.cells z.cells.toList ∧ za.cells.length = esz P e ∧ z.cells.size = esz P e ∧ 0 < esz P e := by
  unfold rowOk at h
  split at h
  · rename_i za hz
    simp only [Bool.and_eq_true, Bool.not_eq_true'] at h
    obtain ⟨h1, h2⟩ := h
    obtain ⟨i, z, e1, e2, e3⟩ := zfg hz
    have h0 : 0 < esz P e := by
      rcases Nat.eq_zero_or_pos (esz P e) with h0 | h0
      · rw [h0] at h2; simp at h2
      · exact h0
    have hl := zg h1
    have hr : RV P X za z := by rw [e3]; exact zeh z
    have hc := hr.cells fun h => by rw [h] at hl; simp at hl; omega
    exact ⟨i, z, za, e1, e2, hz, hc, hl, by have := hc.length; rw [hl] at this; simpa using this.symm, h0⟩
  · cases h
theorem zsk (H : Heap P K X) (hX : X.h = w.heap) (hlk : ∀ id, lk id = X.ob id ∨ lk id = .dead) {e : TypeId} (h0 : 0 < esz P e) {x : AS} {v : Value} (hx : RS P X x v) {f : Bool} {ys : Rw} (h : asrc P lk e x = some (f, ys)) :
    ∃ news, Src P w (esz P e) ys.length v news ∧ RowAt P (Con P X.h (X.F f) 7) e news.toArray 0 ys := by
  have key : ∀ {x : AS}, RS P X x v → (match content lk x with | some (e', fr, ys, _) => cond (fits e e') (some (fr || flat P e, ys)) none | none => none) = some (f, ys) →
      ∃ news, Src P w (esz P e) ys.length v news ∧ RowAt P (Con P X.h (X.F f) 7) e news.toArray 0 ys := by
    intro x hx h
    split at h
    · rename_i e' fr ys' ids hc
      cases hb : fits e e' <;> simp [hb] at h
      obtain ⟨rfl, rfl⟩ := h
      obtain ⟨news, n1, n2⟩ := zrz hX h0 (zfh H hlk hx hc hb)
      refine ⟨news, n1, ?_⟩
      cases hf : flat P e
      · simpa using n2
      · exact n2.flat hf
    · cases h
  cases x <;> simp only [asrc] at h <;> try exact key hx h
  rename_i z
  split at h
  · rename_i hk h1
    cases h
    simp only [RS] at hx
    subst hx
    exact zrx h1 hk z _
  · cases h
theorem zqy (H : Heap P K X) (hX : X.h = w.heap) (hlk : ∀ id, lk id = X.ob id ∨ lk id = .dead) {nid : Nat} {st u ty : TypeId} {d : TypeDesc} (hu : P.underlying u = some d) (hdk : ∀ k, d ≠ .int k)
    {s x : AV} {vs vx : Value} (hs : RV P X s vs) (hx : RV P X x vx) {r : AR} (h : aappend P lk nid st s x = some r) (hg : ∀ b ∈ r.gs, b = true) (hd : r.nn ≠ 0 → X.ob nid = .dead) : ValRes P K X w r (Builtin.append_ #[st, u] ty #[vs, vx]) := by
  unfold aappend at h
  split at h
  · rename_i e s x he
    have ht := zes he
    split at h
    · cases h
    · rename_i f ys hsrc
      cases hc : (Nat.ble (ebytes P e) 128 && rowOk P e) <;> simp only [hc, cond_false, cond_true] at h
      · cases h
      simp only [Bool.and_eq_true] at hc
      obtain ⟨i, z, za, i1, i2, i3, i4, i5, i6, i7⟩ := zgj (X := X) hc.2
      have hby : i.bytes ≤ 128 := by have := Nat.le_of_ble_eq_true hc.1; simpa [ebytes, i1] using this
      obtain ⟨news, n1, n2⟩ := zsk H hX hlk i7 hx hsrc
      have fin : ∀ (id : Nat) (g : Bool) (zs : Rw) (ser : Nat) (A : Option Addr) (c0 : Nat) (b0 : Option Nat), (g = true → f = true) → (X.ob id = .dead ∨ ∃ e0 fr0 xs0 ser0, X.ob id = .rw e0 fr0 xs0 ser0 ∧ ser0 < ser) →
          vs = .slice A zs.length c0 → Base P (Con P X.h (X.F g) 7) e w b0 A c0 zs → (∀ b, b0 = some b → Own X id ∧ (X.β id).blk = b ∧ (g = true → K.h0.size ≤ b)) → zs.length + ys.length ≤ most →
          ∃ v w' X', (Builtin.append_ #[st, u] ty #[vs, vx]).run P w = .ok v w' ∧ X'.ob = upd X.ob id (.rw e g (zs ++ ys) ser) ∧ RV P X' (.sc (.ow id ser)) v ∧ Stp P K X w X' w' := by
        intro id g zs ser A c0 b0 hgf hst hv hB hb0 hb
        subst hv
        obtain ⟨v, w', l, r1, r2, r3, r4, r5, r6⟩ := zpj (ty := ty) ht hu hdk i1 i2 i6 i7 hby hB n1 (n2.low H hgf) hb
        refine ⟨v, w', _, r1, rfl, ?_, Stp.row H hX hst r6 hb0 r3 r4 r5⟩
        refine ⟨⟨_, _, _, r2⟩, RefRw.mk (.inl (upd_same _ _ _)) rfl ?_⟩
        simp only [upd_same]; exact r2
      split at h
      · cases h
        simp only [RV, RS] at hs
        have hb : ys.length ≤ most := by simpa using hg (decide (ys.length ≤ most)) (by simp)
        obtain ⟨v, w', X', r1, r2, r3, r4⟩ := fin nid f [] 0 none 0 none id (.inl (hd (by simp))) hs (.inl ⟨rfl, rfl, rfl⟩) (fun b hb => by cases hb) (by simpa using hb)
        exact ⟨v, w', X', r1, r2.trans (zb7 _ _ _).symm, r3, r4⟩
      · rename_i id m
        split at h
        · rename_i e' fr xs ser hl
          cases hq : (Nat.beq e e' && Nat.beq m ser) <;> simp only [hq, cond_false, cond_true] at h
          · cases h
          cases h
          simp only [Bool.and_eq_true] at hq
          have he' := zg hq.1; subst he'
          have ho := lk_rw hlk hl (by simp)
          have hv := (show RS P X (.ow id m) vs from hs).2.get (.inl ho) (zg hq.2)
          have hb : xs.length + ys.length ≤ most := by simpa using hg (decide (xs.length + ys.length ≤ most)) (by simp)
          have hok := H.ok id
          unfold AOok at hok
          rw [ho] at hok
          have both : ∀ b0, Base P (Con P X.h (X.F (fr && f)) 7) e w b0 (slAddr P e (X.β id) 0) (X.β id).cap xs → (∀ b, b0 = some b → Own X id ∧ (X.β id).blk = b ∧ ((fr && f) = true → K.h0.size ≤ b)) →
              ValRes P K X w ⟨[decide (xs.length + ys.length ≤ most)], .sc (.ow id (ser + 1)), [(id, .rw e (fr && f) (xs ++ ys) (ser + 1))], 0⟩ (Builtin.append_ #[st, u] ty #[vs, vx]) := by
            intro b0 hB hb0
            obtain ⟨v, w', X', r1, r2, r3, r4⟩ := fin id (fr && f) xs (ser + 1) _ _ b0 (by simp +contextual) (.inr ⟨_, _, _, _, ho, Nat.lt_succ_self _⟩) hv hB hb0 hb
            exact ⟨v, w', X', r1, r2.trans (zb7 _ _ _).symm, r3, r4⟩
          rcases hok with ⟨q1, q2, q3⟩ | ⟨q1, q2, q3, cs, ty', q4, q5, q6⟩
          · exact both none (.inl ⟨by simp [slAddr, q1], q2, q3⟩) fun b hb => by cases hb
          · have hown : Own X id := by unfold Own; rw [ho]; exact q1
            refine both (some (X.β id).blk) (.inr ⟨(X.β id).blk, (X.β id).off, cs, ty', rfl, by simp [slAddr, q1], by rw [← hX]; exact q4, q2, q5, q6.low H (by simp +contextual)⟩) fun b hb => ?_
            cases hb
            exact ⟨hown, rfl, fun hg => q3 (by simp at hg; exact hg.1)⟩
        · cases h
      · rename_i id m lo hi
        split at h
        · rename_i e' fr xs ser hl
          cases hq : (Nat.beq e e' && Nat.beq m ser) <;> simp only [hq, cond_false, cond_true] at h
          · cases h
          cases h
          simp only [Bool.and_eq_true] at hq
          have he' := zg hq.1; subst he'
          have ho := lk_rw hlk hl (by simp)
          obtain ⟨v1, v2, hv⟩ := (show RS P X (.sb id m lo hi) vs from hs).2.get (.inl ho) (zg hq.2)
          have hb : (Eng.sub xs lo hi).length + ys.length ≤ most := by simpa using hg (decide ((Eng.sub xs lo hi).length + ys.length ≤ most)) (by simp)
          have hsl := zc0 (lo := lo) v2
          have hok := H.ok id
          unfold AOok at hok
          rw [ho] at hok
          have both : ∀ b0, Base P (Con P X.h (X.F (fr && f)) 7) e w b0 (slAddr P e (X.β id) lo) ((X.β id).cap - lo) (Eng.sub xs lo hi) → (∀ b, b0 = some b → Own X id ∧ (X.β id).blk = b ∧ ((fr && f) = true → K.h0.size ≤ b)) →
              ValRes P K X w ⟨[decide ((Eng.sub xs lo hi).length + ys.length ≤ most)], .sc (.ow id (ser + 1)), [(id, .rw e (fr && f) (Eng.sub xs lo hi ++ ys) (ser + 1))], 0⟩ (Builtin.append_ #[st, u] ty #[vs, vx]) := by
            intro b0 hB hb0
            obtain ⟨v, w', X', r1, r2, r3, r4⟩ := fin id (fr && f) (Eng.sub xs lo hi) (ser + 1) _ _ b0 (by simp +contextual) (.inr ⟨_, _, _, _, ho, Nat.lt_succ_self _⟩) (by rw [hsl]; exact hv) hB hb0 hb
            exact ⟨v, w', X', r1, r2.trans (zb7 _ _ _).symm, r3, r4⟩
          rcases hok with ⟨q1, q2, q3⟩ | ⟨q1, q2, q3, cs, ty', q4, q5, q6⟩
          · exact both none (.inl ⟨by simp [slAddr, q1], by rw [q2]; simp [Eng.sub], by rw [q3]; simp⟩) fun b hb => by cases hb
          · have hown : Own X id := by unfold Own; rw [ho]; exact q1
            have hcur : w.heap[(X.β id).blk]? = some (.cells cs ty' (0, 0)) := by rw [← hX]; exact q4
            have hh : ∀ b, some (X.β id).blk = some b → Own X id ∧ (X.β id).blk = b ∧ ((fr && f) = true → K.h0.size ≤ b) := fun b hb => by
              cases hb
              exact ⟨hown, rfl, fun hg => q3 (by simp at hg; exact hg.1)⟩
            by_cases hlo : lo = (X.β id).cap
            · have hz : Eng.sub xs lo hi = [] := List.eq_nil_of_length_eq_zero (by rw [hsl]; omega)
              refine both (some (X.β id).blk) (.inr ⟨(X.β id).blk, (X.β id).off, cs, ty', rfl, by simp [slAddr, q1, hlo], hcur, by rw [hz]; simp, ?_, by rw [hz]; intro i hi; simp at hi⟩) hh
              rw [hlo, Nat.sub_self, Nat.zero_mul]; omega
            · refine both (some (X.β id).blk) (.inr ⟨(X.β id).blk, (X.β id).off + lo * esz P e, cs, ty', rfl, by simp [slAddr, q1, hlo], hcur, by rw [hsl]; omega, ?_, (q6.sub v2).low H (by simp +contextual)⟩) hh
              rw [Nat.add_assoc, ← Nat.add_mul, show lo + ((X.β id).cap - lo) = (X.β id).cap by omega]; exact q5
        · cases h
      · cases h
  · cases h
end
end Go.Eng
end
section
namespace Go.Eng
open Go
section
variable {P : Program} {K : Kx} {X : Cx} {w : World} {lk : Lk}
theorem zil {α : Type} (l : List α) (h0 : 0 < l.length) : ∀ (n j : Nat), (List.replicate n l).flatten[j]? = if j < n * l.length then l[j % l.length]? else none
  | 0, j => by simp
  | n + 1, j => by
    rw [List.replicate_succ, List.flatten_cons]
    by_cases h : j < l.length
    · rw [List.getElem?_append_left h, if_pos (by rw [Nat.add_mul, Nat.one_mul]; omega), Nat.mod_eq_of_lt h]
    · rw [List.getElem?_append_right (by omega), zil l h0 n (j - l.length), Nat.add_mul, Nat.one_mul]
      have e : (j - l.length) % l.length = j % l.length := by rw [Nat.mod_eq_sub_mod (a := j) (by omega)]
      rw [e]
      by_cases h2 : j - l.length < n * l.length
      · rw [if_pos h2, if_pos (by omega)]
      · rw [if_neg h2, if_neg (by omega)]
theorem zkh (z : Array Value) (h0 : 0 < z.size) (m j : Nat) : (madeCells z m)[j]? = if j < m then z[j % z.size]? else none := by
  have hm := Nat.mod_lt j h0
  unfold madeCells
  rw [Array.getElem?_map, Array.getElem?_range]
  by_cases h : j < m
  · rw [if_pos h, if_pos h]
    simp [hm]
  · rw [if_neg h, if_neg h]; rfl
theorem zrg {xs : List AS} {z : Array Value} (h : RSs P X xs z.toList) (h0 : 0 < xs.length) (n : Nat) : RSs P X (List.replicate n xs).flatten (madeCells z (n * xs.length)).toList := by
  have hl : xs.length = z.size := by simpa using h.length
  refine F2.of_get ?_ fun j x y hx hy => ?_
  · simp [madeCells]
  · rw [zil xs h0] at hx
    have hy' : (madeCells z (n * xs.length))[j]? = some y := by simpa using hy
    rw [zkh z (by omega)] at hy'
    by_cases hj : j < n * xs.length
    · rw [if_pos hj] at hx hy'
      obtain ⟨v, h1, h2⟩ := h.get hx
      rw [← hl] at hy'
      have : z[j % xs.length]? = some v := by simpa using h1
      rw [this] at hy'
      cases hy'
      exact h2
    · rw [if_neg hj] at hx; cases hx
theorem RSs.part {xs : List AS} {vs : List Value} (hf : RSs P X xs vs) : ∀ o n, RSs P X ((xs.drop o).take n) ((vs.drop o).take n) := by
  induction hf with
  | nil => intro o n; simp; exact .nil
  | cons h1 ht ih =>
    intro o n
    cases o with
    | zero =>
      cases n with
      | zero => simp; exact .nil
      | succ n => simp; exact .cons h1 (by have := ih 0 n; simp at this; exact this)
    | succ o => simpa using ih o n
theorem RSs.drop {xs : List AS} {vs : List Value} (hf : RSs P X xs vs) (o : Nat) : RSs P X (xs.drop o) (vs.drop o) := by
  have h1 := hf.part o xs.length
  have hl := hf.length
  rwa [List.take_of_length_le (by simp), List.take_of_length_le (by simp; omega)] at h1
theorem zjk {X' : Cx} {all : List Nat} (H : Heap P K X) (hlk : ∀ id, lk id = X.ob id ∨ lk id = .dead) (hf : Frzd P K X w lk all X') {e : TypeId} {us : Array Value} : ∀ {n : Nat} {l : List AS} {off : Nat} {xs : Rw} {f : Bool} {ids : List Nat},
    RSs P X l (us.toList.drop off) → l.length = n * esz P e → rowsC P lk e (esz P e) n l = some (xs, f, ids) → (∀ id ∈ ids, id ∈ all) → RowAt P (Con P X'.h (X'.F f) 7) e us off xs ∧ xs.length = n
  | 0, l, off, xs, f, ids, hr, hl, h, hids => by
    simp [rowsC] at h; obtain ⟨rfl, rfl, rfl⟩ := h
    exact ⟨fun i hi => by simp at hi, rfl⟩
  | n + 1, l, off, xs, f, ids, hr, hl, h, hids => by
    simp only [rowsC] at h
    split at h
    · cases h
    · rename_i c f1 ids1 h1
      split at h
      · cases h
      · rename_i r f2 ids2 h2
        cases h
        rw [Nat.add_mul, Nat.one_mul] at hl
        have ht : RSs P X (l.take (esz P e)) ((us.toList.drop off).take (esz P e)) := by simpa using hr.part 0 (esz P e)
        obtain ⟨t1, t2⟩ := ze8 H hlk hf ht h1 fun id hi => hids id (by simp [hi])
        have hd : RSs P X (l.drop (esz P e)) (us.toList.drop (off + esz P e)) := by rw [← List.drop_drop]; exact hr.drop (esz P e)
        obtain ⟨r1, r2⟩ := zjk H hlk hf hd (by simp; omega) h2 fun id hi => hids id (by simp [hi])
        have hcl : c.length = esz P e := by rw [t1]; simp; omega
        refine ⟨fun i hi o ho => ?_, by simp [r2]⟩
        cases i with
        | zero =>
          have hget : c[o]? = some (c.getD o (.i 0)) := by
            have : o < c.length := by omega
            simp [List.getD_eq_getElem?_getD, this]
          obtain ⟨v, a, b⟩ := t2 o _ hget
          refine ⟨v, ?_, ?_⟩
          · rw [List.getElem?_take_of_lt ho, List.getElem?_drop] at a
            simpa using a
          · rw [Nat.zero_add] at b
            have hrd : rd (c :: r) 0 o = c.getD o (.i 0) := rfl
            rw [hrd]
            exact b.mono fun _ _ _ hx => Con.mono (fun n hn => F_low (H := hf.stp.heap) (by simp +contextual) hn) (fun _ _ => rfl) hx
        | succ i =>
          obtain ⟨v, a, b⟩ := r1 i (by simpa using hi) o ho
          refine ⟨v, ?_, ?_⟩
          · rw [← a]; congr 1; rw [Nat.add_mul, Nat.one_mul]; omega
          · have hrd : rd (c :: r) (i + 1) o = rd r i o := rfl
            rw [hrd]
            exact b.mono fun _ _ _ hx => Con.mono (fun n hn => F_low (H := hf.stp.heap) (by simp +contextual) hn) (fun _ _ => rfl) hx
theorem zry (H : Heap P K X) (hX : X.h = w.heap) (hlk : ∀ id, lk id = X.ob id ∨ lk id = .dead) {nid : Nat} (hd : X.ob nid = .dead) {t e : TypeId} {n : Nat} {ps : Array (Nat × Operand)} {V : Operand → AV} {ρ : Operand → Value}
    (hV : ∀ x ∈ ps.toList.map (·.2), RV P X (V x) (ρ x)) (he : elOf P t = some e) {z : AV} (hz : zero P e = some z) (hn : n * esz P e ≤ 16777216) (hrk : rowOk P e = true) {cs : List AS}
    (hlay : lay (fun i => some (i * esz P e, esz P e)) (List.replicate n z.cells).flatten ((ps.toList.map (·.1)).zip ((ps.toList.map (·.2)).map V)) = some cs) {xs : Rw} {f : Bool} {ids : List Nat} (hrc : rowsC P lk e (esz P e) n cs = some (xs, f, ids)) :
    ValRes P K X w ⟨[], .sc (.ow nid 0), (nid, .rw e f xs 0) :: frz lk ids, 1⟩ (Instr.buildSlice t n (ps.map fun (i, x) => (i, ρ x))) := by
  have hu := zes he
  obtain ⟨i, zv, za, i1, i2, i3, i4, i5, i6, i7⟩ := zgj (X := X) hrk
  rw [hz] at i3; cases i3
  have hr0 := zrg i4 (by rw [i5]; exact i7) n
  rw [i5] at hr0
  obtain ⟨rs, r1, r2⟩ := zha (fun i => rfl) (F2.parts hV) hr0 hlay
  have hcl : cs.length = n * esz P e := by
    have : ∀ (place : Nat → Option (Nat × Nat)) (ps : List (Nat × AV)) (xs r : List AS), lay place xs ps = some r → r.length = xs.length := by
      intro place ps
      induction ps with
      | nil => intro xs r h; simp [lay] at h; rw [h]
      | cons p ps ih =>
        intro xs r h
        obtain ⟨i, v⟩ := p
        simp only [lay] at h
        split at h
        · cases h
        · rename_i o n _
          cases hc : (!v.cells.isEmpty && (Nat.beq v.cells.length n && Nat.ble (o + n) xs.length)) <;> simp [hc] at h
          rw [ih _ _ h, zff]
    rw [this _ _ _ _ hlay]
    have h1 := hr0.length
    rw [h1]; simp [madeCells]
  obtain ⟨X1, F1⟩ := frzs (w := w) H hX hlk ids
  have hni : nid ∉ ids ∨ True := .inr trivial
  have hd1 : X1.ob nid = .dead := by
    have hk := F1.stp.ext.keep nid
    rw [F1.ob]
    show look (X.ob nid) (frz lk ids) nid = _
    have : ∀ r : List Nat, look (X.ob nid) (frz lk r) nid = .dead := by
      intro r
      induction r with
      | nil => exact hd
      | cons y r ih =>
        unfold frz
        split
        · rename_i hy
          have hne : y ≠ nid := fun h => by
            subst h
            rcases hlk y with h | h <;> rw [hy] at h
            · rw [hd] at h; cases h
            · cases h
          simp only [look, zbq hne, cond_false, ih]
        · exact ih
    exact this ids
  obtain ⟨q1, q2⟩ := zjk (us := rs) (off := 0) H hlk F1 (by simpa using r2) hcl hrc fun _ h => h
  have hrsz : rs.size = n * esz P e := by have := r2.length; rw [hcl] at this; simpa using this.symm
  obtain ⟨X2, a1, a2, a3⟩ := zjr (w := w) (w1 := w) (t := e) F1.stp.heap F1.stp.hX hd1 (e := e) (fr := f) (xs := xs) (us := rs) (cap := n) (by omega) (by omega) q1 rfl rfl rfl rfl
  refine ⟨_, _, X2, ?_, ?_, a2, F1.stp.trans H a3⟩
  · have hsz : (sizeOf e).run P w = .ok (esz P e) w := zgr (by omega) w
    have hle : ¬ (n * esz P e > 2 ^ 24) := by omega
    have hfill : Instr.fill (fun i => some (i * esz P e, esz P e)) (madeCells zv.cells (n * esz P e)) ((ps.map fun (i, x) => (i, ρ x)).toList) = some rs := by rw [Array.toList_map]; exact r1
    unfold madeCells at hfill
    rw [q2]
    simp only [Instr.buildSlice, Sem.run_bind, run_underlying hu, Result.andThen_ok, hsz, if_neg hle, Sem.run_pure]
    by_cases h0 : n * esz P e = 0
    · have hn0 : n = 0 := by
        rcases Nat.mul_eq_zero.1 h0 with h | h
        · exact h
        · omega
      subst hn0
      rw [h0, Array.range_zero', Array.map_empty] at hfill
      simp only [h0, if_true, Sem.run_bind, Sem.run_pure, Result.andThen_ok, Array.range_zero', Array.map_empty, hfill, newRow, run_newObj]
      rfl
    · simp only [h0, if_false, Sem.run_bind, zeroValue, typeInfo, run_program, i1, i2, Result.andThen_ok, Sem.run_pure, hfill, newRow, run_newObj]
      rfl
  · rw [a1, zeq, ← F1.ob]
end
end Go.Eng
end
section
namespace Go.Eng
open Go Go.Lib
section
variable {P : Program} {K : Kx} {X : Cx} {w : World} {lk : Lk}
theorem Frzd.none (H : Heap P K X) (hX : X.h = w.heap) : Frzd P K X w lk [] X := ⟨Stp.refl H hX, rfl, rfl, rfl, fun _ h => by simp at h⟩
theorem zn1 (H : Heap P K X) (hX : X.h = w.heap) (hlk : ∀ id, lk id = X.ob id ∨ lk id = .dead) {nid : Nat} (hd : X.ob nid = .dead) {t e : TypeId} (he : elOf P t = some e) {z : AV} (hz : zero P e = some z) {c : List C}
    (hc : toCs P lk e 0 z.cells = some (c, true, [])) (hby : ebytes P e ≤ 128) (hrk : rowOk P e = true) {k k' : IntKind} {n m : Int} (h0 : 0 ≤ n) (hnm : n = m) (hmost : n ≤ most) :
    ValRes P K X w ⟨[decide (0 ≤ n), n == m, decide (n ≤ most)], .sc (.ow nid 0), [(nid, .rw e true (List.replicate n.toNat c) 0)], 1⟩ (Instr.makeSlice t (.int k n) (.int k' m)) := by
  subst hnm
  have ht := zes he
  obtain ⟨i, zv, za, i1, i2, i3, i4, i5, i6, i7⟩ := zgj (X := X) hrk
  rw [hz] at i3; cases i3
  have hsz : i.size = esz P e := by simp [esz, i1]
  have hb : i.bytes ≤ 128 := by simpa [ebytes, i1] using hby
  unfold most at hmost
  have hbytes : (i.bytes : Int) * n ≤ 281474976710656 := by
    have h1 : (i.bytes : Int) * n ≤ 128 * n := Int.mul_le_mul_of_nonneg_right (by omega) h0
    omega
  have hrun := run_make (P := P) w t e i zv ht i1 i2 k k' n n h0 (Int.le_refl _) hbytes (by omega)
  rw [hsz] at hrun
  obtain ⟨t1, t2⟩ := ze8 H hlk (Frzd.none H hX) i4 hc fun _ h => h
  have hrow : RowAt P (Con P X.h (X.F true) 7) e (madeCells zv.cells (n.toNat * esz P e)) 0 (List.replicate n.toNat c) := by
    intro j hj o ho
    rw [List.length_replicate] at hj
    have hlt : j * esz P e + o < n.toNat * esz P e := by
      have := Nat.mul_le_mul_right (esz P e) (show j + 1 ≤ n.toNat from hj)
      rw [Nat.add_mul] at this; omega
    have hget : c[o]? = some (c.getD o (.i 0)) := by
      have : o < c.length := by omega
      simp [List.getD_eq_getElem?_getD, this]
    obtain ⟨v, a, b⟩ := t2 o _ hget
    refine ⟨v, ?_, ?_⟩
    · rw [Nat.zero_add, zkh _ (by omega), if_pos hlt, i6]
      have : (j * esz P e + o) % esz P e = o := by rw [Nat.mul_comm, Nat.mul_add_mod, Nat.mod_eq_of_lt ho]
      rw [this]; simpa using a
    · have hrd : rd (List.replicate n.toNat c) j o = c.getD o (.i 0) := by
        have : (List.replicate n.toNat c).getD j [] = c := by simp [List.getD_eq_getElem?_getD, hj]
        simp only [rd, this]
      rw [hrd]; simpa using b
  obtain ⟨X2, a1, a2, a3⟩ := zjr (w := w) (w1 := w) (t := e) H hX hd (e := e) (fr := true) (xs := List.replicate n.toNat c) (us := madeCells zv.cells (n.toNat * esz P e)) (cap := n.toNat) (by simp) (by simp [madeCells]) hrow rfl rfl rfl rfl
  refine ⟨_, _, X2, hrun, a1.trans (zb7 _ _ _).symm, ?_, a3⟩
  simpa using a2
theorem znm (H : Heap P K X) (hX : X.h = w.heap) {nid : Nat} (hd : X.ob nid = .dead) {src dst e : TypeId} {u : TypeDesc} (hs : P.underlying src = some u) (hdst : P.underlying dst = some (.slice e)) (he : P.underlying e = some (.int .u8)) (h1 : esz P e = 1) (z : ByteArray) :
    ValRes P K X w ⟨[], .sc (.ow nid 0), [(nid, .fz e true (rowsOf z) 0)], 1⟩ (convert src dst (.string z)) := by
  have hrun := run_convert_string_bytes (P := P) w src dst e z hs hdst he
  have hcap := grownCap_ge w z.size 0 e
  refine ⟨_, bytesWorld w e z, X.new nid (locAt w (grownCap w z.size 0 e)) (.fz e true (rowsOf z) 0) (bytesWorld w e z).heap true, hrun, (zb7 _ _ _).symm, ?_, ?_⟩
  · refine ⟨⟨_, _, _, rfl⟩, RefRw.mk (.inr (upd_same _ _ _)) rfl ?_⟩
    simp [Cx.new, locAt, slAddr, zdj]
  · refine Stp.new H hX hd (bytesWorld_size w e z) (fun b hb => bytesWorld_at_old w e z b hb) rfl rfl rfl rfl (fun _ ho => by unfold Own at ho; simp [Cx.new] at ho) fun E => ?_
    unfold AOok
    simp only [Cx.new, upd_same]
    refine .inr ⟨rfl, by rw [zdj]; exact hcap, by simp, _, e, _, bytesWorld_at_new w e z, fun i hi o ho => ?_⟩
    have ho0 : o = 0 := by omega
    subst ho0
    rw [zdj] at hi
    have hi' : i < z.data.toList.length := by simpa using hi
    refine ⟨.int .u8 ((z.data.toList[i]).toNat : Int), ?_, ?_⟩
    · have hlt : i < (z.data.map fun b => Value.int .u8 (b.toNat : Int)).size := by simpa using hi
      have hidx : (locAt w (grownCap w z.size 0 e)).off + i * esz P e + 0 = i := by simp [locAt, h1]
      rw [hidx]
      unfold bytesCells
      rw [Array.getElem?_append_left hlt, Array.getElem?_map, Array.getElem?_eq_getElem (by simpa using hi)]
      simp
    · have hk : ck P e 0 = .i .u8 := by simp [ck, kinds, he]
      rw [hk]
      have : (rowsOf z).getD i [] = [C.i ((z.data.toList[i]).toNat : Int)] := by
        simp only [rowsOf, List.getD_eq_getElem?_getD, List.getElem?_map, List.getElem?_eq_getElem hi']; rfl
      simp only [CellOk, rd, this]
      rfl
theorem zoi (H : Heap P K X) (hX : X.h = w.heap) (hlk : ∀ id, lk id = X.ob id ∨ lk id = .dead) {t : TypeId} {m k x : AV} {vm vk vx : Value} (hm : RV P X m vm) (hk : RV P X k vk) (hx : RV P X x vx) {r : AR} (h : amapup P lk t m k x = some r) :
    UnitRes P K X w r (Instr.mapUpdate t vm vk vx) := by
  unfold amapup at h
  split at h
  · rename_i id k x
    split at h
    · rename_i kt vt kt' vt' es hu hl
      cases hb : (Nat.beq kt kt' && Nat.beq vt vt') <;> simp only [hb, cond_false, cond_true] at h
      · cases h
      simp only [Bool.and_eq_true] at hb
      have e1 := zg hb.1; have e2 := zg hb.2; subst e1 e2
      split at h
      · rename_i kc vc h1 h2
        cases h
        have ho := lk_rw hlk hl (by simp)
        obtain ⟨kk, hp, hpk⟩ := zf5 h1
        have hkc := ze3 hk h1
        rw [hpk] at hkc
        have hvc := ze3 hx h2
        have hud : ∃ d, P.underlying kt = some d := by
          rcases zdm hp with ⟨_, hu⟩ | ⟨_, hu⟩ | ⟨j, _, hu⟩ <;> exact ⟨_, hu⟩
        obtain ⟨d, hud⟩ := hud
        have hv : vm = .map (some (X.β id).blk) := by
          have := (show RefMp X id _ from hm)
          unfold RefMp at this
          rw [ho] at this
          exact this
        subst hv
        have hk2 := H.ok id
        unfold AOok at hk2
        rw [ho] at hk2
        obtain ⟨ents, clock, a1, a2⟩ := hk2
        have hg : w.heap[(X.β id).blk]? = some (.map ents clock) := by rw [← hX]; exact a1
        have hlt : (X.β id).blk < w.heap.size := (Array.getElem?_eq_some_iff.1 hg).1
        obtain ⟨res, r1, r2, r3⟩ := zf6 hp hud hkc 0 a2
        have hfind := zld (w := w) hud r1
        have hset : ∀ o', (setObj (X.β id).blk o').run P w = .ok () { w with heap := w.heap.setIfInBounds (X.β id).blk o' } := by
          intro o'; simp [setObj, Sem.run, hg]
        have hown : Own X id := by unfold Own; rw [ho]; trivial
        have fin : ∀ (ents' : Array MapEntry) (clock' : Nat), MapOk P kt vt (mput kk kc vc es) ents'.toList → (Instr.mapUpdate t (.map (some (X.β id).blk)) vk vx).run P w = .ok () { w with heap := w.heap.setIfInBounds (X.β id).blk (.map ents' clock') } →
            UnitRes P K X w ⟨[], .sc .ud, [(id, .mp kt vt (mput (pk P kt) kc vc es))], 0⟩ (Instr.mapUpdate t (.map (some (X.β id).blk)) vk vx) := by
          intro ents' clock' hmo hrun
          refine ⟨rfl, _, X.wrt id (X.β id) (.mp kt vt (mput (pk P kt) kc vc es)) (w.heap.setIfInBounds (X.β id).blk (.map ents' clock')), hrun, (zb7 _ _ _).symm, ?_⟩
          refine Stp.write (w' := { w with heap := w.heap.setIfInBounds (X.β id).blk (.map ents' clock') }) H hX hown (by simp) (fun b hb => ?_) rfl rfl rfl rfl ?_ (fun E => ?_) (fun cells' hc' => ?_)
          · show (w.heap.setIfInBounds _ _)[b]? = _
            rw [Array.getElem?_setIfInBounds, if_neg (Ne.symm hb)]
          · unfold Keeps; rw [ho]; exact ⟨⟨_, _, _, upd_same _ _ _⟩, upd_same _ _ _⟩
          · unfold AOok
            simp only [Cx.wrt, upd_same]
            refine ⟨ents', clock', ?_, by rw [hpk]; exact hmo⟩
            show (w.heap.setIfInBounds _ _)[_]? = _
            rw [Array.getElem?_setIfInBounds, if_pos rfl, if_pos hlt]
          · rw [ho] at hc'; cases hc'
        rcases r2 with ⟨b1, b2⟩ | ⟨j, v, c, b1, b2, b3, b4, b5⟩
        · refine fin (ents.push { key := vk, val := vx, born := clock }) (clock + 1) (by rw [Array.toList_push]; exact r3 b1 vx vc clock hvc) ?_
          subst b1
          unfold Instr.mapUpdate
          simp only [Sem.run_bind, run_underlying hu, Result.andThen_ok, zgt hg, ze2 hp, hfind, hset]
        · obtain ⟨c1, c2⟩ := b5 vx vc hvc
          subst b1
          have hj : j < ents.size := by simpa using b4
          have hold : ((ents[0 + j]?).map (·.key)).getD vk = ents[j].key := by
            rw [Nat.zero_add, Array.getElem?_eq_getElem hj]; rfl
          have hsame : Instr.sameBits 10000 ents[j].key vk = true := c1 ents[j] (by rw [Array.getElem?_toList, Array.getElem?_eq_getElem hj])
          refine fin (ents.modify (0 + j) fun e => { e with key := vk, val := vx }) clock (by rw [Array.toList_modify, Nat.zero_add]; exact c2) ?_
          unfold Instr.mapUpdate
          simp only [Sem.run_bind, run_underlying hu, Result.andThen_ok, zgt hg, ze2 hp, hfind, hold, Instr.keyThatStays, hsame, if_true, Sem.run_pure, hset]
      · cases h
    · cases h
  · cases h
theorem zrr (H : Heap P K X) (hX : X.h = w.heap) (hlk : ∀ id, lk id = X.ob id ∨ lk id = .dead) {nid : Nat} {src dst : TypeId} {a : AV} {va : Value} (ha : RV P X a va) {r : AR} (h : aconv P lk nid src dst a = some r)
    (hd : r.nn ≠ 0 → X.ob nid = .dead) : ValRes P K X w r (convert src dst va) := by
  by_cases hn : r.nn = 0
  · exact zow H hX hlk ha h hn
  · unfold aconv at h
    split at h
    · rename_i x
      split at h
      · unfold sc at h; cases h; simp at hn
      · unfold sc at h; cases h; simp at hn
      · rename_i e z h1 h2
        split at h
        · rename_i h3
          cases hb : Nat.beq (esz P e) 1 <;> simp only [hb, cond_false, cond_true] at h
          · cases h
          cases h
          simp only [RV, RS] at ha
          subst ha
          exact znm H hX (hd hn) h1 h2 h3 (zg hb) z
        · cases h
      · rename_i e h1 h2
        split at h
        · rename_i e' fr xs ids h3 h4
          cases hb : (fits e e' && Nat.beq (esz P e) 1) <;> simp only [hb, cond_false, cond_true] at h
          · cases h
          unfold sc at h; cases h; simp at hn
        · cases h
      · cases h
    · cases h
end
end Go.Eng
end
section
namespace Go.Eng
open Go
section
variable {P : Program} {K : Kx} {X : Cx} {w : World} {lk : Lk}
def OpRes (P : Program) (K : Kx) (X : Cx) (w : World) (r : AR) (s : Sem Next) : Prop :=
  ∃ n v w' X', s.run P w = .ok n w' ∧ (n = .value v ∨ (n = .skip ∧ v = undef)) ∧ X'.ob = updl X.ob r.ws ∧ RV P X' r.v v ∧ Stp P K X w X' w'
theorem OpRes.val {r : AR} {s : Sem Value} (h : ValRes P K X w r s) : OpRes P K X w r (do pure (.value (← s))) := by
  obtain ⟨v, w', X', h1, h2, h3, h4⟩ := h
  exact ⟨_, v, w', X', by simp only [Sem.run_bind, h1, Result.andThen_ok, Sem.run_pure], .inl rfl, h2, h3, h4⟩
theorem OpRes.unit {r : AR} {s : Sem Unit} (h : UnitRes P K X w r s) : OpRes P K X w r (do s; pure .skip) := by
  obtain ⟨h0, w', X', h1, h2, h3⟩ := h
  exact ⟨_, undef, w', X', by simp only [Sem.run_bind, h1, Result.andThen_ok, Sem.run_pure], .inr ⟨rfl, rfl⟩, h2, by rw [h0]; rfl, h3⟩
theorem OpRes.now {r : AR} {v : Value} (H : Heap P K X) (hX : X.h = w.heap) (hw : r.ws = []) (hv : RV P X r.v v) : OpRes P K X w r (pure (.value v)) :=
  ⟨_, v, w, X, rfl, .inl rfl, by rw [hw]; rfl, hv, Stp.refl H hX⟩
theorem zrn (H : Heap P K X) (hX : X.h = w.heap) (hlk : ∀ id, lk id = X.ob id ∨ lk id = .dead) {b : Builtin} {ats : Array TypeId} {nid : Nat} {vs : List AV} {us : List Value} (hv : F2 (RV P X) vs us) {r : AR} (h : acall P b ats lk nid vs = some r)
    (hg : ∀ b ∈ r.gs, b = true) (hd : r.nn ≠ 0 → X.ob nid = .dead) (ty : TypeId) (cs : Array Bool) : OpRes P K X w r (builtin b ats ty cs us.toArray) := by
  unfold acall at h
  split at h
  · rename_i z
    split at h
    · rename_i hu
      unfold sc at h; cases h
      cases hv with
      | cons h1 ht =>
        cases ht
        simp only [RV, RS] at h1
        subst h1
        obtain ⟨t, ht, hu⟩ := Option.bind_eq_some_iff.1 hu
        refine .val (s := Builtin.len_ ats ty _) (.pure (v := .int .i64 (z.size : Int)) H hX rfl ?_ rfl)
        simp [Builtin.len_, ht, run_underlying hu, goInt]
    · cases h
  · rename_i x _
    split at h
    · rename_i e hu
      split at h
      · rename_i e' fr xs ids hc
        unfold sc at h; cases h
        cases hv with
        | cons h1 ht =>
          cases ht
          rename_i v
          obtain ⟨t, ht, hu⟩ := Option.bind_eq_some_iff.1 hu
          have hrd : ∃ A cap, v = .slice A xs.length cap := by
            cases e' with
            | none => obtain ⟨A, cap, h, _⟩ := zfh H hlk h1 hc (e := 0) rfl; exact ⟨A, cap, h⟩
            | some e' => obtain ⟨A, cap, h, _⟩ := zfh H hlk h1 hc (e := e') (by simp [fits]); exact ⟨A, cap, h⟩
          obtain ⟨A, cap, rfl⟩ := hrd
          refine .val (s := Builtin.len_ ats ty _) (.pure (v := .int .i64 (xs.length : Int)) H hX rfl ?_ rfl)
          simp [Builtin.len_, ht, run_underlying hu, goInt]
      · cases h
    · cases h
  · rename_i s x
    split at h
    · rename_i st u hats
      have hats' : ats = #[st, u] := by rw [← hats]
      subst hats'
      cases hv with
      | cons h1 ht =>
        cases ht with
        | cons h2 ht =>
          cases ht
          rename_i v1 v2
          have key : ∀ d, P.underlying u = some d → (∀ k, d ≠ .int k) → aappend P lk nid st s x = some r → OpRes P K X w r (builtin .append #[st, u] ty cs #[v1, v2]) := by
            intro d hu hdk h
            exact .val (s := Builtin.append_ #[st, u] ty _) (zqy H hX hlk hu hdk h1 h2 h hg hd)
          split at h
          · rename_i hu; exact key _ hu (by simp) h
          · rename_i hu; exact key _ hu (by simp) h
          · cases h
    · cases h
  · rename_i k a r'
    split at h
    · rename_i x hx
      unfold sc at h; cases h
      cases hv with
      | cons h1 ht =>
        simp only [RV, RS] at h1
        subst h1
        obtain ⟨v, m1, m2⟩ := ze9 (w := w) (mx := true) ht hx
        refine .val (s := Builtin.max_ ats ty _) (.pure (v := v) H hX rfl ?_ m2)
        simpa [Builtin.max_] using m1
    · cases h
  · rename_i k a r'
    split at h
    · rename_i x hx
      unfold sc at h; cases h
      cases hv with
      | cons h1 ht =>
        simp only [RV, RS] at h1
        subst h1
        obtain ⟨v, m1, m2⟩ := ze9 (w := w) (mx := false) ht hx
        refine .val (s := Builtin.min_ ats ty _) (.pure (v := v) H hX rfl ?_ m2)
        simpa [Builtin.min_] using m1
    · cases h
  · cases h
theorem zr1 (H : Heap P K X) (hX : X.h = w.heap) (hlk : ∀ id, lk id = X.ob id ∨ lk id = .dead) {a : AV} {va : Value} (ha : RV P X a va) {r : AR} (h : anil lk a = some r) : (∃ A, va = .pointer (some A)) ∧ r.ws = [] ∧ RV P X r.v va ∧ r.gs = [] := by
  unfold anil at h
  split at h
  · unfold sc at h; cases h
    exact ⟨⟨_, (show RefBx X _ _ from ha).get⟩, rfl, ha, rfl⟩
  · unfold sc at h; cases h
    obtain ⟨_, _, _, _, _, h, _⟩ := (show RS P X (.pe _ _ _ _ _) va from ha)
    exact ⟨⟨_, h⟩, rfl, ha, rfl⟩
  · rename_i id n ix o
    cases hn : now lk id n <;> simp [hn, sc] at h
    subst h
    obtain ⟨e, fr, xs, ser, ho, hs⟩ := zlx hlk hn
    obtain ⟨_, _, hv⟩ := (show RS P X (.po id n ix o) va from ha).2.get ho hs
    exact ⟨⟨_, hv⟩, rfl, ha, rfl⟩
  · cases h
theorem zkk : ∀ {vs : List AV} {us : List Value} {caps : List (Nat × Nat)}, F2 (RV P X) vs us → capsOf vs = some caps → (∀ c ∈ caps, RefBx X c.1 True) ∧ us = caps.map fun c => Value.pointer (some ((X.β c.1).ptr c.2))
  | [], us, caps, hf, h => by cases hf; simp [capsOf] at h; subst h; simp
  | v :: vs, us, caps, hf, h => by
    cases hf with
    | cons h1 ht =>
      unfold capsOf at h
      split at h
      · cases (by assumption : v :: vs = [])
      · rename_i id off r heq
        cases heq
        split at h
        · rename_i cs hc
          cases h
          obtain ⟨a, b⟩ := zkk ht hc
          have hr := (show RefBx X id _ from h1)
          refine ⟨fun c hc => ?_, by rw [b, hr.get]; rfl⟩
          rcases List.mem_cons.1 hc with rfl | hc
          · exact hr.imp fun _ => trivial
          · exact a c hc
        · cases h
      · cases h
theorem F2.of_map {l : List Operand} {V : Operand → AV} {ρ : Operand → Value} (h : ∀ x ∈ l, RV P X (V x) (ρ x)) : F2 (RV P X) (l.map V) (l.map ρ) := by
  induction l with
  | nil => exact .nil
  | cons x l ih => exact .cons (h x (by simp)) (ih fun y hy => h y (by simp [hy]))
set_option maxHeartbeats 1000000 in
theorem zn5 (H : Heap P K X) (hX : X.h = w.heap) (hlk : ∀ id, lk id = X.ob id ∨ lk id = .dead) {o : Oper} {V : Operand → AV} {ρ : Operand → Value} (hV : ∀ x ∈ o.op.operands.toList, RV P X (V x) (ρ x)) (hgl : ∀ g, ∃ ad, ρ (.global g) = .pointer (some ad)) {nid : Nat} {r : AR}
    (h : acore P o.op lk nid (o.op.operands.toList.map V) = some r) (hg : ∀ b ∈ r.gs, b = true) (hd : r.nn ≠ 0 → X.ob nid = .dead) : OpRes P K X w r (execOp ρ o) := by
  unfold execOp
  cases hop : o.op <;> rw [hop] at h hV <;> simp only [acore, Op.operands, List.map_cons, List.map_nil] at h <;> (try (cases h; done)) <;> simp only [Op.operands, List.mem_cons, List.not_mem_nil, or_false, forall_eq_or_imp, forall_eq] at hV
  case move x => unfold AR.pure at h; cases h; exact .now H hX rfl hV
  case assign x => unfold AR.pure at h; cases h; exact .now H hX rfl hV
  case pick c a b =>
    obtain ⟨h1, h2, h3⟩ := hV
    unfold apick at h
    split at h
    · rename_i cb hc
      unfold AR.pure at h; cases h
      rw [hc] at h1
      simp only [RV, RS] at h1
      refine ⟨Next.value (if cb then ρ a else ρ b), if cb then ρ a else ρ b, w, X, ?_, .inl rfl, rfl, ?_, Stp.refl H hX⟩
      · show Sem.run P (do let b1 ← asBool (ρ c); pure (Next.value (if b1 = true then ρ a else ρ b))) w = _
        simp only [h1, asBool, Sem.run_bind, Sem.run_pure, Result.andThen_ok]
      · cases cb <;> assumption
    · cases h
  case alloc t =>
    split at h
    · rename_i z hz; cases h; exact .val (zoc H hX (hd (by simp)) hz _)
    · cases h
  case box t x =>
    unfold abox at h
    split at h
    · cases h
    · cases h; exact .val (zor H hX (hd (by simp)) hV)
  case build t ps =>
    unfold abuild at h
    split at h
    · rename_i z fs hz hu
      cases hc : (fs.toList.all fun f => (P.info? f.type).isSome) <;> simp only [hc, cond_false, cond_true] at h
      · cases h
      split at h
      · rename_i cs hl
        unfold AR.pure at h; cases h
        exact .val (zqo H hX (fun x hx => hV x (by simpa using hx)) hz hu hc hl)
      · cases h
    · cases h
  case buildSlice t n ps =>
    unfold abuildSlice at h
    split at h
    · cases h
    · rename_i e he
      split at h
      · cases h
      · rename_i z hz
        cases hc : (Nat.ble (n * esz P e) 16777216 && rowOk P e) <;> simp only [hc, cond_false, cond_true] at h
        · cases h
        simp only [Bool.and_eq_true] at hc
        split at h
        · cases h
        · rename_i cs hl
          split at h
          · rename_i xs f ids hr
            cases h
            exact .val (zry H hX hlk (hd (by simp)) (fun x hx => hV x (by simpa using hx)) he hz (Nat.le_of_ble_eq_true hc.1) hc.2 hl hr)
          · cases h
  case load t x =>
    cases x with
    | global gl =>
      simp only at h
      cases hb : (isAg P t && Nat.beq (esz P t) 0) <;> simp only [hb, cond_false, cond_true] at h
      · cases h
      unfold AR.pure at h; cases h
      simp only [Bool.and_eq_true] at hb
      obtain ⟨ad, had⟩ := hgl gl
      obtain ⟨dd, hu⟩ : ∃ dd, P.underlying t = some dd := by
        have := hb.1
        unfold isAg at this
        cases hu : P.underlying t with
        | none => rw [hu] at this; cases this
        | some dd => exact ⟨dd, rfl⟩
      have hz := zg hb.2
      refine .val (.pure (v := .agg #[]) H hX rfl ?_ ⟨#[], rfl, .nil⟩)
      have hl := run_loadCells_list (P := P) w ad [] (by intro j v hj; simp at hj)
      simp only [had, Instr.loadAt, Instr.sureAddr, Sem.run_bind, Sem.run_pure, Result.andThen_ok, loadVar, zej hu, hb.1, if_true, zgv hu, hz]
      simp only [List.length_nil] at hl
      rw [hl]; rfl
    | _ => exact .val (zsh H hX hlk hV h)
  case store t x y => exact .unit (zqi H hX hlk hV.1 hV.2 h)
  case nilCheck x =>
    obtain ⟨⟨A, hA⟩, h2, h3, h4⟩ := zr1 H hX hlk hV h
    simp only [hA]
    rw [hA] at h3
    exact .now H hX h2 h3
  case binOp op xt x y yt => exact .val (zof H hX hV.1 hV.2 h hg)
  case unOp op xt x => exact .val (zs1 H hX hV h)
  case convert s d x => exact .val (zrr H hX hlk hV h hd)
  case makeFunc fn first captured =>
    cases fn <;> simp only [acore] at h <;> try (cases h; done)
    rename_i f
    cases hc : Nat.beq first.size 0 <;> simp only [hc, cond_false, cond_true] at h
    · cases h
    have hf : first = #[] := Array.eq_empty_of_size_eq_zero (zg hc)
    subst hf
    split at h
    · rename_i caps hcp
      unfold sc at h; cases h
      obtain ⟨a, b⟩ := zkk (F2.of_map (ρ := ρ) fun x hx => hV x hx) hcp
      refine .val (s := Instr.makeFunc (.func f) (Array.map ρ #[]) (Array.map ρ captured)) (.pure H hX rfl rfl ⟨a, ?_⟩)
      have : (captured.map ρ) = (caps.map fun c => Value.pointer (some ((X.β c.1).ptr c.2))).toArray := by
        apply Array.ext'
        rw [Array.toList_map, ← b]
        simp
      rw [this, Array.map_empty]
    · cases h
  case makeMap t rs =>
    cases rs <;> simp only [acore] at h
    · split at h
      · cases h; exact .val (zoa H hX (hd (by simp)))
      · cases h
    · cases h
  case makeSlice t n m =>
    unfold amake at h
    split at h
    · rename_i k n k' m hn hm
      split at h
      · cases h
      · rename_i e he
        split at h
        · cases h
        · rename_i z hz
          split at h
          · rename_i c hc
            cases hb : (Nat.ble (ebytes P e) 128 && rowOk P e) <;> simp only [hb, cond_false, cond_true] at h
            · cases h
            cases h
            simp only [Bool.and_eq_true] at hb
            rw [hn, hm] at hV
            simp only [RV, RS] at hV
            have g1 : 0 ≤ n := by simpa using hg (decide (0 ≤ n)) (by simp)
            have g2 : n = m := by simpa using hg (n == m) (by simp)
            have g3 : n ≤ most := by simpa using hg (decide (n ≤ most)) (by simp)
            have := zn1 (k := k) (k' := k') H hX hlk (hd (by simp)) he hz hc (Nat.le_of_ble_eq_true hb.1) hb.2 g1 g2 g3
            rw [← hV.1, ← hV.2] at this
            exact .val this
          · cases h
    · cases h
  case slice t x lo hi mx =>
    cases mx with
    | some m => simp only [acore] at h; cases h
    | none =>
      cases lo with
      | none =>
        cases hi with
        | none =>
          simp only [acore, Option.toArray, Array.append_empty, List.map_cons, List.map_nil, optAt] at h
          exact .val (zfs H hX hlk (hV x (by simp)) (lo := none) (hi := none) (vlo := none) (vhi := none) trivial trivial h hg)
        | some y =>
          simp only [acore, Option.toArray, List.map_cons, List.map_nil, optAt] at h
          exact .val (zfs H hX hlk (hV x (by simp)) (lo := none) (hi := some (V y)) (vlo := none) (vhi := some (ρ y)) trivial (hV y (by simp)) h hg)
      | some l =>
        cases hi with
        | none =>
          simp only [acore, Option.toArray, List.map_cons, List.map_nil, optAt] at h
          exact .val (zfs H hX hlk (hV x (by simp)) (lo := some (V l)) (hi := none) (vlo := some (ρ l)) (vhi := none) (hV l (by simp)) trivial h hg)
        | some y =>
          simp only [acore, Option.toArray, List.map_cons, List.map_nil, optAt] at h
          exact .val (zfs H hX hlk (hV x (by simp)) (lo := some (V l)) (hi := some (V y)) (vlo := some (ρ l)) (vhi := some (ρ y)) (hV l (by simp)) (hV y (by simp)) h hg)
  case fieldAddr s x f => exact .val (zqa H hX hlk hV h)
  case field s x f =>
    unfold afieldV at h
    split at h
    · rename_i cs hcs
      split at h
      · cases h
      · rename_i fd hf
        split at h
        · cases h
        · rename_i d hu
          rw [hcs] at hV
          exact .val (zph H hX hV hf hu h)
    · cases h
  case indexAddr t x i => exact .val (zno H hX hlk hV.1 hV.2 h hg)
  case index t x i =>
    unfold aindexS at h
    split at h
    · rename_i z k n h1 h2
      split at h
      · rename_i hu
        cases h
        rw [h1, h2] at hV
        simp only [RV, RS] at hV
        have := zqb (k := k) H hX hu (hg _ (List.mem_singleton.2 rfl))
        rw [← hV.1, ← hV.2] at this
        exact .val this
      · cases h
    · cases h
  case lookup t m k ok => exact .val (zpv H hX hlk hV.1 hV.2 h)
  case mapUpdate t m k x => exact .unit (zoi H hX hlk hV.1 hV.2.1 hV.2.2 h)
  case extract t ix => exact .val (zmu H hX hV h)
  case call c =>
    split at h
    · rename_i b hb
      have hops : c.operands.toList = c.args.toList := by unfold Call.operands; rw [hb]; simp
      rw [hops] at h hV
      have := zrn H hX hlk (F2.of_map (ρ := ρ) fun x hx => hV x hx) h hg hd o.type (c.args.map fun | .const _ => true | _ => false)
      show OpRes P K X w r (do let d ← resolve ρ c o.type; invoke d.target d.args)
      have e : (do let d ← resolve ρ c o.type; invoke d.target d.args) = builtin b c.argTypes o.type (c.args.map fun | .const _ => true | _ => false) (c.args.toList.map ρ).toArray := by
        unfold resolve
        rw [hb]
        simp only [pure_bind, invoke]
        congr 1
        apply Array.ext'
        simp
      rw [e]; exact this
    · cases h
end
end Go.Eng
end
section
namespace Go.Eng
open Go
structure Le (E E' : Env) : Prop where
  lv : ∃ l, E'.lv = l ++ E.lv
  n : E.n = E.lv.length → E'.n = E'.lv.length
  ids : ∀ j b, bd E.ids j = some b → bd E'.ids j = some b
  bo : ∀ id ∈ E.bo, id ∈ E'.bo
  af : E'.af = true → E.af = true
theorem Le.refl (E : Env) : Le E E := ⟨⟨[], rfl⟩, id, fun _ _ h => h, fun _ h => h, id⟩
theorem Le.trans {E F G : Env} (h : Le E F) (k : Le F G) : Le E G :=
  ⟨by obtain ⟨a, ha⟩ := h.lv; obtain ⟨b, hb⟩ := k.lv; exact ⟨b ++ a, by rw [hb, ha, List.append_assoc]⟩, fun e => k.n (h.n e), fun j b hb => k.ids j b (h.ids j b hb), fun i hi => k.bo i (h.bo i hi), fun e => h.af (k.af e)⟩
theorem Le.leaf {E E' : Env} (h : Le E E') {n : Nat} {x : Lf} (hx : E.lv.reverse[n]? = some x) : E'.lv.reverse[n]? = some x := by
  obtain ⟨l, hl⟩ := h.lv
  rw [hl, List.reverse_append, List.getElem?_append_left]
  · exact hx
  · exact (List.getElem?_eq_some_iff.1 hx).1
theorem zcu {E E' : Env} {n : Nat} {x : Lf} (h : E.push n x = some E') : Le E E' ∧ (E.n = E.lv.length → E'.lv.reverse[n]? = some x) ∧ E'.ids = E.ids ∧ E'.bo = E.bo ∧ E'.af = E.af := by
  unfold Env.push at h
  cases hb : Nat.beq n E.n <;> simp [hb] at h
  subst h
  have := zg hb; subst this
  refine ⟨⟨⟨[x], rfl⟩, fun e => by simp [e], fun _ _ h => h, fun _ h => h, fun h => h⟩, fun e => ?_, rfl, rfl, rfl⟩
  simp [e]
theorem zju {ids : List (Nat × Bd)} {j k : Nat} {b c : Bd} (hn : bd ids j = none) (h : bd ids k = some c) : bd ((j, b) :: ids) k = some c := by
  simp only [bd]
  cases hb : Nat.beq j k
  · simpa using h
  · have := zg hb; subst this; rw [hn] at h; cases h
theorem zig {ids : List (Nat × Bd)} {j : Nat} {b : Bd} : bd ((j, b) :: ids) j = some b := by simp [bd]
theorem zfu {E E' : Env} {j id base : Nat} (h : E.bind j id base = some E') : Le E E' ∧ bd E'.ids j = some (.o id base) ∧ (E.n = E.lv.length → E'.n = E'.lv.length) := by
  unfold Env.bind at h
  split at h
  · rename_i hn
    cases h
    exact ⟨⟨⟨[], rfl⟩, fun e => e, fun k b hb => zju hn hb, fun _ h => h, fun h => h⟩, zig, fun e => e⟩
  · rename_i id' base' hb
    cases hc : (Nat.beq id id' && Nat.beq base base') <;> simp [hc] at h
    subst h
    simp only [Bool.and_eq_true] at hc
    have e1 := zg hc.1; have e2 := zg hc.2; subst e1 e2
    exact ⟨Le.refl E, hb, fun e => e⟩
  · cases h
theorem zh0 {E E' : Env} {j : Nat} {b : Bd} (h : E.bindNew j b = some E') : Le E E' ∧ bd E'.ids j = some b := by
  unfold Env.bindNew at h
  split at h
  · rename_i hn
    cases h
    exact ⟨⟨⟨[], rfl⟩, fun e => e, fun k b hb => zju hn hb, fun _ h => h, fun h => h⟩, zig⟩
  · cases h
theorem zlt : ∀ {ps cs : List (Nat × Nat)} {E E' : Env}, mcaps ps cs E = some E' → Le E E' ∧ F2 (fun (p c : Nat × Nat) => ∃ base, bd E'.ids p.1 = some (.o c.1 base) ∧ base + p.2 = c.2) ps cs
  | [], [], E, E', h => by simp [mcaps] at h; subst h; exact ⟨Le.refl E, .nil⟩
  | (j, o) :: ps, (id, o') :: cs, E, E', h => by
    simp only [mcaps] at h
    cases hb : Nat.ble o o' <;> simp [hb] at h
    split at h
    · rename_i E1 h1
      obtain ⟨a1, a2, _⟩ := zfu h1
      obtain ⟨b1, b2⟩ := zlt h
      refine ⟨a1.trans b1, .cons ⟨o' - o, b1.ids _ _ a2, ?_⟩ b2⟩
      have := Nat.le_of_ble_eq_true hb
      show o' - o + o = o'
      omega
    · cases h
  | [], _ :: _, _, _, h => by simp [mcaps] at h
  | _ :: _, [], _, _, h => by simp [mcaps] at h
def Met (lk : Lk) (Ef : Env) (p : PS) (x : AS) : Prop := match p with
  | .un => True
  | .i k n => ∃ m, x = .i k m ∧ Ef.lv.reverse[n]? = some (.i m)
  | .b n => ∃ m, x = .b m ∧ Ef.lv.reverse[n]? = some (.b m)
  | .s n => ∃ m, x = .s m ∧ Ef.lv.reverse[n]? = some (.s m)
  | .fz e fr n => ∃ e' fr' xs ids, content lk x = some (e', fr', xs, ids) ∧ fits e e' = true ∧ (fr = true → fr' = true) ∧ (∀ id ∈ ids, id ∈ Ef.bo) ∧ (Ef.af = true → fr' = true) ∧ Ef.lv.reverse[n]? = some (.l xs)
  | .ow j => (∃ id m e fr xs ser, x = .ow id m ∧ lk id = .rw e fr xs ser ∧ m = ser ∧ bd Ef.ids j = some (.o id 0)) ∨
      (∃ id m lo hi e fr xs ser, x = .sb id m lo hi ∧ lk id = .rw e fr xs ser ∧ m = ser ∧ bd Ef.ids j = some (.sb id lo hi)) ∨ (x = .ns ∧ bd Ef.ids j = some .nil)
  | .pt j o => ∃ id o' base, x = .pt id o' ∧ base + o = o' ∧ bd Ef.ids j = some (.o id base)
  | .fn f caps => ∃ caps', x = .fn f caps' ∧ F2 (fun (p c : Nat × Nat) => ∃ base, bd Ef.ids p.1 = some (.o c.1 base) ∧ base + p.2 = c.2) caps caps'
  | .mp j => ∃ id, x = .mp id ∧ bd Ef.ids j = some (.o id 0)
theorem Met.mono {lk : Lk} {E E' : Env} (h : Le E E') {p : PS} {x : AS} (hm : Met lk E p x) : Met lk E' p x := by
  cases p <;> simp only [Met] at hm ⊢
  case i k n => obtain ⟨m, a, b⟩ := hm; exact ⟨m, a, h.leaf b⟩
  case b n => obtain ⟨m, a, b⟩ := hm; exact ⟨m, a, h.leaf b⟩
  case s n => obtain ⟨m, a, b⟩ := hm; exact ⟨m, a, h.leaf b⟩
  case fz e fr n => obtain ⟨e', fr', xs, ids, a, b, c, d, f, g⟩ := hm; exact ⟨e', fr', xs, ids, a, b, c, fun i hi => h.bo i (d i hi), fun e => f (h.af e), h.leaf g⟩
  case ow j =>
    rcases hm with ⟨id, m, e, fr, xs, ser, a, b, c, d⟩ | ⟨id, m, lo, hi, e, fr, xs, ser, a, b, c, d⟩ | ⟨a, b⟩
    · exact .inl ⟨id, m, e, fr, xs, ser, a, b, c, h.ids _ _ d⟩
    · exact .inr (.inl ⟨id, m, lo, hi, e, fr, xs, ser, a, b, c, h.ids _ _ d⟩)
    · exact .inr (.inr ⟨a, h.ids _ _ b⟩)
  case pt j o => obtain ⟨id, o', base, a, b, c⟩ := hm; exact ⟨id, o', base, a, b, h.ids _ _ c⟩
  case fn f caps => obtain ⟨caps', a, b⟩ := hm; exact ⟨caps', a, b.mono fun _ _ ⟨base, c, d⟩ => ⟨base, h.ids _ _ c, d⟩⟩
  case mp j => obtain ⟨id, a, b⟩ := hm; exact ⟨id, a, h.ids _ _ b⟩
theorem mS_ok {lk : Lk} {p : PS} {x : AS} {E E' : Env} (hn : E.n = E.lv.length) (h : mS lk p x E = some E') : Le E E' ∧ Met lk E' p x := by
  cases p <;> simp only [mS] at h
  case un => cases h; exact ⟨Le.refl E, trivial⟩
  case i k n =>
    split at h
    · rename_i k' m
      cases hb : keq k k' <;> simp [hb] at h
      have := zc8 hb; subst this
      obtain ⟨a, b, _⟩ := zcu h
      exact ⟨a, m, rfl, b hn⟩
    · cases h
  case b n =>
    split at h
    · obtain ⟨a, b, _⟩ := zcu h; exact ⟨a, _, rfl, b hn⟩
    · cases h
  case s n =>
    split at h
    · obtain ⟨a, b, _⟩ := zcu h; exact ⟨a, _, rfl, b hn⟩
    · cases h
  case fz e fr n =>
    split at h
    · rename_i e' fr' xs ids hc
      cases hb : (fits e e' && (!fr || fr')) <;> simp only [hb, cond_false, cond_true] at h
      · cases h
      simp only [Bool.and_eq_true, Bool.or_eq_true, Bool.not_eq_true'] at hb
      obtain ⟨a, b, c, d, f⟩ := zcu h
      refine ⟨⟨a.lv, a.n, fun j b hb => by rw [c]; exact hb, fun i hi => by rw [d]; simp [hi], fun he => ?_⟩, e', fr', xs, ids, hc, hb.1, fun he => ?_, fun i hi => by rw [d]; simp [hi], fun he => ?_, b hn⟩
      · rw [f] at he; simp at he; exact he.1
      · rcases hb.2 with h | h
        · rw [he] at h; cases h
        · exact h
      · rw [f] at he; simp at he; exact he.2
    · cases h
  case ow j =>
    split at h
    · rename_i id m
      split at h
      · rename_i e fr xs ser hl
        cases hb : Nat.beq m ser <;> simp [hb] at h
        obtain ⟨a, b, _⟩ := zfu h
        exact ⟨a, .inl ⟨id, m, e, fr, xs, ser, rfl, hl, zg hb, b⟩⟩
      · cases h
    · rename_i id m lo hi
      split at h
      · rename_i e fr xs ser hl
        cases hb : Nat.beq m ser <;> simp [hb] at h
        obtain ⟨a, b⟩ := zh0 h
        exact ⟨a, .inr (.inl ⟨id, m, lo, hi, e, fr, xs, ser, rfl, hl, zg hb, b⟩)⟩
      · cases h
    · obtain ⟨a, b⟩ := zh0 h
      exact ⟨a, .inr (.inr ⟨rfl, b⟩)⟩
    · cases h
  case pt j o =>
    split at h
    · rename_i id o'
      cases hb : Nat.ble o o' <;> simp [hb] at h
      obtain ⟨a, b, _⟩ := zfu h
      have := Nat.le_of_ble_eq_true hb
      exact ⟨a, id, o', o' - o, rfl, by omega, b⟩
    · cases h
  case fn f caps =>
    split at h
    · rename_i f' caps'
      cases hb : Nat.beq f f' <;> simp [hb] at h
      have := zg hb; subst this
      obtain ⟨a, b⟩ := zlt h
      exact ⟨a, caps', rfl, b⟩
    · cases h
  case mp j =>
    split at h
    · obtain ⟨a, b, _⟩ := zfu h; exact ⟨a, _, rfl, b⟩
    · cases h
theorem zdv {lk : Lk} : ∀ {ps : List PS} {xs : List AS} {E E' : Env}, E.n = E.lv.length → mSs lk ps xs E = some E' → Le E E' ∧ F2 (Met lk E') ps xs
  | [], [], E, E', _, h => by simp [mSs] at h; subst h; exact ⟨Le.refl E, .nil⟩
  | p :: ps, x :: xs, E, E', hn, h => by
    simp only [mSs] at h
    split at h
    · rename_i E1 h1
      obtain ⟨a, b⟩ := mS_ok hn h1
      obtain ⟨c, d⟩ := zdv (a.n hn) h
      exact ⟨a.trans c, .cons (b.mono c) d⟩
    · cases h
  | [], _ :: _, _, _, _, h => by simp [mSs] at h
  | _ :: _, [], _, _, _, h => by simp [mSs] at h
def MetT (lk : Lk) (E : Env) (p : Bool × List PS) (x : Bool × List AS) : Prop := p.1 = x.1 ∧ F2 (Met lk E) p.2 x.2
def MetV (lk : Lk) (E : Env) (p : PV) (x : AV) : Prop := match p, x with
  | .sc p, .sc x => Met lk E p x
  | .ag ps, .ag xs => F2 (Met lk E) ps xs
  | .tu ps, .tu xs => F2 (MetT lk E) ps xs
  | _, _ => False
theorem MetV.mono {lk : Lk} {E E' : Env} (h : Le E E') {p : PV} {x : AV} (hm : MetV lk E p x) : MetV lk E' p x := by
  cases p <;> cases x <;> simp only [MetV] at hm ⊢ <;> try exact hm.elim
  · exact hm.mono h
  · exact F2.mono (fun _ _ h1 => h1.mono h) hm
  · exact F2.mono (fun _ _ h1 => ⟨h1.1, F2.mono (fun _ _ h2 => h2.mono h) h1.2⟩) hm
theorem zkc {lk : Lk} : ∀ {ps : List (Bool × List PS)} {xs : List (Bool × List AS)} {E E' : Env}, E.n = E.lv.length → mTs lk ps xs E = some E' → Le E E' ∧ F2 (MetT lk E') ps xs
  | [], [], E, E', _, h => by simp [mTs] at h; subst h; exact ⟨Le.refl E, .nil⟩
  | (a, p) :: ps, (b, x) :: xs, E, E', hn, h => by
    simp only [mTs] at h
    cases hb : (a == b) <;> simp only [hb, cond_false, cond_true] at h
    · cases h
    split at h
    · rename_i E1 h1
      obtain ⟨c, d⟩ := zdv hn h1
      obtain ⟨e, f⟩ := zkc (c.n hn) h
      exact ⟨c.trans e, .cons ⟨by simpa using hb, F2.mono (fun _ _ h2 => h2.mono e) d⟩ f⟩
    · cases h
  | [], _ :: _, _, _, _, h => by simp [mTs] at h
  | _ :: _, [], _, _, _, h => by simp [mTs] at h
theorem mV_ok {lk : Lk} {p : PV} {x : AV} {E E' : Env} (hn : E.n = E.lv.length) (h : mV lk p x E = some E') : Le E E' ∧ MetV lk E' p x := by
  cases p <;> cases x <;> simp only [mV] at h <;> try (cases h; done)
  · exact mS_ok hn h
  · exact zdv hn h
  · exact zkc hn h
theorem zmg {lk : Lk} : ∀ {ps : List PV} {xs : List AV} {E E' : Env}, E.n = E.lv.length → mVs lk ps xs E = some E' → Le E E' ∧ F2 (MetV lk E') ps xs
  | [], [], E, E', _, h => by simp [mVs] at h; subst h; exact ⟨Le.refl E, .nil⟩
  | p :: ps, x :: xs, E, E', hn, h => by
    simp only [mVs] at h
    split at h
    · rename_i E1 h1
      obtain ⟨a, b⟩ := mV_ok hn h1
      obtain ⟨c, d⟩ := zmg (a.n hn) h
      exact ⟨a.trans c, .cons (b.mono c) d⟩
    · cases h
  | [], _ :: _, _, _, _, h => by simp [mVs] at h
  | _ :: _, [], _, _, _, h => by simp [mVs] at h
def MetO (lk : Lk) (Ef : Env) (p : PO) (b : Bd) : Prop := match p with
  | .bx ps => ∃ id base cells, b = .o id base ∧ lk id = .bx cells ∧ base + ps.length ≤ cells.length ∧ F2 (Met lk Ef) ps ((cells.drop base).take ps.length)
  | .rb ps => ∃ id base cells, b = .o id base ∧ (lk id = .bx cells ∨ lk id = .rb cells) ∧ base + ps.length ≤ cells.length ∧ F2 (Met lk Ef) ps ((cells.drop base).take ps.length)
  | .rw e fr n => (∃ id fr' xs ser, b = .o id 0 ∧ lk id = .rw e fr' xs ser ∧ (fr = true → fr' = true) ∧ (Ef.af = true → fr' = true) ∧ Ef.lv.reverse[n]? = some (.l xs)) ∨
      (∃ id lo hi fr' xs ser, b = .sb id lo hi ∧ lk id = .rw e fr' xs ser ∧ (fr = true → fr' = true) ∧ (Ef.af = true → fr' = true) ∧ Ef.lv.reverse[n]? = some (.l (Eng.sub xs lo hi))) ∨ (b = .nil ∧ Ef.lv.reverse[n]? = some (.l []))
  | .mp kt vt n => ∃ id es, b = .o id 0 ∧ lk id = .mp kt vt es ∧ Ef.lv.reverse[n]? = some (.m es)
theorem MetO.mono {lk : Lk} {E E' : Env} (h : Le E E') {p : PO} {b : Bd} (hm : MetO lk E p b) : MetO lk E' p b := by
  cases p <;> simp only [MetO] at hm ⊢
  · obtain ⟨id, base, cells, a, b, c, d⟩ := hm; exact ⟨id, base, cells, a, b, c, F2.mono (fun _ _ h1 => h1.mono h) d⟩
  · obtain ⟨id, base, cells, a, b, c, d⟩ := hm; exact ⟨id, base, cells, a, b, c, F2.mono (fun _ _ h1 => h1.mono h) d⟩
  · rcases hm with ⟨id, fr', xs, ser, a, b, c, d, e⟩ | ⟨id, lo, hi, fr', xs, ser, a, b, c, d, e⟩ | ⟨a, b⟩
    · exact .inl ⟨id, fr', xs, ser, a, b, c, fun q => d (h.af q), h.leaf e⟩
    · exact .inr (.inl ⟨id, lo, hi, fr', xs, ser, a, b, c, fun q => d (h.af q), h.leaf e⟩)
    · exact .inr (.inr ⟨a, h.leaf b⟩)
  · obtain ⟨id, es, a, b, c⟩ := hm; exact ⟨id, es, a, b, h.leaf c⟩
theorem mO_ok {lk : Lk} {p : PO} {b : Bd} {E E' : Env} (hn : E.n = E.lv.length) (h : mO lk p b E = some E') : Le E E' ∧ MetO lk E' p b := by
  unfold mO at h
  split at h
  · rename_i ps id base
    split at h
    · rename_i cells hl
      cases hb : Nat.ble (base + ps.length) cells.length <;> simp only [hb, cond_false, cond_true] at h
      · cases h
      obtain ⟨c, d⟩ := zdv hn h
      exact ⟨c, id, base, cells, rfl, hl, Nat.le_of_ble_eq_true hb, d⟩
    · cases h
  · rename_i ps id base
    split at h
    · rename_i cells hl
      cases hb : Nat.ble (base + ps.length) cells.length <;> simp only [hb, cond_false, cond_true] at h
      · cases h
      obtain ⟨c, d⟩ := zdv hn h
      exact ⟨c, id, base, cells, rfl, .inl hl, Nat.le_of_ble_eq_true hb, d⟩
    · rename_i cells hl
      cases hb : Nat.ble (base + ps.length) cells.length <;> simp only [hb, cond_false, cond_true] at h
      · cases h
      obtain ⟨c, d⟩ := zdv hn h
      exact ⟨c, id, base, cells, rfl, .inr hl, Nat.le_of_ble_eq_true hb, d⟩
    · cases h
  · rename_i e fr n id
    split at h
    · rename_i e' fr' xs ser hl
      cases hb : (Nat.beq e e' && (!fr || fr')) <;> simp only [hb, cond_false, cond_true] at h
      · cases h
      simp only [Bool.and_eq_true, Bool.or_eq_true, Bool.not_eq_true'] at hb
      have := zg hb.1; subst this
      obtain ⟨a, b, c, d, f⟩ := zcu h
      refine ⟨⟨a.lv, a.n, fun j b hb => by rw [c]; exact hb, fun i hi => by rw [d]; exact hi, fun he => by rw [f] at he; simp at he; exact he.1⟩, .inl ⟨id, fr', xs, ser, rfl, hl, fun he => ?_, fun he => by rw [f] at he; simp at he; exact he.2, b hn⟩⟩
      rcases hb.2 with h | h
      · rw [he] at h; cases h
      · exact h
    · cases h
  · rename_i e fr n id lo hi
    split at h
    · rename_i e' fr' xs ser hl
      cases hb : (Nat.beq e e' && (!fr || fr')) <;> simp only [hb, cond_false, cond_true] at h
      · cases h
      simp only [Bool.and_eq_true, Bool.or_eq_true, Bool.not_eq_true'] at hb
      have := zg hb.1; subst this
      obtain ⟨a, b, c, d, f⟩ := zcu h
      refine ⟨⟨a.lv, a.n, fun j b hb => by rw [c]; exact hb, fun i hi => by rw [d]; exact hi, fun he => by rw [f] at he; simp at he; exact he.1⟩, .inr (.inl ⟨id, lo, hi, fr', xs, ser, rfl, hl, fun he => ?_, fun he => by rw [f] at he; simp at he; exact he.2, b hn⟩)⟩
      rcases hb.2 with h | h
      · rw [he] at h; cases h
      · exact h
    · cases h
  · obtain ⟨a, b, _⟩ := zcu h
    exact ⟨a, .inr (.inr ⟨rfl, b hn⟩)⟩
  · rename_i kt vt n id
    split at h
    · rename_i kt' vt' es hl
      cases hb : (Nat.beq kt kt' && Nat.beq vt vt') <;> simp only [hb, cond_false, cond_true] at h
      · cases h
      simp only [Bool.and_eq_true] at hb
      have e1 := zg hb.1; have e2 := zg hb.2; subst e1 e2
      obtain ⟨a, b, _⟩ := zcu h
      exact ⟨a, id, es, rfl, hl, b hn⟩
    · cases h
  · cases h
theorem zlc {lk : Lk} : ∀ {ps : List PO} {j : Nat} {E E' : Env}, E.n = E.lv.length → mOs lk j ps E = some E' → Le E E' ∧ ∀ i p, ps[i]? = some p → ∃ b, bd E'.ids (j + i) = some b ∧ MetO lk E' p b
  | [], j, E, E', _, h => by simp [mOs] at h; subst h; exact ⟨Le.refl E, fun i p h => by simp at h⟩
  | p :: ps, j, E, E', hn, h => by
    simp only [mOs] at h
    split at h
    · cases h
    · rename_i b hb
      split at h
      · rename_i E1 h1
        obtain ⟨a1, a2⟩ := mO_ok hn h1
        obtain ⟨b1, b2⟩ := zlc (a1.n hn) h
        refine ⟨a1.trans b1, fun i q hq => ?_⟩
        cases i with
        | zero => simp at hq; subst hq; exact ⟨b, b1.ids _ _ (a1.ids _ _ hb), a2.mono b1⟩
        | succ i => obtain ⟨c, c1, c2⟩ := b2 i q (by simpa using hq); exact ⟨c, by rw [show j + (i + 1) = j + 1 + i by omega]; exact c1, c2⟩
      · cases h
theorem zf2 : ∀ {l : List Nat}, nodup l = true → l.Nodup
  | [], _ => List.nodup_nil
  | x :: r, h => by
    simp only [nodup, Bool.and_eq_true, Bool.not_eq_true'] at h
    refine List.nodup_cons.2 ⟨fun hm => ?_, zf2 h.2⟩
    rw [zeo.2 hm] at h
    cases h.1
theorem zma {lk : Lk} {p : Pat} {vals : List AV} {known : List (Nat × Bd)} {E : Env} (h : mtch lk p vals known = some E) :
    F2 (MetV lk E) p.vals vals ∧ (∀ i q, p.objs[i]? = some q → ∃ b, bd E.ids i = some b ∧ MetO lk E q b) ∧ (∀ j b, bd known j = some b → bd E.ids j = some b) ∧
      (E.ids.flatMap fun x => x.2.ids).Nodup ∧ (∀ id ∈ E.bo, id ∉ E.ids.flatMap fun x => x.2.ids) ∧ ∀ x ∈ E.ids, x.1 < p.objs.length := by
  unfold mtch at h
  split at h
  · cases h
  · rename_i E1 h1
    split at h
    · cases h
    · rename_i E2 h2
      cases hb : (nodup (E2.ids.flatMap fun x => x.2.ids) && (E2.bo.all (fun id => !has (E2.ids.flatMap fun x => x.2.ids) id) && E2.ids.all fun x => Nat.ble (x.1 + 1) p.objs.length)) <;> simp only [hb, cond_false, cond_true] at h
      · cases h
      cases h
      simp only [Bool.and_eq_true, List.all_eq_true, Bool.not_eq_true'] at hb
      obtain ⟨a1, a2⟩ := zmg (by rfl) h1
      obtain ⟨b1, b2⟩ := zlc (a1.n rfl) h2
      refine ⟨F2.mono (fun _ _ h => h.mono b1) a2, fun i q hq => by simpa using b2 i q hq, fun j b hk => b1.ids _ _ (a1.ids _ _ hk), zf2 hb.1, fun id hi hm => ?_, fun x hx => Nat.le_of_ble_eq_true (hb.2.2 x hx)⟩
      have := hb.2.1 id hi
      rw [zeo.2 hm] at this
      cases this
end Go.Eng
end
section
namespace Go.Eng
open Go
theorem zcc {ids : List (Nat × Bd)} {j : Nat} {b : Bd} (h : bd ids j = some b) : (j, b) ∈ ids := by
  induction ids with
  | nil => simp [bd] at h
  | cons x r ih =>
    obtain ⟨k, c⟩ := x
    simp only [bd] at h
    cases hb : Nat.beq k j <;> simp [hb] at h
    · exact List.mem_cons_of_mem _ (ih h)
    · have := zg hb; subst this; subst h; simp
def PO.el : PO → TypeId | .rw e _ _ => e | _ => 0
def bdLoc (P : Program) (X : Cx) (e : TypeId) : Bd → Loc
  | .o id base => ⟨(X.β id).blk, (X.β id).off + base, (X.β id).cap, (X.β id).nil⟩
  | .nil => ⟨0, 0, 0, true⟩
  | .sb id lo hi => ⟨(X.β id).blk, if (X.β id).cap ≤ lo then (X.β id).off else (X.β id).off + lo * esz P e, (X.β id).cap - lo, (X.β id).nil⟩
structure Ren (P : Program) (K : Kx) (X : Cx) (w : World) (lk : Lk) (Ef : Env) (X1 : Cx) (p : Pat) (X' : Cx) (z : Bool) : Prop where
  H : Heap P K X
  hX : X.h = w.heap
  hlk : ∀ id, lk id = X.ob id ∨ lk id = .dead
  fz : Frzd P K X w lk Ef.bo X1
  m : ∀ i q, p.objs[i]? = some q → ∃ b, bd Ef.ids i = some b ∧ MetO lk Ef q b
  all : ∀ j b, bd Ef.ids j = some b → ∃ q, p.objs[j]? = some q
  h' : X'.h = X.h
  ob' : ∀ j, X'.ob j = match p.objs[j]? with | some q => q.inst Ef.lv.reverse selfIm false | none => .dead
  β' : ∀ j b q, bd Ef.ids j = some b → p.objs[j]? = some q → X'.β j = bdLoc P X q.el b
  nf : z = true → p.nf = true
  F' : ∀ fr fr', (z = true → fr = false) → (fr = true → fr' = true) → (Ef.af = true → fr' = true) → ∀ b, X1.F fr' b → X'.F fr b
section
variable {P : Program} {K : Kx} {X : Cx} {w : World} {lk : Lk} {Ef : Env} {X1 : Cx} {p : Pat} {X' : Cx} {z : Bool}
theorem g_of {lv : Lv} {n : Nat} {x : Lf} (h : lv[n]? = some x) : g lv n = x := by
  simp [g, List.getD_eq_getElem?_getD, h]
theorem Ren.at_ (R : Ren P K X w lk Ef X1 p X' z) {j : Nat} {b : Bd} (h : bd Ef.ids j = some b) : ∃ q, p.objs[j]? = some q ∧ MetO lk Ef q b ∧ X'.ob j = q.inst Ef.lv.reverse selfIm false ∧ X'.β j = bdLoc P X q.el b := by
  obtain ⟨q, hq⟩ := R.all j b h
  obtain ⟨b', h1, h2⟩ := R.m j q hq
  rw [h] at h1; cases h1
  exact ⟨q, hq, h2, by rw [R.ob', hq], R.β' j b q h hq⟩
theorem Ren.box (R : Ren P K X w lk Ef X1 p X' z) {j id base : Nat} (h : bd Ef.ids j = some (.o id base)) (hb : ∃ cells, X.ob id = .bx cells ∨ X.ob id = .rb cells) :
    (∃ cells, X'.ob j = .bx cells ∨ X'.ob j = .rb cells) ∧ ∀ o, (X'.β j).ptr o = (X.β id).ptr (base + o) := by
  obtain ⟨q, hq, hm, ho, hl⟩ := R.at_ h
  refine ⟨?_, fun o => by rw [hl]; simp [bdLoc, Loc.ptr, Nat.add_assoc]⟩
  obtain ⟨cells, hb⟩ := hb
  cases q with
  | bx ps => exact ⟨_, .inl ho⟩
  | rb ps => exact ⟨_, .inr ho⟩
  | rw e fr n =>
    simp only [MetO] at hm
    rcases hm with ⟨id', fr', xs, ser, a, b, _⟩ | ⟨id', lo, hi, fr', xs, ser, a, b, _⟩ | ⟨a, _⟩ <;> cases a
    have := lk_rw R.hlk b (by simp)
    rcases hb with hb | hb <;> rw [hb] at this <;> cases this
  | mp kt vt n =>
    simp only [MetO] at hm
    obtain ⟨id', es, a, b, _⟩ := hm
    cases a
    have := lk_rw R.hlk b (by simp)
    rcases hb with hb | hb <;> rw [hb] at this <;> cases this
theorem RefBx.mk {id : Nat} {Q : Prop} (h : ∃ cells, X.ob id = .bx cells ∨ X.ob id = .rb cells) (hq : Q) : RefBx X id Q := by
  unfold RefBx
  obtain ⟨c, h | h⟩ := h <;> rw [h] <;> exact hq
theorem RefBx.is {id : Nat} {Q : Prop} (h : RefBx X id Q) : ∃ cells, X.ob id = .bx cells ∨ X.ob id = .rb cells := by
  unfold RefBx at h
  split at h
  · exact ⟨_, .inl (by assumption)⟩
  · exact ⟨_, .inr (by assumption)⟩
  · exact h.elim
theorem Ren.RS (R : Ren P K X w lk Ef X1 p X' z) {q : PS} {x : AS} {v : Value} (hz : z = true → q.nf = true) (hm : Met lk Ef q x) (hr : RS P X x v) : Eng.RS P X' (q.inst Ef.lv.reverse selfIm false) v := by
  cases q <;> simp only [Met] at hm <;> simp only [PS.inst]
  case un => trivial
  case i k n => obtain ⟨m, rfl, h⟩ := hm; rw [g_of h]; exact hr
  case b n => obtain ⟨m, rfl, h⟩ := hm; rw [g_of h]; exact hr
  case s n => obtain ⟨m, rfl, h⟩ := hm; rw [g_of h]; exact hr
  case fz e fr n =>
    obtain ⟨e', fr', xs, ids, h1, h2, h3, h4, h5, h6⟩ := hm
    rw [g_of h6]
    obtain ⟨A, cap, a, b, c⟩ := zl0 R.H R.hlk R.fz hr h1 h4 h2
    simp only [Bool.or_false]
    exact ⟨A, cap, a, b, Con.mono (fun n hn => R.F' fr fr' (fun h => by have := hz h; simpa [PS.nf] using this) h3 h5 n hn) (fun n hn => by rw [R.h', R.fz.h]) c⟩
  case ow j =>
    rcases hm with ⟨id, m, e, fr, xs, ser, rfl, h1, h2, h3⟩ | ⟨id, m, lo, hi, e, fr, xs, ser, rfl, h1, h2, h3⟩ | ⟨rfl, h3⟩ <;> obtain ⟨q, hq, hmo, ho, hl⟩ := R.at_ h3
    · have hob := lk_rw R.hlk h1 (by simp)
      have hv := hr.2.get (.inl hob) h2
      cases q <;> simp only [MetO] at hmo
      case bx => obtain ⟨_, _, _, a, b, _⟩ := hmo; cases a; rw [h1] at b; cases b
      case rb => obtain ⟨_, _, _, a, b, _⟩ := hmo; cases a; rw [h1] at b; rcases b with b | b <;> cases b
      case mp => obtain ⟨_, _, a, b, _⟩ := hmo; cases a; rw [h1] at b; cases b
      rename_i e2 fr2 n2
      rcases hmo with ⟨id', fr', xs', ser', a, b, c, d, f⟩ | ⟨id', lo, hi, fr', xs', ser', a, b, _⟩ | ⟨a, _⟩ <;> cases a
      rw [h1] at b; cases b
      simp only [PO.inst, g_of f] at ho
      refine ⟨⟨_, _, _, hv⟩, RefRw.mk (.inl ho) rfl ?_⟩
      show v = .slice (slAddr P _ (X'.β j) 0) _ (X'.β j).cap
      rw [hl, hv]
      rfl
    · have hob := lk_rw R.hlk h1 (by simp)
      obtain ⟨hlo, hhi, hv⟩ := hr.2.get (.inl hob) h2
      cases q <;> simp only [MetO] at hmo
      case bx => obtain ⟨_, _, _, a, b, _⟩ := hmo; cases a
      case rb => obtain ⟨_, _, _, a, b, _⟩ := hmo; cases a
      case mp => obtain ⟨_, _, a, b, _⟩ := hmo; cases a
      rename_i e2 fr2 n2
      rcases hmo with ⟨id', fr', xs', ser', a, b, c, d, f⟩ | ⟨id', lo', hi', fr', xs', ser', a, b, c, d, f⟩ | ⟨a, _⟩ <;> cases a
      rw [h1] at b; cases b
      simp only [PO.inst, g_of f] at ho
      refine ⟨⟨_, _, _, hv⟩, RefRw.mk (.inl ho) rfl ?_⟩
      show v = .slice (slAddr P _ (X'.β j) 0) _ (X'.β j).cap
      rw [hl, hv]
      have : (Lf.l (Eng.sub xs lo hi)).list.length = hi - lo := zc0 hhi
      rw [this]
      have hcap : lo ≤ (X.β id).cap := by
        have hk := R.H.ok id
        unfold Eng.AOok at hk
        rw [hob] at hk
        rcases hk with ⟨_, a2, _⟩ | ⟨_, a2, _⟩
        · rw [a2] at hhi; simp at hhi; omega
        · omega
      have e1 : ((X.β id).cap ≤ lo) = (lo = (X.β id).cap) := propext ⟨fun h => by omega, fun h => by omega⟩
      simp [slAddr, bdLoc, PO.el, e1]
    · cases q <;> simp only [MetO] at hmo
      case bx => obtain ⟨_, _, _, a, b, _⟩ := hmo; cases a
      case rb => obtain ⟨_, _, _, a, b, _⟩ := hmo; cases a
      case mp => obtain ⟨_, _, a, b, _⟩ := hmo; cases a
      rename_i e2 fr2 n2
      rcases hmo with ⟨id', fr', xs', ser', a, b, c, d, f⟩ | ⟨id', lo', hi', fr', xs', ser', a, b, c, d, f⟩ | ⟨a, f⟩ <;> cases a
      simp only [PO.inst, g_of f] at ho
      refine ⟨⟨_, _, _, hr⟩, RefRw.mk (.inl ho) rfl ?_⟩
      show v = .slice (slAddr P _ (X'.β j) 0) _ (X'.β j).cap
      rw [hl, hr]
      simp [slAddr, bdLoc, Lf.list]
  case pt j o =>
    obtain ⟨id, o', base, rfl, h1, h2⟩ := hm
    have hr' := (show RefBx X id _ from hr)
    obtain ⟨a, b⟩ := R.box h2 hr'.is
    refine RefBx.mk a ?_
    show v = .pointer (some ((X'.β j).ptr (0 + o)))
    rw [Nat.zero_add, b, h1]
    exact hr'.get
  case fn f caps =>
    obtain ⟨caps', rfl, h1⟩ := hm
    obtain ⟨h2, h3⟩ := hr
    have key : ∀ {ps cs : List (Nat × Nat)}, F2 (fun (p c : Nat × Nat) => ∃ base, bd Ef.ids p.1 = some (.o c.1 base) ∧ base + p.2 = c.2) ps cs → (∀ c ∈ cs, RefBx X c.1 True) →
        (∀ c ∈ ps.map (fun c => ((selfIm c.1).1, (selfIm c.1).2 + c.2)), RefBx X' c.1 True) ∧ (ps.map (fun c => ((selfIm c.1).1, (selfIm c.1).2 + c.2))).map (fun c => Value.pointer (some ((X'.β c.1).ptr c.2))) = cs.map (fun c => Value.pointer (some ((X.β c.1).ptr c.2))) := by
      intro ps cs hf hc
      induction hf with
      | nil => exact ⟨fun c h => by simp at h, rfl⟩
      | cons h1 _ ih =>
        rename_i p c ps cs _t
        obtain ⟨base, b1, b2⟩ := h1
        obtain ⟨i1, i2⟩ := ih fun c hm => hc c (by simp [hm])
        obtain ⟨a, b⟩ := R.box b1 (hc c (by simp)).is
        refine ⟨fun d hd => ?_, ?_⟩
        · rw [List.map_cons] at hd
          rcases List.mem_cons.1 hd with rfl | hd
          · exact RefBx.mk a trivial
          · exact i1 d hd
        · simp only [List.map_cons, i2]
          congr 1
          show Value.pointer (some ((X'.β p.1).ptr (0 + p.2))) = _
          rw [Nat.zero_add, b, b2]
    obtain ⟨k1, k2⟩ := key h1 h2
    exact ⟨k1, by rw [k2]; exact h3⟩
  case mp j =>
    obtain ⟨id, rfl, h1⟩ := hm
    have hr' := (show RefMp X id _ from hr)
    obtain ⟨q, hq, hmo, ho, hl⟩ := R.at_ h1
    unfold RefMp at hr'
    split at hr'
    · rename_i kt vt es hob
      cases q <;> simp only [MetO] at hmo
      case bx => obtain ⟨_, _, _, a, b, _⟩ := hmo; cases a; have := lk_rw R.hlk b (by simp); rw [hob] at this; cases this
      case rb =>
        obtain ⟨_, _, _, a, b, _⟩ := hmo; cases a
        rcases b with b | b <;> have := lk_rw R.hlk b (by simp) <;> rw [hob] at this <;> cases this
      case rw =>
        rcases hmo with ⟨_, _, _, _, a, b, _⟩ | ⟨_, _, _, _, _, _, a, _⟩ | ⟨a, _⟩ <;> cases a
        have := lk_rw R.hlk b (by simp); rw [hob] at this; cases this
      show RefMp X' j _
      unfold RefMp
      rw [ho]
      simp only [PO.inst]
      show v = .map (some (X'.β j).blk)
      rw [hl]; exact hr'
    · exact hr'.elim
theorem Ren.RSs (R : Ren P K X w lk Ef X1 p X' z) {ps : List PS} {xs : List AS} (hz : z = true → ps.all PS.nf = true) (hm : F2 (Met lk Ef) ps xs) : ∀ {vs : List Value}, Eng.RSs P X xs vs → Eng.RSs P X' (ps.map (·.inst Ef.lv.reverse selfIm false)) vs := by
  induction hm with
  | nil => intro vs h; cases h; exact .nil
  | cons h1 _ ih =>
    intro vs h
    cases h with
    | cons a b =>
      simp only [List.all_cons, Bool.and_eq_true] at hz
      exact .cons (R.RS (fun h => (hz h).1) h1 a) (ih (fun h => (hz h).2) b)
theorem Ren.RV (R : Ren P K X w lk Ef X1 p X' z) {q : PV} {x : AV} {v : Value} (hz : z = true → q.nf = true) (hm : MetV lk Ef q x) (hr : RV P X x v) : Eng.RV P X' (q.inst Ef.lv.reverse selfIm false) v := by
  cases q <;> cases x <;> simp only [MetV] at hm <;> try exact hm.elim
  · exact R.RS hz hm hr
  · obtain ⟨cs, h1, h2⟩ := hr; exact ⟨cs, h1, R.RSs hz hm h2⟩
  · obtain ⟨vs, h1, h2⟩ := hr
    refine ⟨vs, h1, ?_⟩
    have : ∀ {ps : List (Bool × List PS)} {ts : List (Bool × List AS)}, (z = true → ps.all (fun t => t.2.all PS.nf) = true) → F2 (MetT lk Ef) ps ts → ∀ {us : List Value}, F2 (RT P X) ts us → F2 (RT P X') (ps.map fun x => (x.1, x.2.map (·.inst Ef.lv.reverse selfIm false))) us := by
      intro ps ts hz hf
      induction hf with
      | nil => intro us h; cases h; exact .nil
      | cons h1 _ ih =>
        rename_i p t ps ts _t
        simp only [List.all_cons, Bool.and_eq_true] at hz
        intro us h
        cases h with
        | cons a b =>
          refine .cons ?_ (ih (fun h => (hz h).2) b)
          obtain ⟨e1, e2⟩ := h1
          obtain ⟨pb, pl⟩ := p
          obtain ⟨tb, tl⟩ := t
          simp only at e1 e2
          subst e1
          cases pb
          · exact R.RSs (fun h => (hz h).1) e2 a
          · obtain ⟨cs, c1, c2⟩ := a; exact ⟨cs, c1, R.RSs (fun h => (hz h).1) e2 c2⟩
    exact this hz hm h2
theorem Ren.obnf (R : Ren P K X w lk Ef X1 p X' z) {j : Nat} {q : PO} (h : p.objs[j]? = some q) : z = true → q.nf = true := fun hz => by
  have := R.nf hz
  simp only [Pat.nf, Bool.and_eq_true, List.all_eq_true] at this
  exact this.2 q (List.mem_of_getElem? h)
end
end Go.Eng
end
