/- The reckoner: symbolic steps over the model's code, proved sound. -/
import Derived.Orders
import Derived.KernelRfl
import Derived.Below
import Derived.Laws.AppendOwn
import Derived.Laws.Cells
import Derived.Laws.Slices
import Derived.Laws.StructEq
import Derived.Laws.Tables
import Derived.Laws.BytesArg
import Derived.Lib.ConvBytes
import Derived.Laws.MakeOwn
import Derived.Laws.OwnMore
set_option linter.unusedSimpArgs false
set_option linter.unusedVariables false
set_option linter.unusedSectionVars false
section
namespace Go.Eng
open Go
inductive C where
  | i (n : Int)
  | b (x : Bool)
  | s (x : ByteArray)
  | l (xs : List (List C))
abbrev Rw := List (List C)
def C.int : C → Int | .i n => n | _ => 0
def C.bool : C → Bool | .b x => x | _ => false
def C.str : C → ByteArray | .s x => x | _ => .empty
def C.list : C → Rw | .l xs => xs | _ => []
def rd (xs : Rw) (i o : Nat) : C := (xs.getD i []).getD o (.i 0)
def setAt : List C → Nat → C → List C
  | [], 0, c => [c]
  | _ :: r, 0, c => c :: r
  | [], n + 1, c => .i 0 :: setAt [] n c
  | x :: r, n + 1, c => x :: setAt r n c
def wr (xs : Rw) (i o : Nat) (c : C) : Rw := xs.set i (setAt (xs.getD i []) o c)
def wrs (xs : Rw) (i : Nat) : Nat → List C → Rw
  | _, [] => xs
  | o, c :: r => wrs (wr xs i o c) i (o + 1) r
def sub (xs : Rw) (lo hi : Nat) : Rw := (xs.drop lo).take (hi - lo)
def bytesOf (xs : Rw) : ByteArray := ⟨(xs.map fun r => UInt8.ofNat (r.getD 0 (.i 0)).int.toNat).toArray⟩
def rowsOf (s : ByteArray) : Rw := s.data.toList.map fun b => [.i (b.toNat : Int)]
def byteAt (s : ByteArray) (n : Nat) : Int := ((s.data.getD n 0).toNat : Int)
def inb (i : Int) (n : Nat) : Bool := decide (0 ≤ i) && decide (i < (n : Int))
def most : Nat := 1099511627776
inductive CK where
  | i (k : IntKind)
  | b
  | s
  | sl (e : TypeId)
  | x
def kinds (P : Program) : Nat → TypeId → List CK
  | 0, _ => [.x]
  | d + 1, t => match P.underlying t with
    | some (.int k) => [.i k]
    | some .bool => [.b]
    | some .string => [.s]
    | some (.slice e) => [.sl e]
    | some (.struct fs) => fs.toList.flatMap fun f => kinds P d f.type
    | _ => [.x]
def deep (P : Program) : Nat → TypeId → Bool
  | 0, _ => false
  | d + 1, e => (kinds P 8 e).all fun | .sl e' => deep P d e' | _ => true
def flat (P : Program) (e : TypeId) : Bool := (kinds P 8 e).all fun | .sl _ => false | _ => true
def ck (P : Program) (e : TypeId) (o : Nat) : CK := (kinds P 8 e).getD o .x
def isAg (P : Program) (t : TypeId) : Bool := match P.underlying t with | some (.struct _) => true | some (.array _ _) => true | _ => false
def esz (P : Program) (t : TypeId) : Nat := match P.info? t with | some i => i.size | none => 0
def ebytes (P : Program) (t : TypeId) : Nat := match P.info? t with | some i => i.bytes | none => 0
inductive AS where
  | un
  | ud
  | i (k : IntKind) (n : Int)
  | b (x : Bool)
  | s (x : ByteArray)
  | np
  | pt (id off : Nat)
  | pe (e : TypeId) (fr : Bool) (xs : Rw) (ix o : Nat)
  | po (id n ix o : Nat)
  | ns
  | fz (e : TypeId) (fr : Bool) (xs : Rw)
  | ow (id n : Nat)
  | sb (id n lo hi : Nat)
  | fn (f : Nat) (caps : List (Nat × Nat))
  | mp (id : Nat)
  | nm
  | ri (id n ix : Nat) (e : TypeId)
inductive AV where
  | sc (x : AS)
  | ag (xs : List AS)
  | tu (vs : List (Bool × List AS))
inductive AO where
  | dead
  | gone
  | bx (cells : List AS)
  | rb (cells : List AS)
  | rw (e : TypeId) (fr : Bool) (xs : Rw) (ser : Nat)
  | fz (e : TypeId) (fr : Bool) (xs : Rw) (ser : Nat)
  | mp (kt vt : TypeId) (es : List (C × C))
  | dw (e : TypeId) (c : Option (Nat × TypeId)) (xs : Rw) (ser lo iv : Nat)
inductive Lf where
  | i (n : Int)
  | b (x : Bool)
  | s (x : ByteArray)
  | l (xs : Rw)
  | m (es : List (C × C))
def Lf.int : Lf → Int | .i n => n | _ => 0
def Lf.bool : Lf → Bool | .b x => x | _ => false
def Lf.str : Lf → ByteArray | .s x => x | _ => .empty
def Lf.list : Lf → Rw | .l xs => xs | _ => []
def Lf.map : Lf → List (C × C) | .m es => es | _ => []
abbrev Lv := List Lf
def g (lv : Lv) (n : Nat) : Lf := lv.getD n (.i 0)
def look {α : Type} (d : α) : List (Nat × α) → Nat → α
  | [], _ => d
  | (k, v) :: r, n => cond (Nat.beq k n) v (look d r n)
def has : List Nat → Nat → Bool
  | [], _ => false
  | k :: r, n => cond (Nat.beq k n) true (has r n)
structure St where
  tm : List (Nat × AV)
  dv : AV
  ob : List (Nat × AO)
  nx : Nat
def St.t (σ : St) : Nat → AV := look σ.dv σ.tm
def St.o (σ : St) : Nat → AO := look .dead σ.ob
def ofConst1 : Value → AS
  | .int k n => .i k n
  | .bool x => .b x
  | .string s => .s s
  | .pointer none => .np
  | .slice none 0 0 => .ns
  | .map none => .nm
  | .tuple ⟨[]⟩ => .ud
  | _ => .un
def ofConst : Value → AV
  | .agg cs => .ag (cs.toList.map ofConst1)
  | v => .sc (ofConst1 v)
def opnd (tm : Nat → AV) : Operand → AV
  | .tmp t => tm t
  | .const v => ofConst v
  | .func f => .sc (.fn f [])
  | .global _ => .sc .un
def AV.cells : AV → List AS
  | .sc .un => []
  | .sc x => [x]
  | .ag xs => xs
  | .tu _ => []
def AS.one : AS → Bool
  | .un | .ud => false
  | _ => true
def AS.ids : AS → List Nat
  | .pt id _ | .po id _ _ _ | .ow id _ | .sb id _ _ _ | .mp id | .ri id _ _ _ => [id]
  | .fn _ caps => caps.map (·.1)
  | _ => []
def AV.ids : AV → List Nat
  | .sc x => x.ids
  | .ag xs => xs.flatMap AS.ids
  | .tu _ => []
abbrev Lk := Nat → AO
def keq (a b : IntKind) : Bool := decide (a = b)
def content (lk : Lk) : AS → Option (Option TypeId × Bool × Rw × List Nat)
  | .ns => some (none, true, [], [])
  | .fz e fr xs => some (some e, fr, xs, [])
  | .ow id m => match lk id with
    | .rw e fr xs ser => cond (Nat.beq m ser) (some (some e, fr, xs, [id])) none
    | .fz e fr xs ser => cond (Nat.beq m ser) (some (some e, fr, xs, [])) none
    | .dw e c xs ser lo iv => cond (Nat.beq m ser && Nat.beq lo 0) (some (some e, false, xs, [id])) none
    | _ => none
  | .sb id m lo hi => match lk id with
    | .rw e fr xs ser => cond (Nat.beq m ser) (some (some e, fr, sub xs lo hi, [id])) none
    | .fz e fr xs ser => cond (Nat.beq m ser) (some (some e, fr, sub xs lo hi, [])) none
    | .dw e c xs ser l iv => cond (Nat.beq m ser && Nat.beq l 0) (some (some e, false, sub xs lo hi, [id])) none
    | _ => none
  | .ri id n ix e => match lk id with
    | .dw _ (some (c, _)) xs _ lo iv => cond (Nat.beq n iv && Nat.beq lo 0) (some (some e, false, (rd xs ix c).list, [id])) none
    | _ => none
  | _ => none
def fits (e : TypeId) : Option TypeId → Bool
  | none => true
  | some e' => Nat.beq e e'
def toC (P : Program) (lk : Lk) : CK → AS → Option (C × Bool × List Nat)
  | .i k, .i k' n => cond (keq k k') (some (.i n, true, [])) none
  | .b, .b x => some (.b x, true, [])
  | .s, .s x => some (.s x, true, [])
  | .sl e, x => match content lk x with
    | some (e', fr, xs, ids) => cond (fits e e' && deep P 7 e) (some (.l xs, fr, ids)) none
    | none => none
  | _, _ => none
def toCs (P : Program) (lk : Lk) (e : TypeId) : Nat → List AS → Option (List C × Bool × List Nat)
  | _, [] => some ([], true, [])
  | o, x :: r => match toC P lk (ck P e o) x with
    | none => none
    | some (c, f, ids) => match toCs P lk e (o + 1) r with
      | none => none
      | some (cs, f', ids') => some (c :: cs, f && f', ids ++ ids')
def ofC (k : CK) (fr : Bool) (c : C) : AS := match k with
  | .i k => .i k c.int
  | .b => .b c.bool
  | .s => .s c.str
  | .sl e => .fz e fr c.list
  | .x => .un
def ofCs (P : Program) (e : TypeId) (fr : Bool) (xs : Rw) (ix o n : Nat) : List AS :=
  (List.range n).map fun j => ofC (ck P e (o + j)) fr (rd xs ix (o + j))
def rowsC (P : Program) (lk : Lk) (e : TypeId) (s : Nat) : Nat → List AS → Option (Rw × Bool × List Nat)
  | 0, _ => some ([], true, [])
  | n + 1, l => match toCs P lk e 0 (l.take s) with
    | none => none
    | some (c, f, ids) => match rowsC P lk e s n (l.drop s) with
      | none => none
      | some (r, f', ids') => some (c :: r, f && f', ids ++ ids')
def frz (lk : Lk) : List Nat → List (Nat × AO)
  | [] => []
  | id :: r => match lk id with
    | .rw e fr xs ser => (id, .fz e fr xs ser) :: frz lk r
    | .dw e _ xs ser lo _ => cond (Nat.beq lo 0) ((id, .fz e false xs ser) :: frz lk r) (frz lk r)
    | _ => frz lk r
structure AR where
  gs : List Bool
  v : AV
  ws : List (Nat × AO)
  nn : Nat
def AR.pure (v : AV) : Option AR := some ⟨[], v, [], 0⟩
def sc (x : AS) : Option AR := some ⟨[], .sc x, [], 0⟩
def fields (P : Program) (t : TypeId) : List Field := match P.underlying t with | some (.struct fs) => fs.toList | _ => []
def elOf (P : Program) (t : TypeId) : Option TypeId := match P.underlying t with | some (.slice e) => some e | _ => none
def zero (P : Program) (t : TypeId) : Option AV := match P.info? t with
  | some i => i.zero.map ofConst
  | none => none
def setMany (cs : List AS) (o : Nat) : List AS → List AS
  | [] => cs
  | x :: r => setMany (cs.set o x) (o + 1) r
def lay (place : Nat → Option (Nat × Nat)) (cs : List AS) : List (Nat × AV) → Option (List AS)
  | [] => some cs
  | (i, v) :: r => match place i with
    | none => none
    | some (o, n) => cond (!v.cells.isEmpty && (Nat.beq v.cells.length n && Nat.ble (o + n) cs.length)) (lay place (setMany cs o v.cells) r) none
def binInt (op : BinOp) (k : IntKind) (a b : Int) : Option (List Bool × AS) := match op with
  | .add => some ([], .i k (k.wrap (a + b)))
  | .sub => some ([], .i k (k.wrap (a - b)))
  | .mul => some ([], .i k (k.wrap (a * b)))
  | .quo => some ([b != 0], .i k (k.wrap (a.tdiv b)))
  | .rem => some ([b != 0], .i k (a.tmod b))
  | .xor => some ([], .i k (k.wrap (BitVec.ofInt k.bits a ^^^ BitVec.ofInt k.bits b).toNat))
  | .or => some ([], .i k (k.wrap (BitVec.ofInt k.bits a ||| BitVec.ofInt k.bits b).toNat))
  | .and => some ([], .i k (k.wrap (BitVec.ofInt k.bits a &&& BitVec.ofInt k.bits b).toNat))
  | .eql => some ([], .b (a == b))
  | .neq => some ([], .b (a != b))
  | .lss => some ([], .b (decide (a < b)))
  | .leq => some ([], .b (decide (a ≤ b)))
  | .gtr => some ([], .b (decide (b < a)))
  | .geq => some ([], .b (decide (b ≤ a)))
  | _ => none
def seq (x y : ByteArray) : Bool := x.toList == y.toList
def slt (x y : ByteArray) : Bool := Op.bytesLess x.toList y.toList
def binStr (op : BinOp) (x y : ByteArray) : Option (List Bool × AS) := match op with
  | .add => some ([decide (x.size + y.size ≤ most)], .s (x ++ y))
  | .eql => some ([], .b (seq x y))
  | .neq => some ([], .b (!seq x y))
  | .lss => some ([], .b (slt x y))
  | .leq => some ([], .b (slt x y || seq x y))
  | .gtr => some ([], .b (!(slt x y || seq x y)))
  | .geq => some ([], .b (!slt x y))
  | _ => none
def binShift (op : BinOp) (k : IntKind) (a b : Int) : Option (List Bool × AS) := match op with
  | .shl => some ([decide (0 ≤ b)], .i k (k.wrap (a * 2 ^ (min b.toNat k.bits))))
  | .shr => some ([decide (0 ≤ b)], .i k (a.fdiv (2 ^ (min b.toNat k.bits))))
  | _ => none
def eq1 : CK → AS → AS → Option Bool
  | .i k, .i j a, .i j' b => cond (keq k j && keq k j') (some (a == b)) none
  | .b, .b a, .b b => some (a == b)
  | .s, .s a, .s b => some (seq a b)
  | _, _, _ => none
def plain (P : Program) (t : TypeId) : Option CK := match P.underlying t with
  | some (.int k) => some (.i k)
  | some .bool => some .b
  | some .string => some .s
  | _ => none
def eqFs (P : Program) : List Field → List AS → List AS → Option Bool
  | [], _, _ => some true
  | f :: fs, xs, ys => cond (f.name == "_") none (match plain P f.type, xs[f.offset]?, ys[f.offset]? with
    | some k, some x, some y => match eq1 k x y with
      | none => none
      | some b => match eqFs P fs xs ys with
        | none => none
        | some r => some (b && r)
    | _, _, _ => none)
def aeqs (P : Program) (xt : TypeId) (xs ys : List AS) : Option Bool := match P.underlying xt with
  | some (.struct fs) => cond (P.stoodInHeld xt || P.eqGuardType P.depth xt) none (eqFs P fs.toList xs ys)
  | _ => none
def isShift : BinOp → Bool | .shl | .shr => true | _ => false
def abin (P : Program) (op : BinOp) (xt : TypeId) (x y : AV) : Option AR :=
  match x, y with
  | .sc (.i k a), .sc (.i k' b) =>
    match isShift op with
    | true => match binShift op k a b with | some (gs, v) => some ⟨gs, .sc v, [], 0⟩ | none => none
    | false => cond (keq k k') (match binInt op k a b with | some (gs, v) => some ⟨gs, .sc v, [], 0⟩ | none => none) none
  | .sc (.s a), .sc (.s b) => match binStr op a b with | some (gs, v) => some ⟨gs, .sc v, [], 0⟩ | none => none
  | .sc (.b a), .sc (.b b) => match op, P.underlying xt with
    | .eql, some .bool => sc (.b (a == b))
    | .neq, some .bool => sc (.b (!(a == b)))
    | _, _ => none
  | .ag xs, .ag ys => match op with
    | .eql => match aeqs P xt xs ys with | some r => sc (.b r) | none => none
    | .neq => match aeqs P xt xs ys with | some r => sc (.b (!r)) | none => none
    | _ => none
  | _, _ => none
def aun (op : UnOp) (x : AV) : Option AR := match op, x with
  | .not, .sc (.b x) => sc (.b !x)
  | .neg, .sc (.i k n) => sc (.i k (k.wrap (0 - n)))
  | _, _ => none
def aread (P : Program) (t e : TypeId) (fr : Bool) (xs : Rw) (ix o : Nat) : Option AR := match isAg P t with
  | true => cond (Nat.ble (o + esz P t) (esz P e)) (AR.pure (.ag (ofCs P e fr xs ix o (esz P t)))) none
  | false => cond (Nat.ble (o + 1) (esz P e)) (sc (ofC (ck P e o) fr (rd xs ix o))) none
def ofD (k : CK) (id iv ix : Nat) (c : C) : AS := match k with
  | .sl e => .ri id iv ix e
  | k => ofC k true c
def ofDs (P : Program) (e : TypeId) (id iv : Nat) (xs : Rw) (ix o n : Nat) : List AS :=
  (List.range n).map fun j => ofD (ck P e (o + j)) id iv ix (rd xs ix (o + j))
def areadD (P : Program) (t e : TypeId) (id iv : Nat) (xs : Rw) (ix o : Nat) : Option AR := match isAg P t with
  | true => cond (Nat.ble (o + esz P t) (esz P e)) (AR.pure (.ag (ofDs P e id iv xs ix o (esz P t)))) none
  | false => cond (Nat.ble (o + 1) (esz P e)) (sc (ofD (ck P e o) id iv ix (rd xs ix o))) none
def aload (P : Program) (lk : Lk) (t : TypeId) (a : AV) : Option AR := match P.underlying t, a with
  | some _, .sc (.pt id off) => match lk id with
    | .bx cells | .rb cells => match isAg P t with
      | true => cond (Nat.ble (off + esz P t) cells.length) (AR.pure (.ag ((cells.drop off).take (esz P t)))) none
      | false => (match cells[off]? with | some x => sc x | none => none)
    | _ => none
  | some _, .sc (.pe e fr xs ix o) => aread P t e fr xs ix o
  | some _, .sc (.po id n ix o) => match lk id with
    | .rw e fr xs ser => cond (Nat.beq n ser) (aread P t e fr xs ix o) none
    | .fz e fr xs ser => cond (Nat.beq n ser) (aread P t e fr xs ix o) none
    | .dw e c xs ser lo iv => cond (Nat.beq n ser && Nat.beq lo 0) (areadD P t e id iv xs ix o) none
    | _ => none
  | _, _ => none
def offCol (c : Option (Nat × TypeId)) (o n : Nat) : Bool := match c with
  | none => true
  | some (k, _) => Nat.ble (k + 1) o || Nat.ble (o + n) k
def toD (P : Program) (lk : Lk) (e : TypeId) : Nat → List AS → Option (List C × Option (Nat × TypeId × Nat))
  | _, [] => some ([], none)
  | o, x :: r => match toD P lk e (o + 1) r with
    | none => none
    | some (cs, q) => match ck P e o with
      | .sl e' => match q, x with
        | none, .ow j m => (match lk j with
          | .dw e2 none ys ser lo iv => cond ((Nat.beq e' e2 && flat P e') && (Nat.beq m ser && Nat.beq lo 0)) (some (.l ys :: cs, some (o, e', j))) none
          | _ => none)
        | _, _ => none
      | k => match toC P lk k x with
        | some (c, _, []) => some (c :: cs, q)
        | _ => none
def astore (P : Program) (lk : Lk) (t : TypeId) (a x : AV) : Option AR :=
  cond (!x.cells.isEmpty && (Nat.beq x.cells.length (esz P t) && x.cells.all AS.one)) (match a with
  | .sc (.pt id off) => match lk id with
    | .bx cells => cond (Nat.ble (off + x.cells.length) cells.length) (some ⟨[], .sc .ud, [(id, .bx (setMany cells off x.cells))], 0⟩) none
    | _ => none
  | .sc (.po id n ix o) => match lk id with
    | .rw e fr xs ser => cond (Nat.beq n ser && Nat.ble (o + x.cells.length) (esz P e)) (match toCs P lk e o x.cells with
      | some (cs, f, ids) => cond (has ids id) none (some ⟨[], .sc .ud, (id, .rw e (fr && f) (wrs xs ix o cs) ser) :: frz lk ids, 0⟩)
      | none => none) none
    | .dw e c xs ser lo iv => cond ((Nat.beq n ser && Nat.beq lo 0) && Nat.ble (o + x.cells.length) (esz P e)) (cond (offCol c o x.cells.length) (match toCs P lk e o x.cells with
      | some (cs, _, []) => some ⟨[], .sc .ud, [(id, .dw e c (wrs xs ix o cs) ser 0 iv)], 0⟩
      | _ => none) (match toD P lk e o x.cells with
      | some (cs, some (_, _, j)) => cond (Nat.beq j id) none (some ⟨[], .sc .ud, [(id, .dw e c (wrs xs ix o cs) ser 0 (iv + most)), (j, .gone)], 0⟩)
      | _ => none)) none
    | _ => none
  | _ => none) none
def now (lk : Lk) (id n : Nat) : Bool := match lk id with
  | .rw _ _ _ ser => Nat.beq n ser
  | .fz _ _ _ ser => Nat.beq n ser
  | .dw _ _ _ ser lo _ => Nat.beq n ser && Nat.beq lo 0
  | _ => false
def afield (P : Program) (lk : Lk) (s : TypeId) (f : Nat) : AV → Option AR
  | .sc x => match (fields P s)[f]? with
    | none => none
    | some fd => cond (Nat.beq (esz P fd.type) 0) none (match x with
      | .pt id off => sc (.pt id (off + fd.offset))
      | .pe e fr xs ix o => sc (.pe e fr xs ix (o + fd.offset))
      | .po id n ix o => cond (now lk id n) (sc (.po id n ix (o + fd.offset))) none
      | _ => none)
  | _ => none
def aindex (P : Program) (lk : Lk) (t : TypeId) : AV → AV → Option AR
  | .sc x, .sc (.i _ n) => match elOf P t with
    | none => none
    | some e => match P.info? e with
      | none => none
      | some _ => match x with
        | .fz e' fr xs => cond (Nat.beq e e') (some ⟨[inb n xs.length], .sc (.pe e fr xs n.toNat 0), [], 0⟩) none
        | .ow id m => match lk id with
          | .rw e' fr xs ser => cond (Nat.beq e e' && Nat.beq m ser) (some ⟨[inb n xs.length], .sc (.po id m n.toNat 0), [], 0⟩) none
          | .fz e' fr xs ser => cond (Nat.beq e e' && Nat.beq m ser) (some ⟨[inb n xs.length], .sc (.po id m n.toNat 0), [], 0⟩) none
          | .dw e' c xs ser lo iv => cond (Nat.beq e e' && (Nat.beq m ser && Nat.beq lo 0)) (some ⟨[inb n xs.length], .sc (.po id m n.toNat 0), [], 0⟩) none
          | _ => none
        | _ => none
  | _, _ => none
def rowOk (P : Program) (e : TypeId) : Bool := match zero P e with
  | some z => Nat.beq z.cells.length (esz P e) && !Nat.beq (esz P e) 0
  | none => false
def AO.deep : AO → Bool | .dw _ (some _) _ _ _ _ => true | _ => false
def shal (lk : Lk) (ids : List Nat) : Bool := ids.all fun id => !(lk id).deep
def asrc (P : Program) (lk : Lk) (e : TypeId) : AS → Option (Bool × Rw)
  | .s z => match ck P e 0, esz P e with | .i .u8, 1 => some (true, rowsOf z) | _, _ => none
  | x => match content lk x with | some (e', fr, ys, ids) => cond (fits e e' && shal lk ids) (some (fr || flat P e, ys)) none | none => none
def adw (P : Program) (lk : Lk) (nid : Nat) (e : TypeId) (s x : AS) : Option AR := match x with
  | .ow id2 m2 => match lk id2 with
    | .dw e2 c ys ser2 lo2 iv2 => cond (Nat.beq e e2 && (Nat.beq m2 ser2 && Nat.beq lo2 0)) (match s with
      | .ns => some ⟨[decide (ys.length ≤ most)], .sc (.ow nid 0), [(nid, .dw e c ys 0 0 0), (id2, .gone)], 1⟩
      | .ow id m => match lk id with
        | .dw e1 c1 xs ser lo iv => cond (Nat.beq e e1 && (Nat.beq m ser && (Nat.beq lo 0 && !Nat.beq id id2))) (some ⟨[decide (xs.length + ys.length ≤ most)], .sc (.ow id (ser + 1)), [(id, .dw e c (xs ++ ys) (ser + 1) 0 (iv + 1)), (id2, .gone)], 0⟩) none
        | _ => none
      | _ => none) none
    | _ => none
  | .sb id2 m2 l h => match lk id2 with
    | .dw e2 c ys ser2 lo2 iv2 => cond (Nat.beq e e2 && Nat.beq m2 ser2) (match s with
      | .ns => cond (Nat.beq l 0 && Nat.beq lo2 0) (some ⟨[decide ((Eng.sub ys 0 h).length ≤ most)], .sc (.ow nid 0), [(nid, .dw e c (Eng.sub ys 0 h) 0 0 0), (id2, .dw e c ys ser2 h (iv2 + 1))], 1⟩) none
      | .ow id m => match lk id with
        | .dw e1 c1 xs ser lo iv => cond (Nat.beq e e1 && (Nat.beq m ser && (Nat.beq lo 0 && !Nat.beq id id2))) (some ⟨[decide (xs.length + (Eng.sub ys l h).length ≤ most), Nat.beq l lo2, Nat.beq h ys.length], .sc (.ow id (ser + 1)), [(id, .dw e c (xs ++ Eng.sub ys l h) (ser + 1) 0 (iv + 1)), (id2, .gone)], 0⟩) none
        | _ => none
      | .sb id m l1 h1 => cond ((Nat.beq id id2 && Nat.beq m ser2) && (Nat.beq l1 0 && Nat.beq lo2 0)) (some ⟨[decide ((Eng.sub ys 0 h1).length + (Eng.sub ys l h).length ≤ most), Nat.ble h1 l], .sc (.ow id (ser2 + 1)), [(id, .dw e c (Eng.sub ys 0 h1 ++ Eng.sub ys l h) (ser2 + 1) 0 (iv2 + 1))], 0⟩) none
      | _ => none) none
    | _ => none
  | _ => none
def aappend (P : Program) (lk : Lk) (nid : Nat) (st : TypeId) (s x : AV) : Option AR :=
  match elOf P st, s, x with
  | some e, .sc s, .sc x => match adw P lk nid e s x with
   | some r => cond (Nat.ble (ebytes P e) 128 && rowOk P e) (some r) none
   | none => match asrc P lk e x with
    | none => none
    | some (f, ys) => cond (Nat.ble (ebytes P e) 128 && rowOk P e) (match s with
      | .ns => some ⟨[decide (ys.length ≤ most)], .sc (.ow nid 0), [(nid, .rw e f ys 0)], 1⟩
      | .ow id m => match lk id with
        | .rw e' fr xs ser => cond (Nat.beq e e' && Nat.beq m ser) (some ⟨[decide (xs.length + ys.length ≤ most)], .sc (.ow id (ser + 1)), [(id, .rw e (fr && f) (xs ++ ys) (ser + 1))], 0⟩) none
        | _ => none
      | .sb id m lo hi => match lk id with
        | .rw e' fr xs ser => cond (Nat.beq e e' && Nat.beq m ser) (some ⟨[decide ((Eng.sub xs lo hi).length + ys.length ≤ most)], .sc (.ow id (ser + 1)), [(id, .rw e (fr && f) (Eng.sub xs lo hi ++ ys) (ser + 1))], 0⟩) none
        | _ => none
      | _ => none) none
  | _, _, _ => none
def bounds (len : Nat) (lo hi : Option AV) : Option (List Bool × Nat × Nat) :=
  match (match hi with | none => some ([], len) | some (.sc (.i _ n)) => some ([decide (0 ≤ n), decide (n ≤ (len : Int))], n.toNat) | _ => none) with
  | none => none
  | some (g1, h) => match lo with
    | none => some (g1, 0, h)
    | some (.sc (.i _ n)) => some (g1 ++ [decide (0 ≤ n), decide (n ≤ (h : Int))], n.toNat, h)
    | _ => none
def aslice (P : Program) (lk : Lk) (t : TypeId) (x : AV) (lo hi : Option AV) : Option AR :=
  match P.underlying t, x with
  | some .string, .sc (.s z) => match bounds z.size lo hi with
    | some (gs, l, h) => some ⟨gs, .sc (.s (z.extract l h)), [], 0⟩
    | none => none
  | some (.slice e), .sc x => match P.info? e with
   | none => none
   | some _ => match x with
    | .ns => match bounds 0 lo hi with | some (gs, _, _) => some ⟨gs, .sc .ns, [], 0⟩ | none => none
    | .fz e' fr xs => cond (Nat.beq e e') (match bounds xs.length lo hi with
      | some (gs, l, h) => some ⟨gs, .sc (.fz e fr (sub xs l h)), [], 0⟩
      | none => none) none
    | .ow id m => match lk id with
      | .rw e' _ xs ser => cond (Nat.beq e e' && Nat.beq m ser) (match bounds xs.length lo hi with
        | some (gs, l, h) => some ⟨gs, .sc (.sb id m l h), [], 0⟩
        | none => none) none
      | .fz e' fr xs ser => cond (Nat.beq e e' && Nat.beq m ser) (match bounds xs.length lo hi with
        | some (gs, l, h) => some ⟨gs, .sc (.fz e fr (sub xs l h)), [], 0⟩
        | none => none) none
      | .dw e' _ xs ser _ _ => cond (Nat.beq e e' && Nat.beq m ser) (match bounds xs.length lo hi with
        | some (gs, l, h) => some ⟨gs, .sc (.sb id m l h), [], 0⟩
        | none => none) none
      | _ => none
    | _ => none
  | _, _ => none
def aconv (P : Program) (lk : Lk) (nid : Nat) (src dst : TypeId) : AV → Option AR
  | .sc x => match P.underlying src, P.underlying dst, x with
    | some (.int _), some (.int k), .i _ n => sc (.i k (k.wrap n))
    | some .string, some .string, .s z => sc (.s z)
    | some .string, some (.slice e), .s z => match P.underlying e with
      | some (.int .u8) => cond (Nat.beq (esz P e) 1) (some ⟨[], .sc (.ow nid 0), [(nid, .fz e true (rowsOf z) 0)], 1⟩) none
      | _ => none
    | some (.slice e), some .string, x => match P.underlying e, content lk x with
      | some (.int .u8), some (e', _, xs, ids) => cond ((fits e e' && Nat.beq (esz P e) 1) && shal lk ids) (sc (.s (bytesOf xs))) none
      | _, _ => none
    | _, _, _ => none
  | _ => none
def pk (P : Program) (t : TypeId) : CK := (plain P t).getD .x
def toCk : CK → AS → Option C
  | .i k, .i k' n => cond (keq k k') (some (.i n)) none
  | .b, .b x => some (.b x)
  | .s, .s x => some (.s x)
  | _, _ => none
def ceq (k : CK) (a b : C) : Bool := match k with
  | .i _ => a.int == b.int
  | .b => a.bool == b.bool
  | .s => a.str == b.str
  | _ => false
def mget (k : CK) (x : C) : List (C × C) → Option C
  | [] => none
  | (k', v') :: r => cond (ceq k x k') (some v') (mget k x r)
def mput (k : CK) (x v : C) : List (C × C) → List (C × C)
  | [] => [(x, v)]
  | (k', v') :: r => cond (ceq k x k') ((x, v) :: r) ((k', v') :: mput k x v r)
def alookup (P : Program) (lk : Lk) (t : TypeId) (ok : Bool) : AV → AV → Option AR
  | .sc m, .sc k => match P.underlying t with
    | some (.map kt vt) => match toCk (pk P kt) k, zero P vt with
      | some kc, some (.sc zx) => match toCk (pk P vt) zx with
        | none => none
        | some z => match (match m with
          | .nm => some []
          | .mp id => (match lk id with | .mp kt' vt' es => cond (Nat.beq kt kt' && Nat.beq vt vt') (some es) none | _ => none)
          | _ => none) with
          | none => none
          | some es => match ok with
            | true => AR.pure (.tu [(false, [ofC (pk P vt) true ((mget (pk P kt) kc es).getD z)]), (false, [.b (mget (pk P kt) kc es).isSome])])
            | false => sc (ofC (pk P vt) true ((mget (pk P kt) kc es).getD z))
      | _, _ => none
    | _ => none
  | _, _ => none
def amapup (P : Program) (lk : Lk) (t : TypeId) : AV → AV → AV → Option AR
  | .sc (.mp id), .sc k, .sc v => match P.underlying t, lk id with
    | some (.map kt vt), .mp kt' vt' es => cond (Nat.beq kt kt' && Nat.beq vt vt') (match toCk (pk P kt) k, toCk (pk P vt) v with
      | some kc, some vc => some ⟨[], .sc .ud, [(id, .mp kt vt (mput (pk P kt) kc vc es))], 0⟩
      | _, _ => none) none
    | _, _ => none
  | _, _, _ => none
def aextract (ix : Nat) : AV → Option AR
  | .tu vs => match vs[ix]? with
    | some (true, xs) => AR.pure (.ag xs)
    | some (false, [x]) => sc x
    | _ => none
  | _ => none
def mx2 (a b : Int) : Int := if b > a then b else a
def mn2 (a b : Int) : Int := if b < a then b else a
def amm (mx : Bool) (k : IntKind) : Int → List AV → Option AS
  | a, [] => some (.i k a)
  | a, .sc (.i k' b) :: r => cond (keq k k') (amm mx k (cond mx (mx2 a b) (mn2 a b)) r) none
  | _, _ => none
def acall (P : Program) (b : Builtin) (ats : Array TypeId) (lk : Lk) (nid : Nat) (vs : List AV) : Option AR :=
  match b, vs with
  | .len, [.sc (.s z)] => match (ats[0]?).bind P.underlying with | some .string => sc (.i .i64 (z.size : Int)) | _ => none
  | .len, [.sc x] => match (ats[0]?).bind P.underlying with
    | some (.slice _) => match content lk x with | some (_, _, xs, _) => sc (.i .i64 (xs.length : Int)) | none => none
    | _ => none
  | .append, [s, x] => match ats.toList with
    | [st, u] => match P.underlying u with
      | some (.slice _) => aappend P lk nid st s x
      | some .string => aappend P lk nid st s x
      | _ => none
    | _ => none
  | .max, .sc (.i k a) :: r => match amm true k a r with | some x => sc x | none => none
  | .min, .sc (.i k a) :: r => match amm false k a r with | some x => sc x | none => none
  | _, _ => none
def optAt : List AV → Option Operand → Option (Option AV × List AV)
  | r, none => some (none, r)
  | x :: r, some _ => some (some x, r)
  | [], some _ => none
def abuild (P : Program) (t : TypeId) (ps : List Nat) (vs : List AV) : Option AR := match zero P t, P.underlying t with
  | some (.ag z), some (.struct fs) => cond (fs.toList.all fun f => (P.info? f.type).isSome) (match lay (fun i => (fs.toList[i]?).map fun f => (f.offset, esz P f.type)) z (ps.zip vs) with
    | some cs => AR.pure (.ag cs)
    | none => none) none
  | _, _ => none
def dkB (P : Program) (e : TypeId) : Option (Nat × TypeId) → Bool
  | none => flat P e
  | some (k, e') => (Nat.ble (k + 1) (esz P e) && match ck P e k with | .sl e2 => Nat.beq e2 e' | _ => false) && (flat P e' && (List.range (kinds P 8 e).length).all fun o => Nat.beq o k || match ck P e o with | .sl _ => false | _ => true)
def abuildSlice (P : Program) (lk : Lk) (nid : Nat) (t : TypeId) (n : Nat) (ps : List Nat) (vs : List AV) : Option AR := match elOf P t with
  | none => none
  | some e => match zero P e with
    | none => none
    | some z => cond (Nat.ble (n * esz P e) 16777216 && rowOk P e) (match lay (fun i => some (i * esz P e, esz P e)) (List.replicate n z.cells).flatten (ps.zip vs) with
      | none => none
      | some cs => match (match n with | 1 => toD P lk e 0 cs | _ => none) with
       | some (row, some (o, e', j)) => cond (dkB P e (some (o, e'))) (some ⟨[], .sc (.ow nid 0), [(nid, .dw e (some (o, e')) [row] 0 0 0), (j, .gone)], 1⟩) none
       | _ => match rowsC P lk e (esz P e) n cs with
        | some (xs, f, ids) => some ⟨[], .sc (.ow nid 0), (nid, .rw e f xs 0) :: frz lk ids, 1⟩
        | none => none) none
def anil (lk : Lk) : AV → Option AR
  | .sc (.pt id off) => sc (.pt id off)
  | .sc (.pe e fr xs ix o) => sc (.pe e fr xs ix o)
  | .sc (.po id n ix o) => cond (now lk id n) (sc (.po id n ix o)) none
  | _ => none
def capsOf : List AV → Option (List (Nat × Nat))
  | [] => some []
  | .sc (.pt id off) :: r => match capsOf r with | some cs => some ((id, off) :: cs) | none => none
  | _ => none
def dcolF (ks : List CK) : Nat → Option (Nat × TypeId) := match ks with
  | [] => fun _ => none
  | .sl e :: _ => fun n => some (n, e)
  | _ :: r => fun n => dcolF r (n + 1)
def AS.isNs : AS → Bool | .ns => true | _ => false
def dcol (P : Program) (e : TypeId) (z : AV) : Option (Nat × TypeId) := match dcolF (kinds P 8 e) 0 with
  | some (k, e') => cond (dkB P e (some (k, e')) && (z.cells.getD k .un).isNs) (some (k, e')) none
  | none => none
def amake (P : Program) (lk : Lk) (nid : Nat) (t : TypeId) : AV → AV → Option AR
  | .sc (.i k n), .sc (.i k' m) => match elOf P t with
    | none => none
    | some e => match zero P e with
      | none => none
      | some z => match toCs P lk e 0 z.cells with
        | some (c, true, []) => cond (Nat.ble (ebytes P e) 128 && rowOk P e) (some ⟨[decide (0 ≤ n), n == m, decide (n ≤ most)], .sc (.ow nid 0), [(nid, match dcol P e z with | some d => .dw e (some d) (List.replicate n.toNat c) 0 0 0 | none => .rw e true (List.replicate n.toNat c) 0)], 1⟩) none
        | _ => none
  | _, _ => none
def afieldV (P : Program) (s : TypeId) (f : Nat) : AV → Option AR
  | .ag cs => match (fields P s)[f]? with
    | none => none
    | some fd => match P.underlying fd.type with
      | none => none
      | some _ => match isAg P fd.type with
        | true => cond (Nat.ble (fd.offset + esz P fd.type) cs.length) (AR.pure (.ag ((cs.drop fd.offset).take (esz P fd.type)))) none
        | false => (match cs[fd.offset]? with | some x => sc x | none => none)
  | _ => none
def aindexS (P : Program) (t : TypeId) : AV → AV → Option AR
  | .sc (.s z), .sc (.i _ n) => match P.underlying t with
    | some .string => some ⟨[inb n z.size], .sc (.i .u8 (byteAt z n.toNat)), [], 0⟩
    | _ => none
  | _, _ => none
def apick (c x y : AV) : Option AR := match c with
  | .sc (.b c) => AR.pure (match c with | true => x | false => y)
  | _ => none
def abox (nid : Nat) : AV → Option AR
  | .tu _ => none
  | x => some ⟨[], .sc (.pt nid 0), [(nid, .bx x.cells)], 1⟩
def acore (P : Program) (op : Op) (lk : Lk) (nid : Nat) (vs : List AV) : Option AR := match op with
  | .move _ => match vs with | [x] => AR.pure x | _ => none
  | .assign _ => match vs with | [x] => AR.pure x | _ => none
  | .pick _ _ _ => match vs with | [c, x, y] => apick c x y | _ => none
  | .alloc t => match zero P t with | some z => some ⟨[], .sc (.pt nid 0), [(nid, .bx z.cells)], 1⟩ | none => none
  | .box _ _ => match vs with | [x] => abox nid x | _ => none
  | .build t ps => abuild P t (ps.toList.map (·.1)) vs
  | .buildSlice t n ps => abuildSlice P lk nid t n (ps.toList.map (·.1)) vs
  | .load t x => match x with
    | .global _ => cond (isAg P t && Nat.beq (esz P t) 0) (AR.pure (.ag [])) none
    | _ => match vs with | [a] => aload P lk t a | _ => none
  | .store t _ _ => match vs with | [a, x] => astore P lk t a x | _ => none
  | .nilCheck _ => match vs with | [x] => anil lk x | _ => none
  | .binOp op xt _ _ _ => match vs with | [x, y] => abin P op xt x y | _ => none
  | .unOp op _ _ => match vs with | [x] => aun op x | _ => none
  | .convert s d _ => match vs with | [x] => aconv P lk nid s d x | _ => none
  | .makeFunc (.func f) first _ => cond (Nat.beq first.size 0) (match capsOf vs with
    | some caps => sc (.fn f caps)
    | none => none) none
  | .makeMap t none => match P.underlying t with | some (.map kt vt) => some ⟨[], .sc (.mp nid), [(nid, .mp kt vt [])], 1⟩ | _ => none
  | .makeSlice t _ _ => match vs with | [n, m] => amake P lk nid t n m | _ => none
  | .slice t _ lo hi none => match vs with
    | x :: r => match optAt r lo with
      | none => none
      | some (l, r') => match optAt r' hi with
        | some (h, []) => aslice P lk t x l h
        | _ => none
    | _ => none
  | .fieldAddr s _ f => match vs with | [x] => afield P lk s f x | _ => none
  | .field s _ f => match vs with | [x] => afieldV P s f x | _ => none
  | .indexAddr t _ _ => match vs with | [x, i] => aindex P lk t x i | _ => none
  | .index t _ _ => match vs with | [x, i] => aindexS P t x i | _ => none
  | .lookup t _ _ ok => match vs with | [m, k] => alookup P lk t ok m k | _ => none
  | .mapUpdate t _ _ _ => match vs with | [m, k, v] => amapup P lk t m k v | _ => none
  | .extract _ ix => match vs with | [x] => aextract ix x | _ => none
  | .call c => match c.callee with
    | .builtin b => acall P b c.argTypes lk nid vs
    | _ => none
  | _ => none
end Go.Eng
end
section
namespace Go.Eng
open Go
inductive PS where
  | un
  | i (k : IntKind) (n : Nat)
  | b (n : Nat)
  | s (n : Nat)
  | fz (e : TypeId) (fr : Bool) (n : Nat)
  | ow (j : Nat)
  | pt (j off : Nat)
  | fn (f : Nat) (caps : List (Nat × Nat))
  | mp (j : Nat)
inductive PV where
  | sc (p : PS)
  | ag (ps : List PS)
  | tu (ps : List (Bool × List PS))
inductive PO where
  | bx (ps : List PS)
  | rb (ps : List PS)
  | rw (e : TypeId) (fr : Bool) (n : Nat)
  | mp (kt vt : TypeId) (n : Nat)
  | dw (e : TypeId) (c : Option (Nat × TypeId)) (n : Nat)
structure Pat where
  vals : List PV
  objs : List PO
inductive Bd where
  | o (id base : Nat)
  | nil
  | sb (id lo hi : Nat)
  | el (id ix : Nat)
structure Env where
  lv : List Lf
  n : Nat
  ids : List (Nat × Bd)
  bo : List Nat
  af : Bool
def Env.push (E : Env) (n : Nat) (x : Lf) : Option Env := cond (Nat.beq n E.n) (some { E with lv := x :: E.lv, n := E.n + 1 }) none
def bd : List (Nat × Bd) → Nat → Option Bd
  | [], _ => none
  | (k, v) :: r, n => cond (Nat.beq k n) (some v) (bd r n)
def Env.bind (E : Env) (j : Nat) (id base : Nat) : Option Env := match bd E.ids j with
  | none => some { E with ids := (j, .o id base) :: E.ids }
  | some (.o id' base') => cond (Nat.beq id id' && Nat.beq base base') (some E) none
  | some _ => none
def Env.bindNew (E : Env) (j : Nat) (b : Bd) : Option Env := match bd E.ids j with
  | none => some { E with ids := (j, b) :: E.ids }
  | some _ => none
def mcaps : List (Nat × Nat) → List (Nat × Nat) → Env → Option Env
  | [], [], E => some E
  | (j, o) :: r, (id, o') :: r', E => cond (Nat.ble o o') (match E.bind j id (o' - o) with | some E' => mcaps r r' E' | none => none) none
  | _, _, _ => none
def mS (lk : Lk) (p : PS) (x : AS) (E : Env) : Option Env := match p with
  | .un => some E
  | .i k n => match x with | .i k' x => cond (keq k k') (E.push n (.i x)) none | _ => none
  | .b n => match x with | .b x => E.push n (.b x) | _ => none
  | .s n => match x with | .s x => E.push n (.s x) | _ => none
  | .fz e fr n => match content lk x with
    | some (e', fr', xs, ids) => cond (fits e e' && (!fr || fr')) (({ E with bo := ids ++ E.bo, af := E.af && fr' } : Env).push n (.l xs)) none
    | none => none
  | .ow j => match x with
    | .ow id m => match lk id with
      | .rw _ _ _ ser => cond (Nat.beq m ser) (E.bind j id 0) none
      | .dw _ _ _ ser lo _ => cond (Nat.beq m ser && Nat.beq lo 0) (E.bind j id 0) none
      | _ => none
    | .ri id n ix _ => match lk id with | .dw _ _ _ _ lo iv => cond (Nat.beq n iv && Nat.beq lo 0) (E.bindNew j (.el id ix)) none | _ => none
    | .sb id m lo hi => match lk id with | .rw _ _ _ ser => cond (Nat.beq m ser) (E.bindNew j (.sb id lo hi)) none | _ => none
    | .ns => E.bindNew j .nil
    | _ => none
  | .pt j o => match x with | .pt id o' => cond (Nat.ble o o') (E.bind j id (o' - o)) none | _ => none
  | .fn f caps => match x with | .fn f' caps' => cond (Nat.beq f f') (mcaps caps caps' E) none | _ => none
  | .mp j => match x with | .mp id => E.bind j id 0 | _ => none
def mSs (lk : Lk) : List PS → List AS → Env → Option Env
  | [], [], E => some E
  | p :: ps, x :: xs, E => match mS lk p x E with | some E' => mSs lk ps xs E' | none => none
  | _, _, _ => none
def mTs (lk : Lk) : List (Bool × List PS) → List (Bool × List AS) → Env → Option Env
  | [], [], E => some E
  | (a, p) :: ps, (b, x) :: xs, E => cond (a == b) (match mSs lk p x E with | some E' => mTs lk ps xs E' | none => none) none
  | _, _, _ => none
def mV (lk : Lk) (p : PV) (x : AV) (E : Env) : Option Env := match p, x with
  | .sc p, .sc x => mS lk p x E
  | .ag ps, .ag xs => mSs lk ps xs E
  | .tu ps, .tu xs => mTs lk ps xs E
  | _, _ => none
def mVs (lk : Lk) : List PV → List AV → Env → Option Env
  | [], [], E => some E
  | p :: ps, x :: xs, E => match mV lk p x E with | some E' => mVs lk ps xs E' | none => none
  | _, _, _ => none
def ceqO : Option (Nat × TypeId) → Option (Nat × TypeId) → Bool
  | none, none => true
  | some (a, b), some (c, d) => Nat.beq a c && Nat.beq b d
  | _, _ => false
def mO (P : Program) (lk : Lk) (p : PO) (b : Bd) (E : Env) : Option Env := match p, b with
  | .bx ps, .o id base => match lk id with
    | .bx cells => cond (Nat.ble (base + ps.length) cells.length) (mSs lk ps ((cells.drop base).take ps.length) E) none
    | _ => none
  | .rb ps, .o id base => match lk id with
    | .bx cells | .rb cells => cond (Nat.ble (base + ps.length) cells.length) (mSs lk ps ((cells.drop base).take ps.length) E) none
    | _ => none
  | .rw e fr n, .o id 0 => match lk id with
    | .rw e' fr' xs _ => cond (Nat.beq e e' && (!fr || fr')) (({ E with af := E.af && fr' } : Env).push n (.l xs)) none
    | .dw e' none xs _ lo _ => cond ((Nat.beq e e' && Nat.beq lo 0) && !fr) (({ E with af := false } : Env).push n (.l xs)) none
    | _ => none
  | .rw e fr n, .el id ix => match lk id with
    | .dw _ (some (c, e')) xs _ lo _ => cond ((Nat.beq e e' && Nat.beq lo 0) && !fr) (({ E with af := false } : Env).push n (.l (rd xs ix c).list)) none
    | _ => none
  | .dw e c n, .o id 0 => match lk id with
    | .dw e' c' xs _ lo _ => cond ((Nat.beq e e' && Nat.beq lo 0) && ceqO c c') (({ E with af := false } : Env).push n (.l xs)) none
    | .rw e' fr' xs _ => cond ((Nat.beq e e' && flat P e) && ceqO c none) (({ E with af := false } : Env).push n (.l xs)) none
    | _ => none
  | .dw e c n, .nil => cond (dkB P e c) (E.push n (.l [])) none
  | .rw e fr n, .sb id lo hi => match lk id with
    | .rw e' fr' xs _ => cond (Nat.beq e e' && (!fr || fr')) (({ E with af := E.af && fr' } : Env).push n (.l (Eng.sub xs lo hi))) none
    | _ => none
  | .rw e fr n, .nil => E.push n (.l [])
  | .mp kt vt n, .o id 0 => match lk id with
    | .mp kt' vt' es => cond (Nat.beq kt kt' && Nat.beq vt vt') (E.push n (.m es)) none
    | _ => none
  | _, _ => none
def mOs (P : Program) (lk : Lk) : Nat → List PO → Env → Option Env
  | _, [], E => some E
  | j, p :: ps, E => match bd E.ids j with
    | none => none
    | some b => match mO P lk p b E with | some E' => mOs P lk (j + 1) ps E' | none => none
def Bd.ids : Bd → List Nat | .o id _ => [id] | .sb id _ _ => [id] | .nil => [] | .el id _ => [id]
def nodup : List Nat → Bool
  | [] => true
  | x :: r => !has r x && nodup r
def mtch (P : Program) (lk : Lk) (p : Pat) (vals : List AV) (known : List (Nat × Bd)) : Option Env :=
  match mVs lk p.vals vals ⟨[], 0, known, [], true⟩ with
  | none => none
  | some E => match mOs P lk 0 p.objs E with
    | none => none
    | some E => cond (nodup (E.ids.flatMap fun x => x.2.ids) && (E.bo.all (fun id => !has (E.ids.flatMap fun x => x.2.ids) id) && E.ids.all fun x => Nat.ble (x.1 + 1) p.objs.length)) (some E) none
abbrev Im := Nat → Nat × Nat
def PS.inst (lv : Lv) (im : Im) (fo : Bool) : PS → AS
  | .un => .un
  | .i k n => .i k (g lv n).int
  | .b n => .b (g lv n).bool
  | .s n => .s (g lv n).str
  | .fz e fr n => .fz e (fr || fo) (g lv n).list
  | .ow j => .ow (im j).1 0
  | .pt j o => .pt (im j).1 ((im j).2 + o)
  | .fn f caps => .fn f (caps.map fun c => ((im c.1).1, (im c.1).2 + c.2))
  | .mp j => .mp (im j).1
def PV.inst (lv : Lv) (im : Im) (fo : Bool) : PV → AV
  | .sc p => .sc (p.inst lv im fo)
  | .ag ps => .ag (ps.map (·.inst lv im fo))
  | .tu ps => .tu (ps.map fun x => (x.1, x.2.map (·.inst lv im fo)))
def PO.inst (lv : Lv) (im : Im) (fo : Bool) : PO → AO
  | .bx ps => .bx (ps.map (·.inst lv im fo))
  | .rb ps => .rb (ps.map (·.inst lv im fo))
  | .rw e fr n => .rw e (fr || fo) (g lv n).list 0
  | .mp kt vt n => .mp kt vt (g lv n).map
  | .dw e c n => .dw e c (g lv n).list 0 0 0
def numbered {α : Type} : Nat → List α → List (Nat × α)
  | _, [] => []
  | n, x :: r => (n, x) :: numbered (n + 1) r
def selfIm : Im := fun j => (j, 0)
structure Sig where
  fn : Nat
  nb : Nat
  pre : Pat
  post : Pat
  sh : Bool
  f : Lv → Option Lv
def PS.nf : PS → Bool | .fz _ fr _ => !fr | _ => true
def PV.nf : PV → Bool | .sc p => p.nf | .ag ps => ps.all PS.nf | .tu ts => ts.all fun t => t.2.all PS.nf
def PO.nf : PO → Bool | .bx ps => ps.all PS.nf | .rb ps => ps.all PS.nf | .rw _ fr _ => !fr | .mp _ _ _ => true | .dw _ _ _ => true
def Pat.nf (p : Pat) : Bool := p.vals.all PV.nf && p.objs.all PO.nf
def PS.tr : PS → Bool | .fz _ fr _ => fr | _ => true
def PV.tr : PV → Bool | .sc p => p.tr | .ag ps => ps.all PS.tr | .tu ts => ts.all fun t => t.2.all PS.tr
def PO.tr : PO → Bool | .bx ps => ps.all PS.tr | .rb ps => ps.all PS.tr | .rw _ fr _ => fr | .mp _ _ _ => true | .dw _ _ _ => true
def Pat.tr (p : Pat) : Bool := p.vals.all PV.tr && p.objs.all PO.tr
def stays : Nat → List PO → List PO → Bool
  | 0, _, _ => true
  | n + 1, .bx ps :: r, .bx qs :: r' => Nat.beq ps.length qs.length && stays n r r'
  | n + 1, .mp kt vt _ :: r, .mp kt' vt' _ :: r' => (Nat.beq kt kt' && Nat.beq vt vt') && stays n r r'
  | n + 1, .rw e _ _ :: r, .rw e' _ _ :: r' => Nat.beq e e' && stays n r r'
  | n + 1, .dw e c _ :: r, .dw e' c' _ :: r' => (Nat.beq e e' && ceqO c c') && stays n r r'
  | _, _, _ => false
def PO.lent : PO → Bool | .rb _ => true | .rw _ _ _ => true | .dw _ _ _ => true | _ => false
def PO.new : PO → Bool | .rb _ => false | _ => true
def Sig.ok (s : Sig) : Bool := s.pre.nf && (stays s.nb s.pre.objs s.post.objs && ((s.pre.objs.drop s.nb).all PO.lent && ((s.post.objs.drop s.nb).all PO.new && (Nat.beq s.post.vals.length 1 && (s.sh || s.post.tr)))))
def sigOf (f : Nat) : List Sig → Option Sig
  | [] => none
  | s :: r => cond (Nat.beq s.fn f) (some s) (sigOf f r)
def more (ob : Nat → AO) (ids : List Nat) : List Nat := ids ++ ids.flatMap fun id => match ob id with
  | .bx cells | .rb cells => cells.flatMap AS.ids
  | _ => []
def rlk (ids : List Nat) (ob : Nat → AO) : Lk := fun id => cond (has ids id) (ob id) .dead
structure Log where
  dst : Nat
  tr : Nat
  rd : Nat
  wr : Nat
def bit (n : Nat) : Nat := 1 <<< n
def bits (l : List Nat) : Nat := l.foldr (fun n m => bit n ||| m) 0
def St.put (σ : St) (dst : Option Nat) (v : AV) : St := match dst with
  | none => σ
  | some d => { σ with tm := (d, v) :: σ.tm }
def St.apply (σ : St) (dst : Option Nat) (v : AV) (ws : List (Nat × AO)) (nn : Nat) : St :=
  { (σ.put dst v) with ob := ws ++ σ.ob, nx := σ.nx + nn }
def guards : List Bool → Option Lv → Option Lv
  | [], k => k
  | b :: r, k => cond b (guards r k) none
def bdIm (ids : List (Nat × Bd)) (nb nid : Nat) : Im := fun j => cond (Nat.ble nb j) (nid + (j - nb), 0) (match bd ids j with | some (.o id base) => (id, base) | _ => (0, 0))
def back1 (lk : Lk) (lv : Lv) (im : Im) (fo : Bool) : Bd → PO → List (Nat × AO)
  | .o id base, .bx qs => match lk id with | .bx cells => [(id, .bx (setMany cells base (qs.map (·.inst lv im fo))))] | _ => []
  | .o id _, .mp kt vt n => [(id, .mp kt vt (g lv n).map)]
  | .o id _, .rw e fr n => match lk id with | .rw _ _ _ ser => [(id, .rw e (fr || fo) (g lv n).list ser)] | _ => []
  | .o id _, .dw e c n => match lk id with | .dw _ _ _ ser lo iv => [(id, .dw e c (g lv n).list ser lo (iv + 1))] | _ => []
  | .el id ix, .rw e fr n => match lk id with | .dw e' (some (c, e2)) xs ser lo iv => [(id, .dw e' (some (c, e2)) (wr xs ix c (.l (g lv n).list)) ser lo (iv + 1))] | _ => []
  | _, _ => []
def back (lk : Lk) (ids : List (Nat × Bd)) (lv : Lv) (im : Im) (fo : Bool) : Nat → Nat → List PO → List (Nat × AO)
  | 0, _, _ => []
  | _, _, [] => []
  | n + 1, j, p :: ps => match bd ids j with
    | some b => back1 lk lv im fo b p ++ back lk ids lv im fo n (j + 1) ps
    | none => back lk ids lv im fo n (j + 1) ps
def given (nb : Nat) (ids : List (Nat × Bd)) : Nat → List PO → List (Nat × AO)
  | _, [] => []
  | j, p :: ps => cond (Nat.ble nb j) (match p, bd ids j with
    | .rw _ _ _, some (.o id _) => (id, .gone) :: given nb ids (j + 1) ps
    | .rw _ _ _, some (.sb id _ _) => (id, .gone) :: given nb ids (j + 1) ps
    | .dw _ _ _, some (.o id _) => (id, .gone) :: given nb ids (j + 1) ps
    | _, _ => given nb ids (j + 1) ps) (given nb ids (j + 1) ps)
def bdOk (lk : Lk) (ids : List (Nat × Bd)) : Nat → Nat → List PO → Bool
  | _, _, [] => true
  | 0, j, _ :: r => (match bd ids j with | some (.el _ _) => false | _ => true) && bdOk lk ids 0 (j + 1) r
  | n + 1, j, .rw _ _ _ :: r => (match bd ids j with
    | some (.o id _) => (match lk id with | .rw _ _ _ _ => true | _ => false)
    | some (.el _ _) => true
    | _ => false) && bdOk lk ids n (j + 1) r
  | n + 1, j, .dw _ _ _ :: r => (match bd ids j with
    | some (.o id _) => (match lk id with | .dw _ _ _ _ _ _ => true | _ => false)
    | _ => false) && bdOk lk ids n (j + 1) r
  | n + 1, j, _ :: r => bdOk lk ids n (j + 1) r
def PS.free : PS → Bool | .ow _ => false | _ => true
def PV.free : PV → Bool | .sc p => p.free | .ag ps => ps.all PS.free | .tu ts => ts.all fun t => t.2.all PS.free
def PO.free : PO → Bool | .bx ps => ps.all PS.free | .rb ps => ps.all PS.free | _ => true
def Bd.isEl : Bd → Bool | .el _ _ => true | _ => false
def elOk (ids : List (Nat × Bd)) (post : Pat) : Bool := !(ids.any fun x => x.2.isEl) || (post.vals.all PV.free && post.objs.all PO.free)
def called (s : Sig) (lk : Lk) (nid : Nat) (E : Env) (y : Lv) : AR :=
  let im := bdIm E.ids s.nb nid
  { gs := [], v := match s.post.vals with | [p] => p.inst y im E.af | _ => .sc .un
    ws := back lk E.ids y im E.af s.nb 0 s.post.objs ++ (numbered nid ((s.post.objs.drop s.nb).map (·.inst y im E.af)) ++ (given s.nb E.ids 0 s.pre.objs ++ cond s.sh (frz lk E.bo) []))
    nn := s.post.objs.length - s.nb }
def capArgs (caps : List (Nat × Nat)) : List AV := caps.map fun c => .sc (.pt c.1 c.2)
def wsOk (nx nn : Nat) (ws : List (Nat × AO)) : Bool := ws.all (fun x => Nat.ble (x.1 + 1) (nx + nn)) && (List.range nn).all fun t => has (ws.map (·.1)) (nx + t)
def looks : Op → Bool
  | .move _ | .assign _ | .pick _ _ _ | .box _ _ | .alloc _ | .build _ _ | .extract _ _ | .field _ _ _ | .unOp _ _ _ | .binOp _ _ _ _ _ | .makeFunc _ _ _ => false
  | _ => true
def opIds (op : Op) (vs : List AV) : List Nat := cond (looks op) (vs.flatMap AV.ids) []
def doOp (P : Program) (Γ : List Sig) (ops : Array Oper) (o : Oper) (σ : St) (lg : List Log) (K : St → List Log → Option Lv) : Option Lv :=
  let vs := o.op.operands.toList.map (opnd σ.t)
  let log (ids : List Nat) (ws : List (Nat × AO)) : Log := ⟨match o.dst with | some d => bit d | none => 0, bits (o.looksAt ops), bits ids, bits (ws.map (·.1))⟩
  match o.op with
  | .call c => match c.callee with
    | .value _ => match vs with
      | .sc (.fn f caps) :: args => match sigOf f Γ with
        | none => none
        | some s =>
          let vs' := args ++ capArgs caps
          let ids := more σ.o (more σ.o (more σ.o (vs'.flatMap AV.ids)))
          match mtch P (rlk ids σ.o) s.pre vs' [] with
          | none => none
          | some E => cond (bdOk (rlk ids σ.o) E.ids s.nb 0 s.pre.objs && elOk E.ids s.post) ((s.f E.lv.reverse).bind fun y =>
            let r := called s (rlk ids σ.o) σ.nx E y
            cond (wsOk σ.nx r.nn r.ws) (K (σ.apply o.dst r.v r.ws r.nn) (log ids r.ws :: lg)) none) none
      | _ => none
    | _ => let ids := opIds o.op vs
      match acore P o.op (rlk ids σ.o) σ.nx vs with
      | none => none
      | some r => guards r.gs (cond (wsOk σ.nx r.nn r.ws) (K (σ.apply o.dst r.v r.ws r.nn) (log ids r.ws :: lg)) none)
  | _ => let ids := opIds o.op vs
    match acore P o.op (rlk ids σ.o) σ.nx vs with
    | none => none
    | some r => guards r.gs (cond (wsOk σ.nx r.nn r.ws) (K (σ.apply o.dst r.v r.ws r.nn) (log ids r.ws :: lg)) none)
def gdst (ops : Array Oper) (j : Nat) : Option Nat := (ops[j]?).bind (·.dst)
def skipLog (ops : Array Oper) (o : Oper) : Log := ⟨match o.dst with | some d => bit d | none => 0, bits (o.looksAt ops), 0, 0⟩
def runOps (P : Program) (Γ : List Sig) (ops : Array Oper) : List Oper → St → List Log → (St → List Log → Option Lv) → Option Lv
  | [], σ, lg, K => K σ lg
  | o :: r, σ, lg, K => match o.guard with
    | none => doOp P Γ ops o σ lg fun σ lg => runOps P Γ ops r σ lg K
    | some (j, want) => match gdst ops j with
      | none => none
      | some d => match σ.t d with
        | .sc (.b x) => cond x
            (cond want (doOp P Γ ops o (σ.put (some d) (.sc (.b true))) lg fun σ lg => runOps P Γ ops r σ lg K) (runOps P Γ ops r ((σ.put (some d) (.sc (.b true))).put o.dst (.sc .ud)) (skipLog ops o :: lg) K))
            (cond want (runOps P Γ ops r ((σ.put (some d) (.sc (.b false))).put o.dst (.sc .ud)) (skipLog ops o :: lg) K) (doOp P Γ ops o (σ.put (some d) (.sc (.b false))) lg fun σ lg => runOps P Γ ops r σ lg K))
        | .sc .ud => runOps P Γ ops r (σ.put o.dst (.sc .ud)) (skipLog ops o :: lg) K
        | _ => none
def masks : List Oper → List Nat → List Nat
  | [], _ => []
  | o :: r, acc =>
    let m := o.after.toList.foldr (fun e m => cond (Region.binds .any e) (bit e.on ||| (acc.getD e.on 0 ||| m)) m) 0
    m :: masks r (acc ++ [m])
def conf (a b : Log) : Bool := !Nat.beq ((a.dst &&& (b.tr ||| b.dst)) ||| ((b.dst &&& a.tr) ||| ((a.wr &&& (b.rd ||| b.wr)) ||| (b.wr &&& a.rd)))) 0
def chk1 (i : Nat) (a : Log) : List Nat → List Log → Bool
  | m :: ms, b :: r => (!conf a b || m.testBit i) && chk1 i a ms r
  | _, _ => true
def chk (i : Nat) : List Nat → List Log → Bool
  | _ :: ms, a :: r => chk1 i a ms r && chk (i + 1) ms r
  | _, _ => true
def backw : Nat → List Oper → Bool
  | _, [] => true
  | i, o :: r => (o.after.toList.all fun e => !Region.binds .any e || Nat.ble (e.on + 1) i) && backw (i + 1) r
def region (P : Program) (Γ : List Sig) (ops : Array Oper) (draw : Bool) (σ : St) (K : St → Option Lv) : Option Lv :=
  runOps P Γ ops ops.toList σ [] fun σ lg => cond draw (cond (backw 0 ops.toList && chk 0 (masks ops.toList []) lg.reverse) (K σ) none) (K σ)
structure Cut where
  id : Nat
  slots : List Nat
  pat : Pat
structure FD where
  fn : Nat
  nb : Nat
  pre : Pat
  post : Pat
  sh : Bool
  cuts : List Cut
def cutOf (id : Nat) : List Cut → Option Cut
  | [] => none
  | c :: r => cond (Nat.beq c.id id) (some c) (cutOf id r)
def knownUpTo (n : Nat) : List (Nat × Bd) := (List.range n).map fun j => (j, .o j 0)
def Cut.start (c : Cut) (lv : Lv) : St :=
  { tm := c.slots.zip (c.pat.vals.map (·.inst lv selfIm false)), dv := .sc .un, ob := numbered 0 (c.pat.objs.map (·.inst lv selfIm false)), nx := c.pat.objs.length }
def FD.start (d : FD) (lv : Lv) : St :=
  { tm := numbered 0 (d.pre.vals.map (·.inst lv selfIm false)), dv := .sc .ud, ob := numbered 0 (d.pre.objs.map (·.inst lv selfIm false)), nx := d.pre.objs.length }
def resultOf (P : Program) (σ : St) : ResultVar → Option AV
  | .tmp t => some (σ.t t)
  | .cell a t => match σ.t a with
    | .sc (.pt id off) => (aload P σ.o t (.sc (.pt id off))).map (·.v)
    | _ => none
def tupled : AV → Option (Bool × List AS)
  | .sc x => some (false, [x])
  | .ag xs => some (true, xs)
  | .tu _ => none
def resultsOf (P : Program) (fn : Func) (σ : St) : Option AV := match fn.results.toList with
  | [r] => resultOf P σ r
  | rs => match rs.mapM (resultOf P σ) with
    | none => none
    | some vs => match vs.mapM tupled with | none => none | some ts => some (.tu ts)
def rbOk (lk : Lk) (ids : List (Nat × Bd)) : Nat → List PO → Bool
  | _, [] => true
  | j, .rb _ :: r => (match bd ids j with | some (.o id _) => (match lk id with | .rb _ => true | _ => false) | _ => false) && rbOk lk ids (j + 1) r
  | j, _ :: r => rbOk lk ids (j + 1) r
def rwOk (lk : Lk) : Nat → Nat → List PO → Bool
  | 0, _, _ => true
  | _, _, [] => true
  | n + 1, j, .rw _ _ _ :: r => (match lk j with | .rw _ _ _ 0 => true | _ => false) && rwOk lk n (j + 1) r
  | n + 1, j, .dw _ _ _ :: r => (match lk j with | .dw _ _ _ 0 0 iv => Nat.ble (iv + 1) most | _ => false) && rwOk lk n (j + 1) r
  | n + 1, j, _ :: r => rwOk lk n (j + 1) r
def FD.fin (P : Program) (d : FD) (fn : Func) (σ : St) : Option Lv := match resultsOf P fn σ with
  | none => none
  | some v => match mtch P σ.o d.post [v] (knownUpTo d.nb) with
    | none => none
    | some E => cond (rbOk σ.o E.ids 0 d.post.objs && rwOk σ.o d.nb 0 d.post.objs) (some E.lv.reverse) none
def run (P : Program) (Γ : List Sig) (d : FD) (fn : Func) (A : Nat → Lv → Option Lv) : Nat → List Item → St → Option Lv
  | 0, _, _ => none
  | _ + 1, [], σ => d.fin P fn σ
  | n + 1, it :: k, σ => match it with
    | .code c => match c with
      | .skip => run P Γ d fn A n k σ
      | .label _ => run P Γ d fn A n k σ
      | .seq a b => run P Γ d fn A n (.code a :: .code b :: k) σ
      | .cond c x y => match opnd σ.t c with
        | .sc (.b t) => cond t (run P Γ d fn A n (.code x :: k) σ) (run P Γ d fn A n (.code y :: k) σ)
        | _ => none
      | .block id c => run P Γ d fn A n (.code c :: .inBlock id :: k) σ
      | .loop c => run P Γ d fn A n (.code c :: .inLoop c :: k) σ
      | .exit id => match exitTo id k with
        | some k' => run P Γ d fn A n k' σ
        | none => none
      | .ret => d.fin P fn σ
      | .region id ops dr => match cutOf id d.cuts with
        | some c => match mtch P σ.o c.pat (c.slots.map σ.t) (knownUpTo d.nb) with
          | some E => cond (rbOk σ.o E.ids 0 c.pat.objs && rwOk σ.o d.nb 0 c.pat.objs) (A id E.lv.reverse) none
          | none => none
        | none => region P Γ ops dr σ fun σ => run P Γ d fn A n k σ
      | _ => none
    | .inBlock _ => run P Γ d fn A n k σ
    | .inLoop c => run P Γ d fn A n (.code c :: .inLoop c :: k) σ
    | _ => none
def findR (id : Nat) : Code → List Item → Option (Array Oper × Bool × List Item)
  | .region id' ops dr, k => cond (Nat.beq id' id) (some (ops, dr, k)) none
  | .seq a b, k => match findR id a (.code b :: k) with
    | some r => some r
    | none => findR id b k
  | .cond _ x y, k => match findR id x k with
    | some r => some r
    | none => findR id y k
  | .block i c, k => findR id c (.inBlock i :: k)
  | .loop c, k => findR id c (.inLoop c :: k)
  | _, _ => none
def regs : Code → List Nat
  | .region id _ _ => [id]
  | .seq a b => regs a ++ regs b
  | .cond _ x y => regs x ++ regs y
  | .block _ c => regs c
  | .loop c => regs c
  | _ => []
def dsts (n : Nat) : Code → Bool
  | .region _ ops _ => ops.toList.all fun o => match o.dst with | some d => Nat.ble (d + 1) n | none => true
  | .seq a b => dsts n a && dsts n b
  | .cond _ x y => dsts n x && dsts n y
  | .block _ c => dsts n c
  | .loop c => dsts n c
  | _ => true
def FD.sig (d : FD) (f : Lv → Option Lv) : Sig := ⟨d.fn, d.nb, d.pre, d.post, d.sh, f⟩
def FD.ok (d : FD) (fn : Func) : Bool := (d.sig fun _ => none).ok && (d.cuts.all (fun c => stays d.nb d.pre.objs c.pat.objs) && (Nat.ble d.pre.vals.length fn.ntmps && (match fn.body with | some b => nodup (regs b) && dsts fn.ntmps b | none => false)))
def fuel : Nat := 100000
def seg (P : Program) (Γ : List Sig) (d : FD) (fn : Func) (A : Nat → Lv → Option Lv) (at_ : Option Nat) (lv : Lv) : Option Lv :=
  match fn.body with
  | none => none
  | some body => match at_ with
    | none => run P Γ d fn A fuel [.code body] (d.start lv)
    | some id => match cutOf id d.cuts with
      | none => none
      | some c => match findR id body [] with
        | none => none
        | some (ops, dr, k) => region P Γ ops dr (c.start lv) fun σ => run P Γ d fn A fuel k σ
def J (P : Program) (Γ : List Sig) (d : FD) (fn : Func) : Nat → Option Nat → Lv → Option Lv
  | 0, _, _ => none
  | n + 1, at_, lv => seg P Γ d fn (fun id lv => J P Γ d fn n (some id) lv) at_ lv
end Go.Eng
end
section
namespace Go.Eng
open Go
inductive F2 {α β : Type} (R : α → β → Prop) : List α → List β → Prop where
  | nil : F2 R [] []
  | cons {x : α} {y : β} {xs : List α} {ys : List β} (h : R x y) (t : F2 R xs ys) : F2 R (x :: xs) (y :: ys)
theorem F2.mono {α β : Type} {R R' : α → β → Prop} (h : ∀ x y, R x y → R' x y) {xs : List α} {ys : List β} (hf : F2 R xs ys) : F2 R' xs ys := by
  induction hf with
  | nil => exact .nil
  | cons hx _ ih => exact .cons (h _ _ hx) ih
theorem F2.length {α β : Type} {R : α → β → Prop} {xs : List α} {ys : List β} (hf : F2 R xs ys) : xs.length = ys.length := by
  induction hf with
  | nil => rfl
  | cons _ _ ih => simp [ih]
theorem F2.get {α β : Type} {R : α → β → Prop} {xs : List α} {ys : List β} (hf : F2 R xs ys) : ∀ {j : Nat} {x : α}, xs[j]? = some x → ∃ y, ys[j]? = some y ∧ R x y := by
  induction hf with
  | nil => intro j x h; simp at h
  | cons hx _ ih =>
    intro j x h
    cases j with
    | zero => simp at h; subst h; exact ⟨_, by simp, hx⟩
    | succ j => simp at h; obtain ⟨y, h1, h2⟩ := ih h; exact ⟨y, by simpa using h1, h2⟩
theorem F2.of_get {α β : Type} {R : α → β → Prop} : ∀ {xs : List α} {ys : List β}, xs.length = ys.length → (∀ (j : Nat) (x : α) (y : β), xs[j]? = some x → ys[j]? = some y → R x y) → F2 R xs ys
  | [], [], _, _ => .nil
  | x :: xs, y :: ys, hl, h => .cons (h 0 x y (by simp) (by simp)) (F2.of_get (by simpa using hl) fun j a b ha hb => h (j + 1) a b (by simpa using ha) (by simpa using hb))
  | [], _ :: _, hl, _ => by simp at hl
  | _ :: _, [], hl, _ => by simp at hl
theorem F2.append {α β : Type} {R : α → β → Prop} {xs xs' : List α} {ys ys' : List β} (h : F2 R xs ys) (h' : F2 R xs' ys') : F2 R (xs ++ xs') (ys ++ ys') := by
  induction h with
  | nil => exact h'
  | cons hx _ ih => exact .cons hx ih
structure Loc where
  blk : Nat
  off : Nat
  cap : Nat
  nil : Bool
def CellOk (con : TypeId → Option Addr → Rw → Prop) : CK → Value → C → Prop
  | .i k, v, c => v = .int k c.int
  | .b, v, c => v = .bool c.bool
  | .s, v, c => v = .string c.str
  | .sl e, v, c => ∃ A cap, v = .slice A c.list.length cap ∧ c.list.length ≤ cap ∧ con e A c.list
  | .x, _, _ => False
def RowAt (P : Program) (con : TypeId → Option Addr → Rw → Prop) (e : TypeId) (cs : Array Value) (off : Nat) (xs : Rw) : Prop :=
  ∀ i, i < xs.length → ∀ o, o < esz P e → ∃ v, cs[off + i * esz P e + o]? = some v ∧ CellOk con (ck P e o) v (rd xs i o)
def Con (P : Program) (h : Array Obj) (F : Nat → Prop) : Nat → TypeId → Option Addr → Rw → Prop
  | 0, _, _, _ => False
  | d + 1, e, A, xs => xs = [] ∨ ∃ blk off cs ty fz, A = some ⟨blk, off, none⟩ ∧ F blk ∧ h[blk]? = some (.cells cs ty fz) ∧ RowAt P (Con P h F d) e cs off xs
theorem CellOk.mono {con con' : TypeId → Option Addr → Rw → Prop} (h : ∀ e A xs, con e A xs → con' e A xs) {k : CK} {v : Value} {c : C} (hc : CellOk con k v c) : CellOk con' k v c := by
  cases k <;> simp only [CellOk] at hc ⊢ <;> try exact hc
  obtain ⟨A, cap, h1, h2, h3⟩ := hc
  exact ⟨A, cap, h1, h2, h _ _ _ h3⟩
theorem RowAt.mono {P : Program} {con con' : TypeId → Option Addr → Rw → Prop} (h : ∀ e A xs, con e A xs → con' e A xs) {e : TypeId} {cs : Array Value} {off : Nat} {xs : Rw}
    (hc : RowAt P con e cs off xs) : RowAt P con' e cs off xs := fun i hi o ho =>
  let ⟨v, h1, h2⟩ := hc i hi o ho
  ⟨v, h1, h2.mono h⟩
theorem Con.mono {P : Program} {h h' : Array Obj} {F F' : Nat → Prop} (hF : ∀ b, F b → F' b) (hh : ∀ b, F b → h'[b]? = h[b]?) :
    ∀ {d : Nat} {e : TypeId} {A : Option Addr} {xs : Rw}, Con P h F d e A xs → Con P h' F' d e A xs
  | 0, _, _, _, hc => hc.elim
  | d + 1, _, _, _, hc => by
    rcases hc with hc | ⟨blk, off, cs, ty, fz, h1, h2, h3, h4⟩
    · exact .inl hc
    · exact .inr ⟨blk, off, cs, ty, fz, h1, hF _ h2, (hh _ h2).trans h3, h4.mono fun _ _ _ hx => Con.mono hF hh hx⟩
theorem Con.up {P : Program} {h : Array Obj} {F : Nat → Prop} : ∀ {d : Nat} {e : TypeId} {A : Option Addr} {xs : Rw}, Con P h F d e A xs → Con P h F (d + 1) e A xs
  | 0, _, _, _, hc => hc.elim
  | d + 1, _, _, _, hc => by
    rcases hc with hc | ⟨blk, off, cs, ty, fz, h1, h2, h3, h4⟩
    · exact .inl hc
    · exact .inr ⟨blk, off, cs, ty, fz, h1, h2, h3, h4.mono fun _ _ _ hx => Con.up hx⟩
theorem zbc {P : Program} {e : TypeId} {o : Nat} {k : CK} (h : ck P e o = k) (hk : k ≠ .x) : k ∈ kinds P 8 e := by
  unfold ck at h
  rw [List.getD_eq_getElem?_getD] at h
  cases hx : (kinds P 8 e)[o]? with
  | none => rw [hx] at h; simp at h; exact absurd h.symm hk
  | some y => rw [hx] at h; simp at h; subst h; exact List.mem_of_getElem? hx
theorem Con.down {P : Program} {h : Array Obj} {F : Nat → Prop} {k : Nat} : ∀ {d : Nat} {e : TypeId} {A : Option Addr} {xs : Rw}, deep P d e = true → Con P h F (d + k) e A xs → Con P h F d e A xs
  | 0, _, _, _, hd, hc => by simp [deep] at hd
  | d + 1, e, A, xs, hd, hc => by
    have hc' : Con P h F ((d + k) + 1) e A xs := by rw [show d + 1 + k = d + k + 1 by omega] at hc; exact hc
    rcases hc' with hc | ⟨blk, off, cs, ty, fz, h1, h2, h3, h4⟩
    · exact .inl hc
    · refine .inr ⟨blk, off, cs, ty, fz, h1, h2, h3, fun i hi o ho => ?_⟩
      obtain ⟨v, hv, hok⟩ := h4 i hi o ho
      refine ⟨v, hv, ?_⟩
      generalize hk : ck P e o = kk at hok ⊢
      cases kk with
      | sl e' =>
        obtain ⟨A, cap, e1, e2, e3⟩ := hok
        have hm := zbc hk (by simp)
        have hd' : deep P d e' = true := by
          simp only [deep, List.all_eq_true] at hd
          exact hd _ hm
        exact ⟨A, cap, e1, e2, Con.down hd' e3⟩
      | _ => exact hok
structure Cx where
  β : Nat → Loc
  F : Bool → Nat → Prop
  ob : Nat → AO
  h : Array Obj
  γ : Nat → Nat → Loc
def Loc.ptr (l : Loc) (o : Nat) : Addr := ⟨l.blk, l.off + o, none⟩
def slAddr (P : Program) (e : TypeId) (l : Loc) (lo : Nat) : Option Addr := if l.nil then none else some ⟨l.blk, if lo = l.cap then l.off else l.off + lo * esz P e, none⟩
def RefBx (X : Cx) (id : Nat) (Q : Prop) : Prop := match X.ob id with
  | .bx _ => Q
  | .rb _ => Q
  | _ => False
def RefMp (X : Cx) (id : Nat) (Q : Prop) : Prop := match X.ob id with
  | .mp _ _ _ => Q
  | _ => False
def Inner (P : Program) (h : Array Obj) (e : TypeId) (l : Loc) (v : Value) (ys : Rw) : Prop :=
  (l.nil = true ∧ ys = [] ∧ l.cap = 0 ∧ v = .slice none 0 0) ∨
  (l.nil = false ∧ v = .slice (some ⟨l.blk, l.off, none⟩) ys.length l.cap ∧ ys.length ≤ l.cap ∧ ∃ cs ty, h[l.blk]? = some (.cells cs ty (0, 0)) ∧ l.off + l.cap * esz P e ≤ cs.size ∧ RowAt P (fun _ _ _ => False) e cs l.off ys)
def RefRi (X : Cx) (id n : Nat) (Q : Nat → Rw → Nat → Prop) : Prop := match X.ob id with
  | .dead => False
  | .dw _ c xs _ lo iv => n ≤ iv ∧ (n = iv → ∃ k e', c = some (k, e') ∧ Q k xs lo)
  | _ => True
def RefRw (X : Cx) (id n : Nat) (Q : TypeId → Rw → Prop) : Prop := match X.ob id with
  | .dead => False
  | .rw e _ xs ser => n ≤ ser ∧ (n = ser → Q e xs)
  | .fz e _ xs ser => n ≤ ser ∧ (n = ser → Q e xs)
  | .dw e _ xs ser _ _ => n ≤ ser ∧ (n = ser → Q e xs)
  | _ => True
def RS (P : Program) (X : Cx) : AS → Value → Prop
  | .un, _ => True
  | .ud, v => v = undef
  | .i k n, v => v = .int k n
  | .b x, v => v = .bool x
  | .s x, v => v = .string x
  | .np, v => v = .pointer none
  | .pt id off, v => RefBx X id (v = .pointer (some ((X.β id).ptr off)))
  | .pe e fr xs ix o, v => ∃ blk off cs ty fz, v = .pointer (some ⟨blk, off + ix * esz P e + o, none⟩) ∧ ix < xs.length ∧ X.F fr blk ∧ X.h[blk]? = some (.cells cs ty fz) ∧ RowAt P (Con P X.h (X.F fr) 7) e cs off xs
  | .po id n ix o, v => (∃ a, v = .pointer a) ∧ RefRw X id n fun e xs => ix < xs.length ∧ (X.β id).nil = false ∧ v = .pointer (some ⟨(X.β id).blk, (X.β id).off + ix * esz P e + o, none⟩)
  | .ns, v => v = .slice none 0 0
  | .fz e fr xs, v => ∃ A cap, v = .slice A xs.length cap ∧ xs.length ≤ cap ∧ Con P X.h (X.F fr) 8 e A xs
  | .ow id n, v => (∃ A m c, v = .slice A m c) ∧ RefRw X id n fun e xs => v = .slice (slAddr P e (X.β id) 0) xs.length (X.β id).cap
  | .sb id n lo hi, v => (∃ A m c, v = .slice A m c) ∧ RefRw X id n fun e xs => lo ≤ hi ∧ hi ≤ xs.length ∧ v = .slice (slAddr P e (X.β id) lo) (hi - lo) ((X.β id).cap - lo)
  | .fn f caps, v => (∀ c ∈ caps, RefBx X c.1 True) ∧ v = .func (.func f) #[] (caps.map fun c => Value.pointer (some ((X.β c.1).ptr c.2))).toArray
  | .mp id, v => RefMp X id (v = .map (some (X.β id).blk))
  | .nm, v => v = .map none
  | .ri id n ix e, v => (∃ A m c, v = .slice A m c) ∧ RefRi X id n fun k xs lo => lo ≤ ix ∧ ix < xs.length ∧ Inner P X.h e (X.γ id ix) v (rd xs ix k).list
def RSs (P : Program) (X : Cx) (xs : List AS) (vs : List Value) : Prop := F2 (RS P X) xs vs
def RT (P : Program) (X : Cx) (x : Bool × List AS) (v : Value) : Prop := match x with
  | (true, xs) => ∃ cs, v = .agg cs ∧ RSs P X xs cs.toList
  | (false, xs) => RSs P X xs [v]
def RV (P : Program) (X : Cx) : AV → Value → Prop
  | .sc x, v => RS P X x v
  | .ag xs, v => ∃ cs, v = .agg cs ∧ RSs P X xs cs.toList
  | .tu ts, v => ∃ vs, v = .tuple vs ∧ F2 (RT P X) ts vs.toList
def MapOk (P : Program) (kt vt : TypeId) (es : List (C × C)) (ents : List MapEntry) : Prop :=
  F2 (fun (c : C × C) (m : MapEntry) => CellOk (fun _ _ _ => False) (pk P kt) m.key c.1 ∧ CellOk (fun _ _ _ => False) (pk P vt) m.val c.2) es ents
def Own (X : Cx) (id : Nat) : Prop := match X.ob id with
  | .bx _ => True
  | .mp _ _ _ => True
  | .rw _ _ _ _ => (X.β id).nil = false
  | .dw _ _ _ _ _ _ => (X.β id).nil = false
  | _ => False
def InB (X : Cx) (id b : Nat) : Prop := match X.ob id with
  | .dw _ c xs _ lo _ => ∃ k e', c = some (k, e') ∧ ∃ i, lo ≤ i ∧ i < xs.length ∧ (X.γ id i).nil = false ∧ b = (X.γ id i).blk
  | _ => False
def Has (X : Cx) (id b : Nat) : Prop := Own X id ∧ (b = (X.β id).blk ∨ InB X id b)
def Dk (P : Program) (e : TypeId) (c : Option (Nat × TypeId)) : Prop := match c with
  | none => flat P e = true
  | some (k, e') => k < esz P e ∧ ck P e k = .sl e' ∧ flat P e' = true ∧ ∀ o e2, ck P e o = .sl e2 → o = k
theorem ze9 {P : Program} {e : TypeId} {c : Option (Nat × TypeId)} (h : dkB P e c = true) : Dk P e c := by
  cases c with
  | none => exact h
  | some q =>
    obtain ⟨k, e'⟩ := q
    unfold dkB at h
    simp only [Bool.and_eq_true] at h
    obtain ⟨⟨h1, h2⟩, h3, h4⟩ := h
    refine ⟨Nat.le_of_ble_eq_true h1, ?_, h3, fun o e2 ho => ?_⟩
    · split at h2
      · rename_i e2 hk
        rw [Nat.eq_of_beq_eq_true h2] at hk; exact hk
      · cases h2
    · have hlt : o < (kinds P 8 e).length := by
        unfold ck at ho
        rw [List.getD_eq_getElem?_getD] at ho
        rcases Nat.lt_or_ge o (kinds P 8 e).length with hx | hx
        · exact hx
        · rw [List.getElem?_eq_none hx] at ho; simp at ho
      have := List.all_eq_true.1 h4 o (List.mem_range.2 hlt)
      rw [ho] at this
      simp only [Bool.or_false] at this
      exact Nat.eq_of_beq_eq_true this
def RowD (P : Program) (h : Array Obj) (γ : Nat → Loc) (e : TypeId) (cs : Array Value) (off : Nat) (xs : Rw) (lo : Nat) : Prop :=
  ∀ i, lo ≤ i → i < xs.length → ∀ o, o < esz P e → ∃ v, cs[off + i * esz P e + o]? = some v ∧ match ck P e o with
    | .sl e' => Inner P h e' (γ i) v (rd xs i o).list
    | k => CellOk (fun _ _ _ => False) k v (rd xs i o)
def Apart (γ : Nat → Loc) (blk : Nat) (c : Option (Nat × TypeId)) (xs : Rw) (lo : Nat) : Prop := ∀ k e', c = some (k, e') → ∀ i, lo ≤ i → i < xs.length → (γ i).nil = false →
  (γ i).blk ≠ blk ∧ ∀ j, lo ≤ j → j < xs.length → (γ j).nil = false → (γ i).blk = (γ j).blk → i = j
structure Kx where
  h0 : Array Obj
  R : Nat → Prop
  M : Nat → Prop
def AOok (P : Program) (K : Kx) (X : Cx) (id : Nat) : Prop := match X.ob id with
  | .dead => True
  | .gone => True
  | .bx cells => ∃ cs ty, X.h[(X.β id).blk]? = some (.cells cs ty (0, 0)) ∧ ∀ j x, cells[j]? = some x → ∃ v, cs[(X.β id).off + j]? = some v ∧ RS P X x v
  | .rb cells => K.R (X.β id).blk ∧ ∃ cs ty fz, X.h[(X.β id).blk]? = some (.cells cs ty fz) ∧ ∀ j x, cells[j]? = some x → ∃ v, cs[(X.β id).off + j]? = some v ∧ RS P X x v
  | .rw e fr xs ser => ((X.β id).nil = true ∧ xs = [] ∧ (X.β id).cap = 0) ∨ ((X.β id).nil = false ∧ xs.length ≤ (X.β id).cap ∧ (fr = true → K.h0.size ≤ (X.β id).blk) ∧
      ∃ cs ty, X.h[(X.β id).blk]? = some (.cells cs ty (0, 0)) ∧ (X.β id).off + (X.β id).cap * esz P e ≤ cs.size ∧ RowAt P (Con P X.h (X.F fr) 7) e cs (X.β id).off xs)
  | .fz e fr xs ser => ((X.β id).nil = true ∧ xs = [] ∧ (X.β id).cap = 0) ∨ ((X.β id).nil = false ∧ xs.length ≤ (X.β id).cap ∧ X.F fr (X.β id).blk ∧
      ∃ cs ty fz, X.h[(X.β id).blk]? = some (.cells cs ty fz) ∧ RowAt P (Con P X.h (X.F fr) 7) e cs (X.β id).off xs)
  | .mp kt vt es => ∃ ents clock, X.h[(X.β id).blk]? = some (.map ents clock) ∧ MapOk P kt vt es ents.toList
  | .dw e c xs ser lo iv => Dk P e c ∧ (((X.β id).nil = true ∧ xs = [] ∧ (X.β id).cap = 0) ∨ ((X.β id).nil = false ∧ xs.length ≤ (X.β id).cap ∧ lo ≤ xs.length ∧
      (∃ cs ty, X.h[(X.β id).blk]? = some (.cells cs ty (0, 0)) ∧ (X.β id).off + (X.β id).cap * esz P e ≤ cs.size ∧ RowD P X.h (X.γ id) e cs (X.β id).off xs lo) ∧ Apart (X.γ id) (X.β id).blk c xs lo))
structure Heap (P : Program) (K : Kx) (X : Cx) : Prop where
  ok : ∀ id, AOok P K X id
  inj : ∀ id id' b, Has X id b → Has X id' b → id = id'
  nF : ∀ id b, Has X id b → ¬ X.F false b
  nR : ∀ id b, Has X id b → ¬ K.R b
  oM : ∀ id b, Has X id b → K.M b ∨ K.h0.size ≤ b
  Fle : ∀ b, X.F true b → X.F false b
  Ffr : ∀ b, X.F true b → K.h0.size ≤ b
  Fsz : ∀ b, X.F false b → b < X.h.size
  Rsz : ∀ b, K.R b → b < K.h0.size
  sz : K.h0.size ≤ X.h.size
theorem Own.lt {P : Program} {K : Kx} {X : Cx} (H : Heap P K X) {id : Nat} (h : Own X id) : (X.β id).blk < X.h.size := by
  have ho := H.ok id
  unfold Own at h
  unfold AOok at ho
  have key : ∀ {o : Obj}, X.h[(X.β id).blk]? = some o → (X.β id).blk < X.h.size := fun hx => by
    rcases Nat.lt_or_ge (X.β id).blk X.h.size with hl | hl
    · exact hl
    · rw [Array.getElem?_eq_none hl] at hx; cases hx
  cases hob : X.ob id <;> simp only [hob] at h ho
  · obtain ⟨_, _, h1, _⟩ := ho; exact key h1
  · rcases ho with ⟨hn, _⟩ | ⟨_, _, _, _, _, h1, _⟩
    · rw [h] at hn; cases hn
    · exact key h1
  · obtain ⟨_, _, h1, _⟩ := ho; exact key h1
  · rcases ho.2 with ⟨hn, _⟩ | ⟨_, _, _, ⟨_, _, h1, _⟩, _⟩
    · rw [h] at hn; cases hn
    · exact key h1
theorem Own.has {X : Cx} {id : Nat} (h : Own X id) : Has X id (X.β id).blk := ⟨h, .inl rfl⟩
theorem Has.lt {P : Program} {K : Kx} {X : Cx} (H : Heap P K X) {id b : Nat} (h : Has X id b) : b < X.h.size := by
  obtain ⟨ho, rfl | hb⟩ := h
  · exact ho.lt H
  have hk := H.ok id
  unfold InB at hb
  unfold AOok at hk
  unfold Own at ho
  split at hb
  · rename_i e c xs ser lo iv hob
    rw [hob] at hk ho
    obtain ⟨k, e', hc, i, h1, h2, h3, rfl⟩ := hb
    obtain ⟨hd, ⟨hn, _⟩ | ⟨_, _, _, ⟨cs, ty, _, _, hr⟩, _⟩⟩ := hk
    · rw [ho] at hn; cases hn
    subst hc
    obtain ⟨d1, d2, _⟩ := hd
    obtain ⟨v, _, hv⟩ := hr i h1 h2 k d1
    rw [d2] at hv
    rcases hv with ⟨he, _⟩ | ⟨_, _, _, cs', ty', h4, _⟩
    · rw [h3] at he; cases he
    · exact (Array.getElem?_eq_some_iff.1 h4).1
  · exact hb.elim
def AO.isD : AO → Bool | .dw _ _ _ _ _ _ => true | _ => false
theorem Has.one {X : Cx} {id b : Nat} (h : Has X id b) (hd : (X.ob id).isD = false) : Own X id ∧ b = (X.β id).blk := by
  refine ⟨h.1, h.2.resolve_right fun hb => ?_⟩
  unfold InB at hb
  split at hb
  · rename_i hob; rw [hob] at hd; cases hd
  · exact hb
end Go.Eng
end
section
namespace Go.Eng
open Go
def Keeps (X X' : Cx) (id : Nat) : Prop := match X.ob id with
  | .dead => True
  | .bx _ => (∃ cells, X'.ob id = .bx cells) ∧ X'.β id = X.β id
  | .rb _ => (∃ cells, X'.ob id = .rb cells) ∧ X'.β id = X.β id
  | .mp _ _ _ => (∃ kt vt es, X'.ob id = .mp kt vt es) ∧ X'.β id = X.β id
  | .gone => X'.ob id = .gone
  | .fz e _ xs ser => X'.ob id = .gone ∨ (∃ fr' xs', X'.ob id = .fz e fr' xs' ser ∧ xs'.length = xs.length) ∧ X'.β id = X.β id
  | .rw e _ xs ser => X'.ob id = .gone ∨ ((∃ fr' xs', (X'.ob id = .rw e fr' xs' ser ∨ X'.ob id = .fz e fr' xs' ser) ∧ xs'.length = xs.length) ∧ X'.β id = X.β id) ∨
      ∃ e' fr' xs' ser', (X'.ob id = .rw e' fr' xs' ser' ∨ X'.ob id = .fz e' fr' xs' ser') ∧ ser < ser'
  | .dw e c xs ser lo iv => X'.ob id = .gone ∨ ((∃ fr' xs', X'.ob id = .fz e fr' xs' ser ∧ xs'.length = xs.length) ∧ X'.β id = X.β id) ∨
      (∃ xs' ser' lo' iv', X'.ob id = .dw e c xs' ser' lo' iv' ∧ ser ≤ ser' ∧ iv ≤ iv' ∧ (ser' = ser → xs'.length = xs.length ∧ X'.β id = X.β id ∧ (iv' < most → X'.γ id = X.γ id)) ∧
        (iv' = iv → xs'.length = xs.length ∧ lo' = lo ∧ X'.γ id = X.γ id ∧ (∀ k e', c = some (k, e') → ∀ i, (rd xs' i k).list = (rd xs i k).list) ∧ ∀ b, InB X id b → X'.h[b]? = X.h[b]?)) ∨
      ∃ fr' xs' ser', X'.ob id = .fz e fr' xs' ser' ∧ ser < ser'
structure Ext (X X' : Cx) : Prop where
  F : ∀ fr b, X.F fr b → X'.F fr b
  h : ∀ fr b, X.F fr b → X'.h[b]? = X.h[b]?
  keep : ∀ id, Keeps X X' id
theorem Keeps.same {X X' : Cx} {id : Nat} (h1 : X'.ob id = X.ob id) (h2 : X'.β id = X.β id) (h3 : X'.γ id = X.γ id) (h4 : ∀ b, InB X id b → X'.h[b]? = X.h[b]?) : Keeps X X' id := by
  unfold Keeps
  rw [h1]
  cases h : X.ob id
  · trivial
  · rfl
  · exact ⟨⟨_, rfl⟩, h2⟩
  · exact ⟨⟨_, rfl⟩, h2⟩
  · exact .inr (.inl ⟨⟨_, _, .inl rfl, rfl⟩, h2⟩)
  · exact .inr ⟨⟨_, _, rfl, rfl⟩, h2⟩
  · exact ⟨⟨_, _, _, rfl⟩, h2⟩
  · exact .inr (.inr (.inl ⟨_, _, _, _, rfl, Nat.le_refl _, Nat.le_refl _, fun _ => ⟨rfl, h2, fun _ => h3⟩, fun _ => ⟨rfl, rfl, h3, fun _ _ _ _ => rfl, h4⟩⟩))
theorem Keeps.refl (X : Cx) (id : Nat) : Keeps X X id := Keeps.same rfl rfl rfl fun _ _ => rfl
theorem Ext.refl (X : Cx) : Ext X X := ⟨fun _ _ h => h, fun _ _ _ => rfl, Keeps.refl X⟩
theorem RefBx.ext {X X' : Cx} {id : Nat} {Q Q' : Prop} (k : Keeps X X' id) (h : RefBx X id Q) (hq : X'.β id = X.β id → Q → Q') : RefBx X' id Q' := by
  unfold RefBx at h ⊢
  unfold Keeps at k
  cases ho : X.ob id <;> simp only [ho] at h k
  · obtain ⟨⟨c, hc⟩, hb⟩ := k; simp only [hc]; exact hq hb h
  · obtain ⟨⟨c, hc⟩, hb⟩ := k; simp only [hc]; exact hq hb h
theorem RefMp.ext {X X' : Cx} {id : Nat} {Q Q' : Prop} (k : Keeps X X' id) (h : RefMp X id Q) (hq : X'.β id = X.β id → Q → Q') : RefMp X' id Q' := by
  unfold RefMp at h ⊢
  unfold Keeps at k
  cases ho : X.ob id <;> simp only [ho] at h k
  obtain ⟨⟨_, _, _, hc⟩, hb⟩ := k; simp only [hc]; exact hq hb h
theorem RefRw.ext {X X' : Cx} {id n : Nat} {Q Q' : TypeId → Rw → Prop} (k : Keeps X X' id) (h : RefRw X id n Q) (hq : X'.β id = X.β id → ∀ e xs xs', xs'.length = xs.length → Q e xs → Q' e xs') : RefRw X' id n Q' := by
  unfold RefRw at h ⊢
  unfold Keeps at k
  cases ho : X.ob id <;> simp only [ho] at h k
  · simp only [k]
  · obtain ⟨⟨c, hc⟩, hb⟩ := k; simp only [hc]
  · obtain ⟨⟨c, hc⟩, hb⟩ := k; simp only [hc]
  · rcases k with hc | ⟨⟨fr', xs', hc | hc, hl⟩, hb⟩ | ⟨e', fr', xs', ser', hc | hc, hl⟩ <;> simp only [hc]
    · exact ⟨h.1, fun hn => hq hb _ _ _ hl (h.2 hn)⟩
    · exact ⟨h.1, fun hn => hq hb _ _ _ hl (h.2 hn)⟩
    · exact ⟨by omega, fun hn => by omega⟩
    · exact ⟨by omega, fun hn => by omega⟩
  · rcases k with hc | ⟨⟨fr', xs', hc, hl⟩, hb⟩ <;> simp only [hc]
    exact ⟨h.1, fun hn => hq hb _ _ _ hl (h.2 hn)⟩
  · obtain ⟨⟨_, _, _, hc⟩, hb⟩ := k; simp only [hc]
  · rcases k with hc | ⟨⟨fr', xs', hc, hl⟩, hb⟩ | ⟨xs', ser', lo', iv', hc, h1, h2, h3, _⟩ | ⟨fr', xs', ser', hc, hl⟩ <;> simp only [hc]
    · exact ⟨h.1, fun hn => hq hb _ _ _ hl (h.2 hn)⟩
    rotate_left
    · exact ⟨by omega, fun hn => by omega⟩
    · exact ⟨by omega, fun hn => by
        have he : ser' = _ := Nat.le_antisymm (by omega) h1
        obtain ⟨a, b, _⟩ := h3 he
        exact hq b _ _ _ a (h.2 (by omega))⟩
theorem Inner.keep {P : Program} {h h' : Array Obj} {e : TypeId} {l : Loc} {v : Value} {ys : Rw} (hh : l.nil = false → h'[l.blk]? = h[l.blk]?) (hi : Inner P h e l v ys) : Inner P h' e l v ys := by
  rcases hi with hi | ⟨a1, a2, a3, cs, ty, a5, a6, a7⟩
  · exact .inl hi
  · exact .inr ⟨a1, a2, a3, cs, ty, (hh a1).trans a5, a6, a7⟩
theorem RowD.keep {P : Program} {h h' : Array Obj} {γ : Nat → Loc} {e : TypeId} {c : Option (Nat × TypeId)} {cs : Array Value} {off : Nat} {xs : Rw} {lo : Nat} (hd : Dk P e c)
    (hh : ∀ k e', c = some (k, e') → ∀ i, lo ≤ i → i < xs.length → (γ i).nil = false → h'[(γ i).blk]? = h[(γ i).blk]?) (hr : RowD P h γ e cs off xs lo) : RowD P h' γ e cs off xs lo := by
  intro i h1 h2 o h3
  obtain ⟨v, h4, h5⟩ := hr i h1 h2 o h3
  refine ⟨v, h4, ?_⟩
  cases hk : ck P e o <;> rw [hk] at h5 <;> try exact h5
  rename_i e'
  refine h5.keep fun hne => ?_
  unfold Dk at hd
  cases c with
  | none =>
    have hm := zbc hk (by simp)
    unfold flat at hd
    simp only [List.all_eq_true] at hd
    have := hd _ hm
    simp at this
  | some q =>
    obtain ⟨k, e2⟩ := q
    obtain ⟨_, d2, _, d4⟩ := hd
    have := d4 o e' hk
    subst this
    exact hh _ _ rfl i h1 h2 hne
theorem InB.of {X : Cx} {id : Nat} {e : TypeId} {k : Nat} {e' : TypeId} {xs : Rw} {ser lo iv i : Nat} (ho : X.ob id = .dw e (some (k, e')) xs ser lo iv) (h1 : lo ≤ i) (h2 : i < xs.length) (h3 : (X.γ id i).nil = false) : InB X id (X.γ id i).blk := by
  unfold InB
  rw [ho]
  exact ⟨k, e', rfl, i, h1, h2, h3, rfl⟩
theorem RS.ext {P : Program} {X X' : Cx} (E : Ext X X') {x : AS} {v : Value} (h : RS P X x v) : RS P X' x v := by
  cases x <;> simp only [RS] at h ⊢ <;> try exact h
  case pt id off => exact h.ext (E.keep id) fun hb he => by rw [hb]; exact he
  case pe e fr xs ix o =>
    obtain ⟨blk, off, cs, ty, fz, h1, h2, h3, h4, h5⟩ := h
    exact ⟨blk, off, cs, ty, fz, h1, h2, E.F _ _ h3, (E.h _ _ h3).trans h4, h5.mono fun _ _ _ hx => Con.mono (E.F fr) (E.h fr) hx⟩
  case po id n ix o => exact ⟨h.1, h.2.ext (E.keep id) fun hb e xs xs' hl he => by rw [hb, hl]; exact he⟩
  case fz e fr xs =>
    obtain ⟨A, cap, h1, h2, h3⟩ := h
    exact ⟨A, cap, h1, h2, Con.mono (E.F fr) (E.h fr) h3⟩
  case ow id n => exact ⟨h.1, h.2.ext (E.keep id) fun hb e xs xs' hl he => by rw [hb, hl]; exact he⟩
  case sb id n lo hi => exact ⟨h.1, h.2.ext (E.keep id) fun hb e xs xs' hl he => by rw [hb, hl]; exact he⟩
  case fn f caps =>
    obtain ⟨h1, h2⟩ := h
    refine ⟨fun c hc => (h1 c hc).ext (E.keep c.1) fun _ ht => ht, ?_⟩
    rw [h2]
    congr 2
    apply List.map_congr_left
    intro c hc
    have hk := h1 c hc
    have hk2 := E.keep c.1
    unfold RefBx at hk
    unfold Keeps at hk2
    cases ho : X.ob c.1 <;> simp only [ho] at hk hk2
    · rw [hk2.2]
    · rw [hk2.2]
  case mp id => exact h.ext (E.keep id) fun hb he => by rw [hb]; exact he
  case ri id n ix e =>
    obtain ⟨h1, h2⟩ := h
    refine ⟨h1, ?_⟩
    have k := E.keep id
    unfold RefRi at h2 ⊢
    unfold Keeps at k
    cases ho : X.ob id <;> simp only [ho] at h2 k
    · simp only [k]
    · obtain ⟨⟨c, hc⟩, hb⟩ := k; simp only [hc]
    · obtain ⟨⟨c, hc⟩, hb⟩ := k; simp only [hc]
    · rcases k with hc | ⟨⟨fr', xs', hc | hc, hl⟩, hb⟩ | ⟨e', fr', xs', ser', hc | hc, hl⟩ <;> simp only [hc]
    · rcases k with hc | ⟨⟨fr', xs', hc, hl⟩, hb⟩ <;> simp only [hc]
    · obtain ⟨⟨_, _, _, hc⟩, hb⟩ := k; simp only [hc]
    · rename_i e0 c xs ser lo iv
      rcases k with hc | ⟨⟨fr', xs', hc, hl⟩, hb⟩ | ⟨xs', ser', lo', iv', hc, _, h3, _, h4⟩ | ⟨fr', xs', ser', hc, hl⟩ <;> simp only [hc]
      refine ⟨by omega, fun hn => ?_⟩
      have he : iv' = iv := by omega
      obtain ⟨a1, a2, a3, a4, a5⟩ := h4 he
      obtain ⟨k, e', rfl, q1, q2, q3⟩ := h2.2 (by omega)
      refine ⟨k, e', rfl, by omega, by omega, ?_⟩
      rw [a3, a4 k e' rfl ix]
      exact q3.keep fun hne => a5 _ (InB.of ho q1 q2 hne)
theorem RSs.ext {P : Program} {X X' : Cx} (E : Ext X X') {xs : List AS} {vs : List Value} (h : RSs P X xs vs) : RSs P X' xs vs := F2.mono (fun _ _ hx => hx.ext E) h
theorem RT.ext {P : Program} {X X' : Cx} (E : Ext X X') {x : Bool × List AS} {v : Value} (h : RT P X x v) : RT P X' x v := by
  obtain ⟨b, xs⟩ := x
  cases b
  · exact RSs.ext E h
  · obtain ⟨cs, h1, h2⟩ := h; exact ⟨cs, h1, h2.ext E⟩
theorem RV.ext {P : Program} {X X' : Cx} (E : Ext X X') {x : AV} {v : Value} (h : RV P X x v) : RV P X' x v := by
  cases x <;> simp only [RV] at h ⊢
  · exact h.ext E
  · obtain ⟨cs, h1, h2⟩ := h; exact ⟨cs, h1, h2.ext E⟩
  · obtain ⟨cs, h1, h2⟩ := h; exact ⟨cs, h1, F2.mono (fun _ _ hx => hx.ext E) h2⟩
theorem Keeps.trans {X Y Z : Cx} {id : Nat} (h : Keeps X Y id) (k : Keeps Y Z id) : Keeps X Z id := by
  unfold Keeps at h k ⊢
  cases ho : X.ob id <;> simp only [ho] at h
  · trivial
  · simp only [h] at k; exact k
  · obtain ⟨⟨c, hc⟩, hb⟩ := h; simp only [hc] at k; exact ⟨k.1, k.2.trans hb⟩
  · obtain ⟨⟨c, hc⟩, hb⟩ := h; simp only [hc] at k; exact ⟨k.1, k.2.trans hb⟩
  · rcases h with hc | ⟨⟨fr', xs', hc | hc, hl⟩, hb⟩ | ⟨e', fr', xs', ser', hc | hc, hl⟩ <;> simp only [hc] at k
    · exact .inl k
    · rcases k with hk | ⟨⟨fr2, xs2, hk, hl2⟩, hb2⟩ | ⟨e2, fr2, xs2, ser2, hk, hl2⟩
      · exact .inl hk
      · exact .inr (.inl ⟨⟨fr2, xs2, hk, hl2.trans hl⟩, hb2.trans hb⟩)
      · exact .inr (.inr ⟨_, _, _, _, hk, hl2⟩)
    · rcases k with hk | ⟨⟨fr2, xs2, hk, hl2⟩, hb2⟩
      · exact .inl hk
      · exact .inr (.inl ⟨⟨fr2, xs2, .inr hk, hl2.trans hl⟩, hb2.trans hb⟩)
    · rcases k with hk | ⟨⟨fr2, xs2, hk, hl2⟩, hb2⟩ | ⟨e2, fr2, xs2, ser2, hk, hl2⟩
      · exact .inl hk
      · exact .inr (.inr ⟨_, _, _, _, hk, hl⟩)
      · exact .inr (.inr ⟨_, _, _, _, hk, by omega⟩)
    · rcases k with hk | ⟨⟨fr2, xs2, hk, hl2⟩, hb2⟩
      · exact .inl hk
      · exact .inr (.inr ⟨_, _, _, _, .inr hk, hl⟩)
  · rcases h with hc | ⟨⟨fr', xs', hc, hl⟩, hb⟩ <;> simp only [hc] at k
    · exact .inl k
    · rcases k with hk | ⟨⟨fr2, xs2, hk, hl2⟩, hb2⟩
      · exact .inl hk
      · exact .inr ⟨⟨fr2, xs2, hk, hl2.trans hl⟩, hb2.trans hb⟩
  · obtain ⟨⟨_, _, _, hc⟩, hb⟩ := h; simp only [hc] at k; exact ⟨k.1, k.2.trans hb⟩
  · rename_i e c xs ser lo iv
    rcases h with hc | ⟨⟨fr', xs', hc, hl⟩, hb⟩ | ⟨xs', ser', lo', iv', hc, h1, h2, h3, h4⟩ | ⟨fr', xs', ser', hc, hl⟩ <;> simp only [hc] at k
    · exact .inl k
    · rcases k with hk | ⟨⟨fr2, xs2, hk, hl2⟩, hb2⟩
      · exact .inl hk
      · exact .inr (.inl ⟨⟨fr2, xs2, hk, hl2.trans hl⟩, hb2.trans hb⟩)
    · rcases k with hk | ⟨⟨fr2, xs2, hk, hl2⟩, hb2⟩ | ⟨xs2, ser2, lo2, iv2, hk, k1, k2, k3, k4⟩ | ⟨fr2, xs2, ser2, hk, hl2⟩
      · exact .inl hk
      · by_cases he : ser' = ser
        · obtain ⟨b1, b2, _⟩ := h3 he
          exact .inr (.inl ⟨⟨fr2, xs2, by rw [hk, he], hl2.trans b1⟩, hb2.trans b2⟩)
        · exact .inr (.inr (.inr ⟨fr2, xs2, ser', hk, by omega⟩))
      · refine .inr (.inr (.inl ⟨xs2, ser2, lo2, iv2, hk, by omega, by omega, fun he => ?_, fun he => ?_⟩))
        · obtain ⟨b1, b2, b3⟩ := h3 (by omega)
          obtain ⟨c1, c2, c3⟩ := k3 (by omega)
          exact ⟨c1.trans b1, c2.trans b2, fun hq => (c3 hq).trans (b3 (by omega))⟩
        · obtain ⟨b1, b2, b3, b4, b5⟩ := h4 (by omega)
          obtain ⟨c1, c2, c3, c4, c5⟩ := k4 (by omega)
          refine ⟨c1.trans b1, c2.trans b2, c3.trans b3, fun k e' hc i => (c4 k e' hc i).trans (b4 k e' hc i), fun b hb => ?_⟩
          refine (c5 b ?_).trans (b5 b hb)
          unfold InB at hb ⊢
          rw [ho] at hb
          rw [hc]
          obtain ⟨k, e', hcc, i, q1, q2, q3, q4⟩ := hb
          exact ⟨k, e', hcc, i, by omega, by omega, by rw [b3]; exact q3, by rw [b3]; exact q4⟩
      · exact .inr (.inr (.inr ⟨fr2, xs2, ser2, hk, by omega⟩))
    · rcases k with hk | ⟨⟨fr2, xs2, hk, hl2⟩, hb2⟩
      · exact .inl hk
      · exact .inr (.inr (.inr ⟨fr2, xs2, ser', hk, hl⟩))
theorem Ext.trans {X Y Z : Cx} (h : Ext X Y) (k : Ext Y Z) : Ext X Z :=
  ⟨fun fr b hb => k.F fr b (h.F fr b hb), fun fr b hb => (k.h fr b (h.F fr b hb)).trans (h.h fr b hb), fun id => (h.keep id).trans (k.keep id)⟩
structure Turn (P : Program) (K : Kx) (X X' : Cx) (S : Nat → Prop) : Prop where
  F : ∀ fr b, X.F fr b → X'.F fr b
  Fle : ∀ b, X'.F true b → X'.F false b
  Ffr : ∀ b, X'.F true b → K.h0.size ≤ b
  Fnew : ∀ b, X'.F false b → X.F false b ∨ (X.h.size ≤ b ∧ b < X'.h.size) ∨ ∃ id, S id ∧ Has X id b
  sz : X.h.size ≤ X'.h.size
  blk : ∀ b, b < X.h.size → (∀ id, S id → ¬ Has X id b) → X'.h[b]? = X.h[b]?
  ob : ∀ id, ¬ S id → X'.ob id = X.ob id
  β : ∀ id, ¬ S id → X'.β id = X.β id
  γ : ∀ id, ¬ S id → X'.γ id = X.γ id
  keep : ∀ id, S id → Keeps X X' id
  own : ∀ id b, S id → Has X' id b → (X.h.size ≤ b ∨ ∃ id0, S id0 ∧ Has X id0 b) ∧ ¬ X'.F false b
  inj : ∀ id id' b, S id → S id' → Has X' id b → Has X' id' b → id = id'
theorem Turn.ext {P : Program} {K : Kx} {X X' : Cx} {S : Nat → Prop} (H : Heap P K X) (T : Turn P K X X' S) : Ext X X' := by
  refine ⟨T.F, fun fr b hb => ?_, fun id => ?_⟩
  · have hf : X.F false b := by cases fr; exact hb; exact H.Fle b hb
    exact T.blk b (H.Fsz b hf) fun id hs ho => H.nF id b ho hf
  · by_cases hs : S id
    · exact T.keep id hs
    · refine Keeps.same (T.ob id hs) (T.β id hs) (T.γ id hs) fun b hb => ?_
      have hi : Has X id b := by
        refine ⟨?_, .inr hb⟩
        have hk := H.ok id
        unfold InB at hb
        split at hb
        · rename_i hob
          obtain ⟨k, e', hc, i, q1, q2, _⟩ := hb
          unfold AOok at hk
          unfold Own
          rw [hob] at hk ⊢
          rcases hk.2 with ⟨_, hx, _⟩ | ⟨hn, _⟩
          · rw [hx] at q2; simp at q2
          · exact hn
        · exact hb.elim
      exact T.blk b (hi.lt H) fun id' hs' ho' => hs (H.inj id' id b ho' hi ▸ hs')
theorem Own.congr {X X' : Cx} {id : Nat} (h1 : X'.ob id = X.ob id) (h2 : X'.β id = X.β id) : Own X' id ↔ Own X id := by
  unfold Own; rw [h1, h2]
theorem Has.congr {X X' : Cx} {id b : Nat} (h1 : X'.ob id = X.ob id) (h2 : X'.β id = X.β id) (h3 : X'.γ id = X.γ id) : Has X' id b ↔ Has X id b := by
  unfold Has InB; rw [Own.congr h1 h2, h1, h2, h3]
theorem AOok.keep {P : Program} {K : Kx} {X X' : Cx} {id : Nat} (E : Ext X X') (h1 : X'.ob id = X.ob id) (h2 : X'.β id = X.β id) (h3 : X'.γ id = X.γ id)
    (hb0 : ∀ b, Has X id b → X'.h[b]? = X.h[b]?) (hb1 : K.R (X.β id).blk → X'.h[(X.β id).blk]? = X.h[(X.β id).blk]?) (h : AOok P K X id) : AOok P K X' id := by
  have hb : Own X id ∨ K.R (X.β id).blk → X'.h[(X.β id).blk]? = X.h[(X.β id).blk]? := fun h => h.elim (fun h => hb0 _ h.has) hb1
  unfold AOok at h ⊢
  rw [h1, h2]
  unfold Own at hb
  cases ho : X.ob id <;> simp only [ho] at h hb ⊢
  · obtain ⟨cs, ty, a1, a2⟩ := h
    exact ⟨cs, ty, (hb (.inl trivial)).trans a1, fun j x hj => let ⟨v, b1, b2⟩ := a2 j x hj; ⟨v, b1, b2.ext E⟩⟩
  · obtain ⟨hR, cs, ty, fz, a1, a2⟩ := h
    exact ⟨hR, cs, ty, fz, (hb (.inr hR)).trans a1, fun j x hj => let ⟨v, b1, b2⟩ := a2 j x hj; ⟨v, b1, b2.ext E⟩⟩
  · rcases h with h | ⟨a1, a2, a3, cs, ty, a4, a5, a6⟩
    · exact .inl h
    · exact .inr ⟨a1, a2, a3, cs, ty, (hb (.inl a1)).trans a4, a5, a6.mono fun _ _ _ hx => Con.mono (E.F _) (E.h _) hx⟩
  · rcases h with h | ⟨a1, a2, a3, cs, ty, fz, a4, a5⟩
    · exact .inl h
    · exact .inr ⟨a1, a2, E.F _ _ a3, cs, ty, fz, (E.h _ _ a3).trans a4, a5.mono fun _ _ _ hx => Con.mono (E.F _) (E.h _) hx⟩
  · obtain ⟨ents, clock, a1, a2⟩ := h
    exact ⟨ents, clock, (hb (.inl trivial)).trans a1, a2⟩
  · rename_i e c xs ser lo iv
    obtain ⟨hd, h⟩ := h
    refine ⟨hd, ?_⟩
    rcases h with h | ⟨a1, a2, a3, ⟨cs, ty, a4, a5, a6⟩, a7⟩
    · exact .inl h
    · refine .inr ⟨a1, a2, a3, ⟨cs, ty, (hb (.inl a1)).trans a4, a5, ?_⟩, by rw [h3]; exact a7⟩
      rw [h3]
      refine a6.keep hd fun k e' hc i q1 q2 q3 => hb0 _ ⟨by unfold Own; rw [ho]; exact a1, .inr ?_⟩
      subst hc
      exact InB.of ho q1 q2 q3
theorem Turn.heap {P : Program} {K : Kx} {X X' : Cx} {S : Nat → Prop} (H : Heap P K X) (T : Turn P K X X' S) (ok : ∀ id, S id → AOok P K X' id) : Heap P K X' := by
  have E := T.ext H
  have own' : ∀ id b, ¬ S id → Has X' id b → Has X id b := fun id b hs ho => (Has.congr (T.ob id hs) (T.β id hs) (T.γ id hs)).1 ho
  refine ⟨fun id => ?_, fun id id' b ho ho' => ?_, fun id b ho hF => ?_, fun id b ho hR => ?_, fun id b ho => ?_, T.Fle, T.Ffr, fun b hb => ?_, H.Rsz, Nat.le_trans H.sz T.sz⟩
  · by_cases hs : S id
    · exact ok id hs
    · refine (H.ok id).keep E (T.ob id hs) (T.β id hs) (T.γ id hs) (fun b hb => T.blk _ (hb.lt H) fun id' hs' ho' => hs (H.inj id' id b ho' hb ▸ hs')) fun hb => T.blk _ (Nat.lt_of_lt_of_le (H.Rsz _ hb) H.sz) fun id' hs' ho' => H.nR id' _ ho' hb
  · by_cases hs : S id <;> by_cases hs' : S id'
    · exact T.inj id id' b hs hs' ho ho'
    · have hx := own' id' b hs' ho'
      rcases (T.own id b hs ho).1 with hl | ⟨id0, h0, h1⟩
      · have := hx.lt H; omega
      · have := H.inj id0 id' b h1 hx; exact absurd (this ▸ h0) hs'
    · have hx := own' id b hs ho
      rcases (T.own id' b hs' ho').1 with hl | ⟨id0, h0, h1⟩
      · have := hx.lt H; omega
      · have := H.inj id0 id b h1 hx; exact absurd (this ▸ h0) hs
    · exact H.inj id id' b (own' id b hs ho) (own' id' b hs' ho')
  · by_cases hs : S id
    · exact (T.own id b hs ho).2 hF
    · have hx := own' id b hs ho
      rcases T.Fnew _ hF with h1 | ⟨h1, _⟩ | ⟨id0, h0, h1⟩
      · exact H.nF id b hx h1
      · have := hx.lt H; omega
      · exact hs (H.inj id0 id b h1 hx ▸ h0)
  · by_cases hs : S id
    · rcases (T.own id b hs ho).1 with hl | ⟨id0, h0, h1⟩
      · have h3 := H.Rsz _ hR; have h4 := H.sz; omega
      · exact H.nR id0 b h1 hR
    · exact H.nR id b (own' id b hs ho) hR
  · by_cases hs : S id
    · rcases (T.own id b hs ho).1 with hl | ⟨id0, h0, h1⟩
      · exact .inr (Nat.le_trans H.sz hl)
      · exact H.oM id0 b h1
    · exact H.oM id b (own' id b hs ho)
  · rcases T.Fnew b hb with h1 | ⟨_, h1⟩ | ⟨id0, h0, h1⟩
    · exact Nat.lt_of_lt_of_le (H.Fsz b h1) T.sz
    · exact h1
    · exact Nat.lt_of_lt_of_le (h1.lt H) T.sz
end Go.Eng
end
section
namespace Go.Eng
open Go
def upd {α : Type} (f : Nat → α) (n : Nat) (v : α) : Nat → α := fun m => if m = n then v else f m
@[simp] theorem upd_same {α : Type} (f : Nat → α) (n : Nat) (v : α) : upd f n v n = v := by simp [upd]
theorem zh {α : Type} (f : Nat → α) {n m : Nat} (v : α) (h : m ≠ n) : upd f n v m = f m := by simp [upd, h]
def updl (f : Nat → AO) (ws : List (Nat × AO)) : Nat → AO := fun id => look (f id) ws id
@[simp] theorem updl_nil (f : Nat → AO) : updl f [] = f := rfl
theorem zy (f : Nat → AO) (n : Nat) (o : AO) (ws : List (Nat × AO)) : updl f ((n, o) :: ws) = upd (updl f ws) n o := by
  funext m
  simp only [updl, look, upd]
  by_cases h : m = n
  · subst h; simp
  · have : Nat.beq n m = false := by
      cases hb : Nat.beq n m with
      | false => rfl
      | true => exact absurd (Nat.eq_of_beq_eq_true hb).symm h
    simp [this, h]
theorem zfs {α : Type} (d : α) (ws l : List (Nat × α)) (n : Nat) : look d (ws ++ l) n = look (look d l n) ws n := by
  induction ws with
  | nil => rfl
  | cons x ws ih => simp only [List.cons_append, look, ih]
theorem zmh (f : Nat → AO) (ws ws' : List (Nat × AO)) : updl f (ws ++ ws') = updl (updl f ws') ws := by
  funext m; simp only [updl, zfs]
theorem St.apply_o (σ : St) (dst : Option Nat) (v : AV) (ws : List (Nat × AO)) (nn : Nat) : (σ.apply dst v ws nn).o = updl σ.o ws := by
  funext m
  cases dst <;> simp [St.apply, St.put, St.o, zfs, updl]
def BoxK (X X' : Cx) (id n : Nat) : Prop :=
  (∃ cells', X'.ob id = .bx cells' ∧ cells'.length = n) ∧ X'.β id = X.β id ∧
    ∀ cs ty, X.h[(X.β id).blk]? = some (.cells cs ty (0, 0)) → ∃ cs', X'.h[(X.β id).blk]? = some (.cells cs' ty (0, 0)) ∧ cs'.size = cs.size ∧
      ∀ c, (c < (X.β id).off ∨ (X.β id).off + n ≤ c) → cs'[c]? = cs[c]?
theorem BoxK.refl {X : Cx} {id : Nat} {cells : List AS} (h : X.ob id = .bx cells) : BoxK X X id cells.length :=
  ⟨⟨_, h, rfl⟩, rfl, fun cs ty hc => ⟨cs, hc, rfl, fun _ _ => rfl⟩⟩
theorem BoxK.trans {X Y Z : Cx} {id n : Nat} (h : BoxK X Y id n) (k : BoxK Y Z id n) : BoxK X Z id n := by
  obtain ⟨_, hb, h3⟩ := h
  obtain ⟨k1, kb, k3⟩ := k
  refine ⟨k1, kb.trans hb, fun cs ty hc => ?_⟩
  obtain ⟨cs1, a1, a2, a3⟩ := h3 cs ty hc
  rw [hb] at k3
  obtain ⟨cs2, b1, b2, b3⟩ := k3 cs1 ty a1
  exact ⟨cs2, b1, b2.trans a2, fun c hc => (b3 c hc).trans (a3 c hc)⟩
structure Stp (P : Program) (K : Kx) (X : Cx) (w : World) (X' : Cx) (w' : World) : Prop where
  heap : Heap P K X'
  hX : X'.h = w'.heap
  ext : Ext X X'
  os : w'.os = w.os
  tape : w'.tape = w.tape
  output : w'.output = w.output
  sz : X.h.size ≤ X'.h.size
  fr : ∀ b, b < X.h.size → (∀ id, ¬ Has X id b) → X'.h[b]? = X.h[b]?
  own : ∀ id b, Has X' id b → X.h.size ≤ b ∨ ∃ id0, Has X id0 b
  Fnew : ∀ b, X'.F false b → X.F false b ∨ X.h.size ≤ b ∨ ∃ id, Has X id b
  box : ∀ id cells, X.ob id = .bx cells → BoxK X X' id cells.length
theorem Stp.refl {P : Program} {K : Kx} {X : Cx} {w : World} (H : Heap P K X) (hX : X.h = w.heap) : Stp P K X w X w :=
  ⟨H, hX, Ext.refl X, rfl, rfl, rfl, Nat.le_refl _, fun _ _ _ => rfl, fun id b ho => .inr ⟨id, ho⟩, fun _ h => .inl h, fun _ _ h => BoxK.refl h⟩
theorem Stp.trans {P : Program} {K : Kx} {X Y Z : Cx} {w w1 w2 : World} (HX : Heap P K X) (h : Stp P K X w Y w1) (k : Stp P K Y w1 Z w2) : Stp P K X w Z w2 := by
  refine ⟨k.heap, k.hX, h.ext.trans k.ext, k.os.trans h.os, k.tape.trans h.tape, k.output.trans h.output, Nat.le_trans h.sz k.sz, fun b hb hno => ?_, fun id b ho => ?_, fun b hb => ?_, fun id cells hc => ?_⟩
  · refine (k.fr b (Nat.lt_of_lt_of_le hb h.sz) fun id ho => ?_).trans (h.fr b hb hno)
    rcases h.own id b ho with h1 | ⟨id0, h1⟩
    · omega
    · exact hno id0 h1
  · rcases k.own id b ho with h1 | ⟨id0, h1⟩
    · exact .inl (Nat.le_trans h.sz h1)
    · exact h.own id0 b h1
  · rcases k.Fnew b hb with h1 | h1 | ⟨id, h1⟩
    · exact h.Fnew b h1
    · exact .inr (.inl (Nat.le_trans h.sz h1))
    · rcases h.own id b h1 with h3 | ⟨id1, h3⟩
      · exact .inr (.inl h3)
      · exact .inr (.inr ⟨id1, h3⟩)
  · obtain ⟨⟨c', h1, h2⟩, _⟩ := h.box id cells hc
    have := k.box id c' h1
    rw [h2] at this
    exact (h.box id cells hc).trans this
theorem Turn.stp {P : Program} {K : Kx} {X X' : Cx} {S : Nat → Prop} {w w' : World} (H : Heap P K X) (T : Turn P K X X' S) (ok : ∀ id, S id → AOok P K X' id) (hX : X'.h = w'.heap)
    (h1 : w'.os = w.os) (h2 : w'.tape = w.tape) (h3 : w'.output = w.output) (hb : ∀ id cells, S id → X.ob id = .bx cells → BoxK X X' id cells.length) : Stp P K X w X' w' := by
  refine ⟨T.heap H ok, hX, T.ext H, h1, h2, h3, T.sz, fun b hb hno => T.blk b hb fun id _ ho => hno id ho, fun id b ho => ?_, fun b hb => ?_, fun id cells hc => ?_⟩
  · by_cases hs : S id
    · rcases (T.own id b hs ho).1 with h | ⟨id0, _, h1⟩
      · exact .inl h
      · exact .inr ⟨id0, h1⟩
    · exact .inr ⟨id, (Has.congr (T.ob id hs) (T.β id hs) (T.γ id hs)).1 ho⟩
  · rcases T.Fnew b hb with h | ⟨h, _⟩ | ⟨id, _, h1⟩
    · exact .inl h
    · exact .inr (.inl h)
    · exact .inr (.inr ⟨id, h1⟩)
  · by_cases hs : S id
    · exact hb id cells hs hc
    · have ho : Own X id := by unfold Own; rw [hc]; trivial
      refine ⟨⟨cells, (T.ob id hs).trans hc, rfl⟩, T.β id hs, fun cs ty hcs => ⟨cs, ?_, rfl, fun _ _ => rfl⟩⟩
      rw [T.blk _ (ho.lt H) fun id' hs' ho' => hs (H.inj id' id _ ho' ho.has ▸ hs')]
      exact hcs
theorem Stp.drew {P : Program} {K : Kx} {X : Cx} {w w' : World} (H : Heap P K X) (hX : X.h = w.heap) (h0 : w'.heap = w.heap) (h1 : w'.os = w.os) (h2 : w'.tape = w.tape) (h3 : w'.output = w.output) : Stp P K X w X w' :=
  ⟨H, hX.trans h0.symm, Ext.refl X, h1, h2, h3, Nat.le_refl _, fun _ _ _ => rfl, fun id b ho => .inr ⟨id, ho⟩, fun _ h => .inl h, fun _ _ h => BoxK.refl h⟩
def Cx.new (X : Cx) (nid : Nat) (l : Loc) (o : AO) (h : Array Obj) (fz : Bool) : Cx :=
  ⟨upd X.β nid l, fun fr b => X.F fr b ∨ (fz = true ∧ b = l.blk), upd X.ob nid o, h, X.γ⟩
theorem Stp.new {P : Program} {K : Kx} {X : Cx} {w w' : World} {nid : Nat} {l : Loc} {o : AO} {fz : Bool} (H : Heap P K X) (hX : X.h = w.heap) (hd : X.ob nid = .dead)
    (hh : w'.heap.size = w.heap.size + 1) (hold : ∀ b, b < w.heap.size → w'.heap[b]? = w.heap[b]?) (h1 : w'.os = w.os) (h2 : w'.tape = w.tape) (h3 : w'.output = w.output) (hl : l.blk = w.heap.size)
    (hfz : fz = true → ¬ Own (X.new nid l o w'.heap fz) nid)
    (ok : Ext X (X.new nid l o w'.heap fz) → AOok P K (X.new nid l o w'.heap fz) nid) (hnd : o.isD = false := by rfl) : Stp P K X w (X.new nid l o w'.heap fz) w' := by
  have hsz : X.h.size = w.heap.size := by rw [hX]
  have T : Turn P K X (X.new nid l o w'.heap fz) (fun id => id = nid) := by
    refine ⟨fun fr b h => .inl h, fun b h => ?_, fun b h => ?_, fun b h => ?_, ?_, fun b hb _ => ?_, fun id h => zh _ _ h, fun id h => zh _ _ h, fun id h => rfl, fun id h => ?_, fun id b h ho => ?_, fun id id' b h h' _ _ => h.trans h'.symm⟩
    · rcases h with h | h
      · exact .inl (H.Fle b h)
      · exact .inr h
    · rcases h with h | ⟨_, h⟩
      · exact H.Ffr b h
      · rw [h, hl, ← hsz]; exact H.sz
    · rcases h with h | ⟨_, h⟩
      · exact .inl h
      · right; left; show _ ∧ b < w'.heap.size; rw [hh, h, hl, hsz]; omega
    · show _ ≤ w'.heap.size; rw [hh, hsz]; omega
    · show w'.heap[b]? = _; rw [hX]; exact hold b (by omega)
    · unfold Keeps; rw [h, hd]; trivial
    · subst h
      obtain ⟨ho1, rfl⟩ := ho.one (by show (upd X.ob id o id).isD = false; rw [upd_same]; exact hnd)
      refine ⟨.inl ?_, fun hF => ?_⟩
      · show _ ≤ (upd X.β id l id).blk; rw [upd_same, hl, hsz]; exact Nat.le_refl _
      · rcases hF with hF | ⟨hF, _⟩
        · have := H.Fsz _ hF
          simp only [Cx.new, upd_same, hl] at this
          omega
        · exact hfz hF ho1
  refine T.stp H (fun id h => ?_) rfl h1 h2 h3 (fun id cells h hc => ?_)
  · subst h; exact ok (T.ext H)
  · subst h; rw [hd] at hc; cases hc
end Go.Eng
end
section
namespace Go.Eng
open Go
theorem zn {n m : Nat} (h : n ≠ m) : Nat.beq n m = false := by
  cases hb : Nat.beq n m with
  | false => rfl
  | true => exact absurd (Nat.eq_of_beq_eq_true hb) h
theorem zb {n m : Nat} (h : Nat.beq n m = true) : n = m := Nat.eq_of_beq_eq_true h
theorem zee {α : Type} {f : Nat → α} {n : Nat} {v : α} (h : f n = v) : upd f n v = f := by
  funext m; unfold upd; split
  · rename_i e; rw [e, h]
  · rfl
def Cx.frz (X : Cx) (id : Nat) (e : TypeId) (fr : Bool) (xs : Rw) (ser : Nat) : Cx :=
  ⟨X.β, fun f b => X.F f b ∨ ((X.β id).nil = false ∧ b = (X.β id).blk ∧ (f = true → fr = true)), upd X.ob id (.fz e fr xs ser), X.h, X.γ⟩
theorem Stp.frz1 {P : Program} {K : Kx} {X : Cx} {w : World} {id : Nat} {e : TypeId} {fr : Bool} {xs : Rw} {ser : Nat} (H : Heap P K X) (hX : X.h = w.heap) (ho : X.ob id = .rw e fr xs ser) :
    Stp P K X w (X.frz id e fr xs ser) w := by
  have hok := H.ok id
  unfold AOok at hok
  rw [ho] at hok
  have hown : (X.β id).nil = false → Own X id := fun h => by unfold Own; rw [ho]; exact h
  have T : Turn P K X (X.frz id e fr xs ser) (fun i => i = id) := by
    refine ⟨fun f b h => .inl h, fun b h => ?_, fun b h => ?_, fun b h => ?_, Nat.le_refl _, fun b hb _ => rfl, fun i h => zh _ _ h, fun i h => rfl, fun i h => rfl, fun i h => ?_, fun i b h hi => ?_, fun i i' b h h' _ _ => h.trans h'.symm⟩
    · rcases h with h | ⟨h1, h2, h3⟩
      · exact .inl (H.Fle b h)
      · exact .inr ⟨h1, h2, fun h => by cases h⟩
    · rcases h with h | ⟨h1, h2, h3⟩
      · exact H.Ffr b h
      · rcases hok with ⟨hn, _⟩ | ⟨_, _, h4, _⟩
        · rw [h1] at hn; cases hn
        · rw [h2]; exact h4 (h3 rfl)
    · rcases h with h | ⟨h1, h2, _⟩
      · exact .inl h
      · exact .inr (.inr ⟨id, rfl, hown h1, .inl h2⟩)
    · subst h
      unfold Keeps
      rw [ho]
      exact .inr (.inl ⟨⟨fr, xs, .inr (upd_same _ _ _), rfl⟩, rfl⟩)
    · subst h
      have hi := hi.1
      unfold Own at hi
      simp [Cx.frz] at hi
  refine T.stp H (fun i h => ?_) hX rfl rfl rfl (fun i cells h hc => ?_)
  · subst h
    have E := T.ext H
    unfold AOok
    simp only [Cx.frz, upd_same]
    rcases hok with hok | ⟨h1, h2, h3, cs, ty, h4, h5, h6⟩
    · exact .inl hok
    · exact .inr ⟨h1, h2, .inr ⟨h1, trivial, fun h => h⟩, cs, ty, _, h4, h6.mono fun _ _ _ hx => Con.mono (E.F fr) (E.h fr) hx⟩
  · subst h; rw [ho] at hc; cases hc
theorem RowAt.flat' {P : Program} {e : TypeId} (hf : Eng.flat P e = true) {con con' : TypeId → Option Addr → Rw → Prop} {cs : Array Value} {off : Nat} {xs : Rw} (h : RowAt P con e cs off xs) : RowAt P con' e cs off xs := fun i hi o ho => by
  obtain ⟨v, h1, h2⟩ := h i hi o ho
  refine ⟨v, h1, ?_⟩
  cases hk : ck P e o <;> rw [hk] at h2 <;> try exact h2
  have hm := zbc hk (by simp)
  unfold Eng.flat at hf
  rw [List.all_eq_true] at hf
  have := hf _ hm
  simp at this
theorem Inner.con {P : Program} {h : Array Obj} {e : TypeId} {l : Loc} {v : Value} {ys : Rw} (hf : Eng.flat P e = true) (hi : Inner P h e l v ys) {F : Nat → Prop} (hF : l.nil = false → F l.blk) {d : Nat} :
    ∃ A cap, v = .slice A ys.length cap ∧ ys.length ≤ cap ∧ Con P h F (d + 1) e A ys := by
  rcases hi with ⟨_, rfl, _, rfl⟩ | ⟨a1, a3, a4, cs, ty, a5, a6, a7⟩
  · exact ⟨none, 0, rfl, Nat.zero_le _, .inl rfl⟩
  · exact ⟨_, _, a3, a4, .inr ⟨l.blk, l.off, cs, ty, _, rfl, hF a1, a5, a7.flat' hf⟩⟩
theorem RowD.at {P : Program} {h : Array Obj} {γ : Nat → Loc} {e : TypeId} {c : Option (Nat × TypeId)} {cs : Array Value} {off : Nat} {xs : Rw} (hd : Dk P e c) (hr : RowD P h γ e cs off xs 0) {F : Nat → Prop}
    (hF : ∀ k e', c = some (k, e') → ∀ i, i < xs.length → (γ i).nil = false → F (γ i).blk) {d : Nat} : RowAt P (Con P h F (d + 1)) e cs off xs := by
  intro i h1 o h2
  obtain ⟨v, h3, h4⟩ := hr i (Nat.zero_le _) h1 o h2
  refine ⟨v, h3, ?_⟩
  cases hk : ck P e o <;> rw [hk] at h4 <;> try exact h4
  rename_i e'
  unfold Dk at hd
  cases c with
  | none =>
    have hm := zbc hk (by simp)
    unfold Eng.flat at hd
    simp only [List.all_eq_true] at hd
    have := hd _ hm
    simp at this
  | some q =>
    obtain ⟨k, e2⟩ := q
    obtain ⟨_, d2, d3, d4⟩ := hd
    have := d4 o e' hk
    subst this
    rw [hk] at d2
    cases d2
    exact h4.con d3 fun hne => hF _ _ rfl i h1 hne
def Cx.frzD (X : Cx) (id : Nat) (e : TypeId) (xs : Rw) (ser : Nat) : Cx :=
  ⟨X.β, fun f b => X.F f b ∨ (f = false ∧ Has X id b), upd X.ob id (.fz e false xs ser), X.h, X.γ⟩
theorem Stp.frzD1 {P : Program} {K : Kx} {X : Cx} {w : World} {id : Nat} {e : TypeId} {c : Option (Nat × TypeId)} {xs : Rw} {ser iv : Nat} (H : Heap P K X) (hX : X.h = w.heap) (ho : X.ob id = .dw e c xs ser 0 iv) :
    Stp P K X w (X.frzD id e xs ser) w := by
  have hok := H.ok id
  unfold AOok at hok
  rw [ho] at hok
  have T : Turn P K X (X.frzD id e xs ser) (fun i => i = id) := by
    refine ⟨fun f b h => .inl h, fun b h => ?_, fun b h => ?_, fun b h => ?_, Nat.le_refl _, fun b hb _ => rfl, fun i h => zh _ _ h, fun i h => rfl, fun i h => rfl, fun i h => ?_, fun i b h hi => ?_, fun i i' b h h' _ _ => h.trans h'.symm⟩
    · rcases h with h | ⟨h, _⟩
      · exact .inl (H.Fle b h)
      · cases h
    · rcases h with h | ⟨h, _⟩
      · exact H.Ffr b h
      · cases h
    · rcases h with h | ⟨_, h⟩
      · exact .inl h
      · exact .inr (.inr ⟨id, rfl, h⟩)
    · subst h
      unfold Keeps
      rw [ho]
      exact .inr (.inl ⟨⟨false, xs, upd_same _ _ _, rfl⟩, rfl⟩)
    · subst h
      have hi := hi.1
      unfold Own at hi
      simp [Cx.frzD] at hi
  refine T.stp H (fun i h => ?_) hX rfl rfl rfl (fun i cells h hc => ?_)
  · subst h
    unfold AOok
    simp only [Cx.frzD, upd_same]
    obtain ⟨hd, hok | ⟨h1, h2, _, ⟨cs, ty, h4, h5, h6⟩, _⟩⟩ := hok
    · exact .inl hok
    · have hown : Own X i := by unfold Own; rw [ho]; exact h1
      refine .inr ⟨h1, h2, .inr ⟨trivial, hown.has⟩, cs, ty, _, h4, h6.at hd fun k e' hc j hj hne => .inr ⟨trivial, hown, .inr ?_⟩⟩
      subst hc
      exact InB.of ho (Nat.zero_le _) hj hne
  · subst h; rw [ho] at hc; cases hc
structure Frzd (P : Program) (K : Kx) (X : Cx) (w : World) (lk : Lk) (ids : List Nat) (X' : Cx) : Prop where
  stp : Stp P K X w X' w
  ob : X'.ob = updl X.ob (frz lk ids)
  β : X'.β = X.β
  h : X'.h = X.h
  γ : X'.γ = X.γ
  was : ∀ id ∈ ids, ∀ e fr xs ser, lk id = .rw e fr xs ser → X'.ob id = .fz e fr xs ser
  wasD : ∀ id ∈ ids, ∀ e c xs ser iv, lk id = .dw e c xs ser 0 iv → X'.ob id = .fz e false xs ser ∧ ∀ b, Has X id b → X'.F false b
theorem frzs {P : Program} {K : Kx} {X : Cx} {w : World} {lk : Lk} (H : Heap P K X) (hX : X.h = w.heap) (hlk : ∀ id, lk id = X.ob id ∨ lk id = .dead) : ∀ ids : List Nat, ∃ X', Frzd P K X w lk ids X'
  | [] => ⟨X, Stp.refl H hX, rfl, rfl, rfl, rfl, fun _ h => by simp at h, fun _ h => by simp at h⟩
  | id :: r => by
    obtain ⟨X1, F1⟩ := frzs H hX hlk r
    have notin : ∀ (r : List Nat), id ∉ r → look (X.ob id) (frz lk r) id = X.ob id := by
      intro r
      induction r with
      | nil => intro _; rfl
      | cons y r ih =>
        intro hy
        have hne : y ≠ id := fun h => hy (by simp [h])
        have ihr := ih fun h => hy (by simp [h])
        unfold frz
        split
        · simp only [look, zn hne, cond_false, ihr]
        · rename_i lo _ _
          cases Nat.beq lo 0 <;> simp only [cond_false, cond_true, look, zn hne, ihr]
        · exact ihr
    cases hl : lk id
    case rw e fr xs ser =>
      have ho : X.ob id = .rw e fr xs ser := by
        rcases hlk id with h | h
        · rw [← h, hl]
        · rw [hl] at h; cases h
      have hf : frz lk (id :: r) = (id, .fz e fr xs ser) :: frz lk r := by simp only [frz, hl]
      by_cases hm : id ∈ r
      · refine ⟨X1, F1.stp, ?_, F1.β, F1.h, F1.γ, fun i hi e' fr' xs' ser' hl' => ?_, fun i hi e' c' xs' ser' iv' hl' => ?_⟩
        · rw [hf, zy, ← F1.ob, zee (F1.was id hm _ _ _ _ hl)]
        · rcases List.mem_cons.1 hi with h | h
          · subst h; exact F1.was i hm _ _ _ _ hl'
          · exact F1.was i h _ _ _ _ hl'
        · rcases List.mem_cons.1 hi with h | h
          · subst h; rw [hl] at hl'; cases hl'
          · exact F1.wasD i h _ _ _ _ _ hl'
      · have ho1 : X1.ob id = .rw e fr xs ser := by
          rw [F1.ob]
          show look (X.ob id) (frz lk r) id = _
          rw [notin r hm, ho]
        have S2 := Stp.frz1 F1.stp.heap F1.stp.hX ho1
        refine ⟨_, F1.stp.trans H S2, ?_, F1.β, F1.h, F1.γ, fun i hi e' fr' xs' ser' hl' => ?_, fun i hi e' c' xs' ser' iv' hl' => ?_⟩
        · rw [hf, zy, ← F1.ob]; rfl
        · by_cases hi2 : i = id
          · subst hi2
            rw [hl] at hl'
            injection hl' with a b c d
            subst a b c d
            exact upd_same _ _ _
          · rcases List.mem_cons.1 hi with h | h
            · exact absurd h hi2
            · show upd X1.ob id _ i = _
              rw [zh _ _ hi2]; exact F1.was i h _ _ _ _ hl'
        · by_cases hi2 : i = id
          · subst hi2; rw [hl] at hl'; cases hl'
          · rcases List.mem_cons.1 hi with h | h
            · exact absurd h hi2
            · obtain ⟨a, b⟩ := F1.wasD i h _ _ _ _ _ hl'
              exact ⟨by show upd X1.ob id _ i = _; rw [zh _ _ hi2]; exact a, fun n hn => .inl (b n hn)⟩
    case dw e c xs ser lo iv =>
      have ho : X.ob id = .dw e c xs ser lo iv := by
        rcases hlk id with h | h
        · rw [← h, hl]
        · rw [hl] at h; cases h
      by_cases hlo : lo = 0
      rotate_left
      · have hf : frz lk (id :: r) = frz lk r := by simp only [frz, hl, zn hlo, cond_false]
        refine ⟨X1, F1.stp, by rw [hf]; exact F1.ob, F1.β, F1.h, F1.γ, fun i hi e' fr' xs' ser' hl' => ?_, fun i hi e' c' xs' ser' iv' hl' => ?_⟩
        · rcases List.mem_cons.1 hi with h | h
          · subst h; rw [hl] at hl'; cases hl'
          · exact F1.was i h _ _ _ _ hl'
        · rcases List.mem_cons.1 hi with h | h
          · subst h; rw [hl] at hl'; cases hl'; exact absurd rfl hlo
          · exact F1.wasD i h _ _ _ _ _ hl'
      subst hlo
      have hf : frz lk (id :: r) = (id, .fz e false xs ser) :: frz lk r := by simp only [frz, hl, Nat.beq_refl, cond_true]
      by_cases hm : id ∈ r
      · refine ⟨X1, F1.stp, ?_, F1.β, F1.h, F1.γ, fun i hi e' fr' xs' ser' hl' => ?_, fun i hi e' c' xs' ser' iv' hl' => ?_⟩
        · rw [hf, zy, ← F1.ob, zee (F1.wasD id hm _ _ _ _ _ hl).1]
        · rcases List.mem_cons.1 hi with h | h
          · subst h; rw [hl] at hl'; cases hl'
          · exact F1.was i h _ _ _ _ hl'
        · rcases List.mem_cons.1 hi with h | h
          · subst h; exact F1.wasD i hm _ _ _ _ _ hl'
          · exact F1.wasD i h _ _ _ _ _ hl'
      · have ho1 : X1.ob id = .dw e c xs ser 0 iv := by
          rw [F1.ob]
          show look (X.ob id) (frz lk r) id = _
          rw [notin r hm, ho]
        have S2 := Stp.frzD1 F1.stp.heap F1.stp.hX ho1
        refine ⟨_, F1.stp.trans H S2, ?_, F1.β, F1.h, F1.γ, fun i hi e' fr' xs' ser' hl' => ?_, fun i hi e' c' xs' ser' iv' hl' => ?_⟩
        · rw [hf, zy, ← F1.ob]; rfl
        · by_cases hi2 : i = id
          · subst hi2; rw [hl] at hl'; cases hl'
          · rcases List.mem_cons.1 hi with h | h
            · exact absurd h hi2
            · show upd X1.ob id _ i = _
              rw [zh _ _ hi2]; exact F1.was i h _ _ _ _ hl'
        · by_cases hi2 : i = id
          · subst hi2
            rw [hl] at hl'
            cases hl'
            exact ⟨upd_same _ _ _, fun n hn => .inr ⟨rfl, (Has.congr (ho1.trans ho.symm) (by rw [F1.β]) (by rw [F1.γ])).2 hn⟩⟩
          · rcases List.mem_cons.1 hi with h | h
            · exact absurd h hi2
            · obtain ⟨a, b⟩ := F1.wasD i h _ _ _ _ _ hl'
              exact ⟨by show upd X1.ob id _ i = _; rw [zh _ _ hi2]; exact a, fun n hn => .inl (b n hn)⟩
    all_goals
      have hf : frz lk (id :: r) = frz lk r := by simp only [frz, hl]
      refine ⟨X1, F1.stp, by rw [hf]; exact F1.ob, F1.β, F1.h, F1.γ, fun i hi e' fr' xs' ser' hl' => ?_, fun i hi e' c' xs' ser' iv' hl' => ?_⟩
      · rcases List.mem_cons.1 hi with h | h
        · subst h; rw [hl] at hl'; cases hl'
        · exact F1.was i h _ _ _ _ hl'
      · rcases List.mem_cons.1 hi with h | h
        · subst h; rw [hl] at hl'; cases hl'
        · exact F1.wasD i h _ _ _ _ _ hl'
def Rd (P : Program) (X : Cx) (e : TypeId) (fr : Bool) (xs : Rw) (v : Value) : Prop :=
  ∃ A cap, v = .slice A xs.length cap ∧ xs.length ≤ cap ∧ (xs = [] ∨ ∃ blk off cs ty fz, A = some ⟨blk, off, none⟩ ∧ X.h[blk]? = some (.cells cs ty fz) ∧ RowAt P (Con P X.h (X.F fr) 7) e cs off xs)
theorem RefRw.get {X : Cx} {id n : Nat} {Q : TypeId → Rw → Prop} (h : RefRw X id n Q) {e : TypeId} {fr : Bool} {xs : Rw} {ser : Nat} (ho : X.ob id = .rw e fr xs ser ∨ X.ob id = .fz e fr xs ser) (hn : n = ser) : Q e xs := by
  unfold RefRw at h
  rcases ho with ho | ho <;> rw [ho] at h <;> exact h.2 hn
theorem zb0 {P : Program} {K : Kx} {X : Cx} (H : Heap P K X) {id : Nat} {e : TypeId} {fr : Bool} {xs : Rw} {ser : Nat} (ho : X.ob id = .rw e fr xs ser ∨ X.ob id = .fz e fr xs ser) :
    ((X.β id).nil = true ∧ xs = [] ∧ (X.β id).cap = 0) ∨ ((X.β id).nil = false ∧ xs.length ≤ (X.β id).cap ∧ ∃ cs ty fz, X.h[(X.β id).blk]? = some (.cells cs ty fz) ∧ RowAt P (Con P X.h (X.F fr) 7) e cs (X.β id).off xs) := by
  have h := H.ok id
  unfold AOok at h
  rcases ho with ho | ho <;> rw [ho] at h
  · rcases h with h | ⟨h1, h2, _, cs, ty, h3, _, h4⟩
    · exact .inl h
    · exact .inr ⟨h1, h2, cs, ty, _, h3, h4⟩
  · rcases h with h | ⟨h1, h2, _, cs, ty, fz, h3, h4⟩
    · exact .inl h
    · exact .inr ⟨h1, h2, cs, ty, fz, h3, h4⟩
theorem zbd {xs : Rw} {lo hi : Nat} (h : hi ≤ xs.length) : (Eng.sub xs lo hi).length = hi - lo := by
  simp [Eng.sub]; omega
theorem rd_sub {xs : Rw} {lo hi i o : Nat} (h : i < hi - lo) : rd (Eng.sub xs lo hi) i o = rd xs (lo + i) o := by
  simp only [rd, Eng.sub, List.getD_eq_getElem?_getD, List.getElem?_take, h, if_true, List.getElem?_drop]
theorem RowAt.sub {P : Program} {con : TypeId → Option Addr → Rw → Prop} {e : TypeId} {cs : Array Value} {off : Nat} {xs : Rw} {lo hi : Nat} (h : RowAt P con e cs off xs) (hh : hi ≤ xs.length) :
    RowAt P con e cs (off + lo * esz P e) (Eng.sub xs lo hi) := by
  intro i hi' o ho
  rw [zbd hh] at hi'
  obtain ⟨v, h1, h2⟩ := h (lo + i) (by omega) o ho
  refine ⟨v, ?_, by rw [rd_sub hi']; exact h2⟩
  rw [← h1]; congr 1; rw [Nat.add_mul]; omega
theorem zdx {P : Program} {K : Kx} {X : Cx} (H : Heap P K X) {id : Nat} {e : TypeId} {fr : Bool} {xs : Rw} {ser : Nat} (ho : X.ob id = .rw e fr xs ser ∨ X.ob id = .fz e fr xs ser)
    {lo hi : Nat} (h1 : lo ≤ hi) (h2 : hi ≤ xs.length) : Rd P X e fr (Eng.sub xs lo hi) (.slice (slAddr P e (X.β id) lo) (hi - lo) ((X.β id).cap - lo)) := by
  have hl := zbd (lo := lo) h2
  have hle : xs.length ≤ (X.β id).cap := by
    rcases zb0 H ho with ⟨_, hx, hc⟩ | ⟨_, hc, _⟩
    · rw [hx, hc]; simp
    · exact hc
  refine ⟨_, _, by rw [hl], by rw [hl]; omega, ?_⟩
  rcases zb0 H ho with ⟨_, hx, hc⟩ | ⟨hn, hc, cs, ty, fz, h3, h4⟩
  · left; subst hx; simp [Eng.sub]
  · by_cases he : hi - lo = 0
    · left; exact List.eq_nil_of_length_eq_zero (by rw [hl]; exact he)
    · right
      have hne : lo ≠ (X.β id).cap := by omega
      refine ⟨(X.β id).blk, (X.β id).off + lo * esz P e, cs, ty, fz, by simp [slAddr, hn, hne], h3, h4.sub h2⟩
theorem ow_rd {P : Program} {K : Kx} {X : Cx} (H : Heap P K X) {id : Nat} {e : TypeId} {fr : Bool} {xs : Rw} {ser : Nat} (ho : X.ob id = .rw e fr xs ser ∨ X.ob id = .fz e fr xs ser) :
    Rd P X e fr xs (.slice (slAddr P e (X.β id) 0) xs.length (X.β id).cap) := by
  rcases zb0 H ho with ⟨_, hx, hc⟩ | ⟨hn, hc, cs, ty, fz, h3, h4⟩
  · exact ⟨_, _, rfl, by rw [hx]; simp, .inl hx⟩
  · exact ⟨_, _, rfl, hc, .inr ⟨(X.β id).blk, (X.β id).off, cs, ty, fz, by simp [slAddr, hn], h3, h4⟩⟩
theorem zt {e e' : TypeId} (h : fits e (some e') = true) : e = e' := zb h
theorem lk_rw {X : Cx} {lk : Lk} {id : Nat} {o : AO} (hlk : ∀ id, lk id = X.ob id ∨ lk id = .dead) (h : lk id = o) (hd : o ≠ .dead) : X.ob id = o := by
  rcases hlk id with h1 | h1
  · rw [← h1, h]
  · rw [h1] at h; exact absurd h.symm hd
theorem zgj {lk : Lk} {ids : List Nat} (h : shal lk ids = true) : ∀ id ∈ ids, (lk id).deep = false := by
  intro id hid
  have := List.all_eq_true.1 h id hid
  simpa using this
def RdF (P : Program) (h : Array Obj) (F : Nat → Prop) (e : TypeId) (xs : Rw) (v : Value) : Prop :=
  ∃ A cap, v = .slice A xs.length cap ∧ xs.length ≤ cap ∧ (xs = [] ∨ ∃ blk off cs ty fz, A = some ⟨blk, off, none⟩ ∧ h[blk]? = some (.cells cs ty fz) ∧ RowAt P (Con P h F 7) e cs off xs)
theorem RdF.mono {P : Program} {h : Array Obj} {F F' : Nat → Prop} (hF : ∀ b, F b → F' b) {e : TypeId} {xs : Rw} {v : Value} (hr : RdF P h F e xs v) : RdF P h F' e xs v := by
  obtain ⟨A, cap, h1, h2, h3⟩ := hr
  refine ⟨A, cap, h1, h2, h3.imp id ?_⟩
  rintro ⟨blk, off, cs, ty, fz, a, b, c⟩
  exact ⟨blk, off, cs, ty, fz, a, b, c.mono fun _ _ _ hx => Con.mono hF (fun _ _ => rfl) hx⟩
theorem ze6 {P : Program} {K : Kx} {X : Cx} (H : Heap P K X) {id : Nat} {e : TypeId} {c : Option (Nat × TypeId)} {xs : Rw} {ser iv : Nat} (ho : X.ob id = .dw e c xs ser 0 iv) {F : Nat → Prop} (hF : ∀ b, InB X id b → F b) :
    ((X.β id).nil = true ∧ xs = [] ∧ (X.β id).cap = 0) ∨ ((X.β id).nil = false ∧ xs.length ≤ (X.β id).cap ∧ ∃ cs ty, X.h[(X.β id).blk]? = some (.cells cs ty (0, 0)) ∧ RowAt P (Con P X.h F 7) e cs (X.β id).off xs) := by
  have h := H.ok id
  unfold AOok at h
  rw [ho] at h
  obtain ⟨hd, h | ⟨h1, h2, _, ⟨cs, ty, h3, _, h4⟩, _⟩⟩ := h
  · exact .inl h
  · refine .inr ⟨h1, h2, cs, ty, h3, h4.at hd fun k e' hc i hi hne => hF _ ?_⟩
    subst hc
    exact InB.of ho (Nat.zero_le _) hi hne
theorem zfk {P : Program} {K : Kx} {X : Cx} (H : Heap P K X) {id : Nat} {e : TypeId} {c : Option (Nat × TypeId)} {xs : Rw} {ser iv : Nat} (ho : X.ob id = .dw e c xs ser 0 iv) {F : Nat → Prop} (hF : ∀ b, InB X id b → F b)
    {lo hi : Nat} (h1 : lo ≤ hi) (h2 : hi ≤ xs.length) : RdF P X.h F e (Eng.sub xs lo hi) (.slice (slAddr P e (X.β id) lo) (hi - lo) ((X.β id).cap - lo)) := by
  have hl := zbd (lo := lo) h2
  have hle : xs.length ≤ (X.β id).cap := by
    rcases ze6 H ho hF with ⟨_, hx, hc⟩ | ⟨_, hc, _⟩
    · rw [hx, hc]; simp
    · exact hc
  refine ⟨_, _, by rw [hl], by rw [hl]; omega, ?_⟩
  rcases ze6 H ho hF with ⟨_, hx, hc⟩ | ⟨hn, hc, cs, ty, h3, h4⟩
  · left; subst hx; simp [Eng.sub]
  · by_cases he : hi - lo = 0
    · left; exact List.eq_nil_of_length_eq_zero (by rw [hl]; exact he)
    · right
      have hne : lo ≠ (X.β id).cap := by omega
      refine ⟨(X.β id).blk, (X.β id).off + lo * esz P e, cs, ty, _, by simp [slAddr, hn, hne], h3, h4.sub h2⟩
theorem zhe {P : Program} {K : Kx} {X : Cx} (H : Heap P K X) {id : Nat} {e : TypeId} {c : Option (Nat × TypeId)} {xs : Rw} {ser iv : Nat} (ho : X.ob id = .dw e c xs ser 0 iv) {F : Nat → Prop} (hF : ∀ b, InB X id b → F b) :
    RdF P X.h F e xs (.slice (slAddr P e (X.β id) 0) xs.length (X.β id).cap) := by
  have := zfk H ho hF (Nat.zero_le _) (Nat.le_refl xs.length)
  simpa [Eng.sub] using this
theorem RefRw.getD {X : Cx} {id n : Nat} {Q : TypeId → Rw → Prop} (h : RefRw X id n Q) {e : TypeId} {c : Option (Nat × TypeId)} {xs : Rw} {ser lo iv : Nat} (ho : X.ob id = .dw e c xs ser lo iv) (hn : n = ser) : Q e xs := by
  unfold RefRw at h
  rw [ho] at h
  exact h.2 hn
theorem RefRi.get {X : Cx} {id n : Nat} {Q : Nat → Rw → Nat → Prop} (h : RefRi X id n Q) {e : TypeId} {k : Nat} {e' : TypeId} {xs : Rw} {ser lo iv : Nat} (ho : X.ob id = .dw e (some (k, e')) xs ser lo iv) (hn : n = iv) : Q k xs lo := by
  unfold RefRi at h
  rw [ho] at h
  obtain ⟨k', e2, hc, hq⟩ := h.2 hn
  cases hc
  exact hq
theorem zfh {P : Program} {K : Kx} {X : Cx} {lk : Lk} (H : Heap P K X) (hlk : ∀ id, lk id = X.ob id ∨ lk id = .dead) {x : AS} {v : Value} (hr : RS P X x v) {e' : Option TypeId} {fr : Bool} {xs : Rw} {ids : List Nat}
    (h : content lk x = some (e', fr, xs, ids)) {e : TypeId} (hf : fits e e' = true) : (∃ A cap, v = .slice A xs.length cap ∧ xs.length ≤ cap) ∧ ((∀ id ∈ ids, (lk id).deep = false) → RdF P X.h (X.F fr) e xs v) := by
  have both : ∀ {fr : Bool} {xs : Rw} {ids : List Nat} {e : TypeId} {v : Value}, RdF P X.h (X.F fr) e xs v → (∃ A cap, v = .slice A xs.length cap ∧ xs.length ≤ cap) ∧ ((∀ id ∈ ids, (lk id).deep = false) → RdF P X.h (X.F fr) e xs v) := fun h =>
    ⟨let ⟨A, cap, a, b, _⟩ := h; ⟨A, cap, a, b⟩, fun _ => h⟩
  have deepF : ∀ {fr : Bool} {id : Nat} {e1 : TypeId} {c : Option (Nat × TypeId)} {xs1 : Rw} {ser lo iv : Nat}, X.ob id = .dw e1 c xs1 ser lo iv → (AO.dw e1 c xs1 ser lo iv).deep = false → ∀ b, InB X id b → X.F fr b := by
    intro fr id e1 c xs1 ser lo iv ho hd b hb
    unfold InB at hb
    rw [ho] at hb
    obtain ⟨k, e2, rfl, _⟩ := hb
    cases hd
  unfold content at h
  split at h
  · simp at h; obtain ⟨rfl, rfl, rfl, rfl⟩ := h
    simp only [RS] at hr
    exact both ⟨none, 0, by simpa using hr, Nat.le_refl _, .inl rfl⟩
  · simp at h; obtain ⟨rfl, rfl, rfl, rfl⟩ := h
    obtain ⟨A, cap, h1, h2, h3⟩ := hr
    have := zt hf; subst this
    refine both ⟨A, cap, h1, h2, ?_⟩
    rcases h3 with h3 | ⟨blk, off, cs, ty, fz, h4, h5, h6, h7⟩
    · exact .inl h3
    · exact .inr ⟨blk, off, cs, ty, fz, h4, h6, h7⟩
  · rename_i id m
    simp only [RS] at hr
    split at h
    · rename_i e1 fr1 xs1 ser1 hl
      cases hb : Nat.beq m ser1 <;> simp [hb] at h
      obtain ⟨rfl, rfl, rfl, rfl⟩ := h
      have := zt hf; subst this
      have ho := lk_rw hlk hl (by simp)
      rw [hr.2.get (.inl ho) (zb hb)]
      exact both (ow_rd H (.inl ho))
    · rename_i e1 fr1 xs1 ser1 hl
      cases hb : Nat.beq m ser1 <;> simp [hb] at h
      obtain ⟨rfl, rfl, rfl, rfl⟩ := h
      have := zt hf; subst this
      have ho := lk_rw hlk hl (by simp)
      rw [hr.2.get (.inr ho) (zb hb)]
      exact both (ow_rd H (.inr ho))
    · rename_i e1 c1 xs1 ser1 lo1 iv1 hl
      cases hb : (Nat.beq m ser1 && Nat.beq lo1 0) <;> simp only [hb, cond_false, cond_true] at h
      · cases h
      cases h
      simp only [Bool.and_eq_true] at hb
      have := zt hf; subst this
      have ho := lk_rw hlk hl (by simp)
      have h0 := zb hb.2; subst h0
      rw [hr.2.getD ho (zb hb.1)]
      have hall := zhe H ho (F := fun _ => True) fun _ _ => trivial
      exact ⟨let ⟨A, cap, a, b, _⟩ := hall; ⟨A, cap, a, b⟩, fun hd => zhe H ho (deepF ho (by have := hd id (by simp); rw [hl] at this; exact this))⟩
    · cases h
  · rename_i id m lo hi
    simp only [RS] at hr
    split at h
    · rename_i e1 fr1 xs1 ser1 hl
      cases hb : Nat.beq m ser1 <;> simp [hb] at h
      obtain ⟨rfl, rfl, rfl, rfl⟩ := h
      have := zt hf; subst this
      have ho := lk_rw hlk hl (by simp)
      obtain ⟨h1, h2, h3⟩ := hr.2.get (.inl ho) (zb hb)
      rw [h3]
      exact both (zdx H (.inl ho) h1 h2)
    · rename_i e1 fr1 xs1 ser1 hl
      cases hb : Nat.beq m ser1 <;> simp [hb] at h
      obtain ⟨rfl, rfl, rfl, rfl⟩ := h
      have := zt hf; subst this
      have ho := lk_rw hlk hl (by simp)
      obtain ⟨h1, h2, h3⟩ := hr.2.get (.inr ho) (zb hb)
      rw [h3]
      exact both (zdx H (.inr ho) h1 h2)
    · rename_i e1 c1 xs1 ser1 lo1 iv1 hl
      cases hb : (Nat.beq m ser1 && Nat.beq lo1 0) <;> simp only [hb, cond_false, cond_true] at h
      · cases h
      cases h
      simp only [Bool.and_eq_true] at hb
      have := zt hf; subst this
      have ho := lk_rw hlk hl (by simp)
      have h0 := zb hb.2; subst h0
      obtain ⟨h1, h2, h3⟩ := hr.2.getD ho (zb hb.1)
      rw [h3]
      have hall := zfk H ho (F := fun _ => True) (fun _ _ => trivial) h1 h2
      exact ⟨let ⟨A, cap, a, b, _⟩ := hall; ⟨A, cap, a, b⟩, fun hd => zfk H ho (deepF ho (by have := hd id (by simp); rw [hl] at this; exact this)) h1 h2⟩
    · cases h
  · rename_i id n ix e2
    simp only [RS] at hr
    split at h
    · rename_i e1 c1 ec xs1 ser1 lo1 iv1 hl
      cases hb : (Nat.beq n iv1 && Nat.beq lo1 0) <;> simp only [hb, cond_false, cond_true] at h
      · cases h
      cases h
      simp only [Bool.and_eq_true] at hb
      have ho := lk_rw hlk hl (by simp)
      obtain ⟨_, _, q3⟩ := hr.2.get ho (zb hb.1)
      refine ⟨?_, fun hd => by have := hd id (by simp); rw [hl] at this; cases this⟩
      rcases q3 with ⟨_, he, _, rfl⟩ | ⟨_, a3, a4, _⟩
      · rw [he]; exact ⟨none, 0, rfl, Nat.zero_le _⟩
      · exact ⟨_, _, a3, a4⟩
    · cases h
  · cases h
theorem zhu {P : Program} {K : Kx} {X : Cx} {lk : Lk} (H : Heap P K X) (hlk : ∀ id, lk id = X.ob id ∨ lk id = .dead) {x : AS} {v : Value} (hr : RS P X x v) {e' : Option TypeId} {fr : Bool} {xs : Rw} {ids : List Nat}
    (h : content lk x = some (e', fr, xs, ids)) (hd : ∀ id ∈ ids, (lk id).deep = false) {e : TypeId} (hf : fits e e' = true) : Rd P X e fr xs v := (zfh H hlk hr h hf).2 hd
theorem zhq {P : Program} {K : Kx} {X X' : Cx} {w : World} {lk : Lk} {all : List Nat} (H : Heap P K X) (hlk : ∀ id, lk id = X.ob id ∨ lk id = .dead) (hf : Frzd P K X w lk all X') {x : AS} {v : Value} (hr : RS P X x v)
    {e' : Option TypeId} {fr : Bool} {xs : Rw} {ids : List Nat} (h : content lk x = some (e', fr, xs, ids)) (hids : ∀ id ∈ ids, id ∈ all) {e : TypeId} (hfit : fits e e' = true) :
    ∃ A cap, v = .slice A xs.length cap ∧ xs.length ≤ cap ∧ Con P X'.h (X'.F fr) 8 e A xs := by
  have H' := hf.stp.heap
  have fzc : ∀ {id : Nat} {e1 : TypeId} {fr1 : Bool} {xs1 : Rw} {ser1 : Nat}, X'.ob id = .fz e1 fr1 xs1 ser1 → ((X'.β id).nil = true ∧ xs1 = []) ∨ ((X'.β id).nil = false ∧ X'.F fr1 (X'.β id).blk) := by
    intro id e1 fr1 xs1 ser1 ho
    have hk := H'.ok id
    unfold AOok at hk
    rw [ho] at hk
    rcases hk with ⟨a, b, _⟩ | ⟨a, _, b, _⟩
    · exact .inl ⟨a, b⟩
    · exact .inr ⟨a, b⟩
  have big : ∀ {id m lo hi : Nat} {e1 : TypeId} {fr1 : Bool} {xs1 : Rw} {ser1 : Nat}, X'.ob id = .fz e1 fr1 xs1 ser1 → lo ≤ hi → hi ≤ xs1.length →
      ∃ A cap, (Value.slice (slAddr P e1 (X'.β id) lo) (hi - lo) ((X'.β id).cap - lo)) = .slice A (Eng.sub xs1 lo hi).length cap ∧ (Eng.sub xs1 lo hi).length ≤ cap ∧ Con P X'.h (X'.F fr1) 8 e1 A (Eng.sub xs1 lo hi) := by
    intro id m lo hi e1 fr1 xs1 ser1 ho h1 h2
    obtain ⟨A, cap, a1, a2, a3⟩ := zdx H' (.inr ho) h1 h2
    refine ⟨A, cap, a1, a2, ?_⟩
    rcases a3 with a3 | ⟨blk, off, cs, ty, fz, a4, a5, a6⟩
    · exact .inl a3
    · rcases fzc ho with ⟨_, hx⟩ | ⟨hn, hF⟩
      · left; rw [hx]; simp [Eng.sub]
      · have hb : blk = (X'.β id).blk := by
          injection a1 with b1 b2 b3
          rw [a4] at b1
          simp only [slAddr, hn, Bool.false_eq_true, if_false, Option.some.injEq, Addr.mk.injEq] at b1
          exact b1.1.symm
        exact .inr ⟨blk, off, cs, ty, fz, a4, hb ▸ hF, a5, a6⟩
  have big0 : ∀ {id : Nat} {e1 : TypeId} {fr1 : Bool} {xs1 : Rw} {ser1 : Nat}, X'.ob id = .fz e1 fr1 xs1 ser1 →
      ∃ A cap, (Value.slice (slAddr P e1 (X'.β id) 0) xs1.length (X'.β id).cap) = .slice A xs1.length cap ∧ xs1.length ≤ cap ∧ Con P X'.h (X'.F fr1) 8 e1 A xs1 := by
    intro id e1 fr1 xs1 ser1 ho
    have := big (m := 0) ho (Nat.zero_le _) (Nat.le_refl _)
    simpa [Eng.sub] using this
  have now : ∀ {id : Nat} {e1 : TypeId} {fr1 : Bool} {xs1 : Rw} {ser1 : Nat}, (lk id = .rw e1 fr1 xs1 ser1 ∧ id ∈ all) ∨ lk id = .fz e1 fr1 xs1 ser1 → ∃ fr2, X'.ob id = .fz e1 fr2 xs1 ser1 ∧ (fr1 = fr2) := by
    intro id e1 fr1 xs1 ser1 h
    rcases h with ⟨h1, h2⟩ | h1
    · exact ⟨fr1, hf.was id h2 _ _ _ _ h1, rfl⟩
    · refine ⟨fr1, ?_, rfl⟩
      have ho := lk_rw hlk h1 (by simp)
      rw [hf.ob]
      have : ∀ (r : List Nat), look (X.ob id) (frz lk r) id = X.ob id := by
        intro r
        induction r with
        | nil => rfl
        | cons y r ih =>
          unfold frz
          split
          · rename_i hy
            have hne : y ≠ id := fun hh => by rw [hh, h1] at hy; cases hy
            simp only [look, zn hne, cond_false, ih]
          · rename_i lo _ hy
            have hne : y ≠ id := fun hh => by rw [hh, h1] at hy; cases hy
            cases Nat.beq lo 0 <;> simp only [look, zn hne, cond_false, cond_true, ih]
          · exact ih
      show look (X.ob id) (frz lk all) id = _
      rw [this, ho]
  unfold content at h
  split at h
  · simp at h; obtain ⟨rfl, rfl, rfl, rfl⟩ := h
    simp only [RS] at hr
    exact ⟨none, 0, by simpa using hr, Nat.le_refl _, .inl rfl⟩
  · simp at h; obtain ⟨rfl, rfl, rfl, rfl⟩ := h
    have := hr.ext hf.stp.ext
    obtain ⟨A, cap, h1, h2, h3⟩ := this
    have := zt hfit; subst this
    exact ⟨A, cap, h1, h2, h3⟩
  · rename_i id m
    simp only [RS] at hr
    split at h
    · rename_i e1 fr1 xs1 ser1 hl
      cases hb : Nat.beq m ser1 <;> simp [hb] at h
      obtain ⟨rfl, rfl, rfl, rfl⟩ := h
      have := zt hfit; subst this
      obtain ⟨_, ho', rfl⟩ := now (.inl ⟨hl, hids id (by simp)⟩)
      rw [hr.2.get (.inl (lk_rw hlk hl (by simp))) (zb hb), ← hf.β]
      exact big0 ho'
    · rename_i e1 fr1 xs1 ser1 hl
      cases hb : Nat.beq m ser1 <;> simp [hb] at h
      obtain ⟨rfl, rfl, rfl, rfl⟩ := h
      have := zt hfit; subst this
      obtain ⟨_, ho', rfl⟩ := now (.inr hl)
      rw [hr.2.get (.inr (lk_rw hlk hl (by simp))) (zb hb), ← hf.β]
      exact big0 ho'
    · rename_i e1 c1 xs1 ser1 lo1 iv1 hl
      cases hb : (Nat.beq m ser1 && Nat.beq lo1 0) <;> simp only [hb, cond_false, cond_true] at h
      · cases h
      cases h
      simp only [Bool.and_eq_true] at hb
      have := zt hfit; subst this
      have h0 := zb hb.2; subst h0
      have ho' := (hf.wasD id (hids id (by simp)) _ _ _ _ _ hl).1
      rw [hr.2.getD (lk_rw hlk hl (by simp)) (zb hb.1), ← hf.β]
      exact big0 ho'
    · cases h
  · rename_i id m lo hi
    simp only [RS] at hr
    split at h
    · rename_i e1 fr1 xs1 ser1 hl
      cases hb : Nat.beq m ser1 <;> simp [hb] at h
      obtain ⟨rfl, rfl, rfl, rfl⟩ := h
      have := zt hfit; subst this
      obtain ⟨_, ho', rfl⟩ := now (.inl ⟨hl, hids id (by simp)⟩)
      obtain ⟨h1, h2, h3⟩ := hr.2.get (.inl (lk_rw hlk hl (by simp))) (zb hb)
      rw [h3, ← hf.β]
      exact big (m := m) ho' h1 h2
    · rename_i e1 fr1 xs1 ser1 hl
      cases hb : Nat.beq m ser1 <;> simp [hb] at h
      obtain ⟨rfl, rfl, rfl, rfl⟩ := h
      have := zt hfit; subst this
      obtain ⟨_, ho', rfl⟩ := now (.inr hl)
      obtain ⟨h1, h2, h3⟩ := hr.2.get (.inr (lk_rw hlk hl (by simp))) (zb hb)
      rw [h3, ← hf.β]
      exact big (m := m) ho' h1 h2
    · rename_i e1 c1 xs1 ser1 lo1 iv1 hl
      cases hb : (Nat.beq m ser1 && Nat.beq lo1 0) <;> simp only [hb, cond_false, cond_true] at h
      · cases h
      cases h
      simp only [Bool.and_eq_true] at hb
      have := zt hfit; subst this
      have h0 := zb hb.2; subst h0
      have ho' := (hf.wasD id (hids id (by simp)) _ _ _ _ _ hl).1
      obtain ⟨h1, h2, h3⟩ := hr.2.getD (lk_rw hlk hl (by simp)) (zb hb.1)
      rw [h3, ← hf.β]
      exact big (m := m) ho' h1 h2
    · cases h
  · rename_i id n ix e2
    simp only [RS] at hr
    split at h
    · rename_i e1 c1 ec xs1 ser1 lo1 iv1 hl
      cases hb : (Nat.beq n iv1 && Nat.beq lo1 0) <;> simp only [hb, cond_false, cond_true] at h
      · cases h
      cases h
      simp only [Bool.and_eq_true] at hb
      have := zt hfit; subst this
      have h0 := zb hb.2; subst h0
      have ho := lk_rw hlk hl (by simp)
      obtain ⟨q1, q2, q3⟩ := hr.2.get ho (zb hb.1)
      have hF := (hf.wasD id (hids id (by simp)) _ _ _ _ _ hl).2
      rcases q3 with ⟨_, he, _, rfl⟩ | ⟨a1, a3, a4, cs, ty, a5, a6, a7⟩
      · rw [he]; exact ⟨none, 0, rfl, Nat.zero_le _, .inl rfl⟩
      · have hown : Own X id := by
          have hk := H.ok id
          unfold AOok at hk
          unfold Own
          rw [ho] at hk ⊢
          rcases hk.2 with ⟨_, hx, _⟩ | ⟨hn, _⟩
          · rw [hx] at q2; simp at q2
          · exact hn
        exact ⟨_, _, a3, a4, .inr ⟨(X.γ id ix).blk, (X.γ id ix).off, cs, ty, _, rfl, hF _ ⟨hown, .inr (InB.of ho q1 q2 a1)⟩, by rw [hf.h]; exact a5, a7.mono fun _ _ _ hx => hx.elim⟩⟩
    · cases h
  · cases h
theorem zbz {a b : IntKind} (h : keq a b = true) : a = b := by simpa [keq] using h
theorem zj1 {P : Program} {K : Kx} {X X' : Cx} {w : World} {lk : Lk} {all : List Nat} (H : Heap P K X) (hlk : ∀ id, lk id = X.ob id ∨ lk id = .dead) (hf : Frzd P K X w lk all X') {k : CK} {x : AS} {v : Value} (hr : RS P X x v)
    {c : C} {f : Bool} {ids : List Nat} (h : toC P lk k x = some (c, f, ids)) (hids : ∀ id ∈ ids, id ∈ all) : CellOk (Con P X'.h (X'.F f) 7) k v c := by
  cases k with
  | i k1 =>
    cases x <;> simp only [toC] at h <;> try (cases h)
    rename_i k2 n
    cases hb : keq k1 k2 <;> simp [hb] at h
    obtain ⟨rfl, rfl, rfl⟩ := h
    simp only [RS] at hr
    simp only [CellOk, C.int, zbz hb]; exact hr
  | b =>
    cases x <;> simp only [toC] at h <;> cases h
    exact hr
  | s =>
    cases x <;> simp only [toC] at h <;> cases h
    exact hr
  | sl e =>
    simp only [toC] at h
    split at h
    · rename_i e' fr xs ids' hc
      cases hb : (fits e e' && deep P 7 e) <;> simp [hb] at h
      obtain ⟨rfl, rfl, rfl⟩ := h
      simp only [Bool.and_eq_true] at hb
      obtain ⟨A, cap, h1, h2, h3⟩ := zhq H hlk hf hr hc hids hb.1
      exact ⟨A, cap, h1, h2, Con.down (k := 1) hb.2 h3⟩
    · cases h
  | x => cases x <;> simp only [toC] at h <;> cases h
theorem zb8 {P : Program} {K : Kx} {X X' : Cx} {w : World} {lk : Lk} {all : List Nat} (H : Heap P K X) (hlk : ∀ id, lk id = X.ob id ∨ lk id = .dead) (hf : Frzd P K X w lk all X') {e : TypeId} :
    ∀ {xs : List AS} {vs : List Value} {o : Nat} {cs : List C} {f : Bool} {ids : List Nat}, RSs P X xs vs → toCs P lk e o xs = some (cs, f, ids) → (∀ id ∈ ids, id ∈ all) →
      cs.length = xs.length ∧ ∀ j c, cs[j]? = some c → ∃ v, vs[j]? = some v ∧ CellOk (Con P X'.h (X'.F f) 7) (ck P e (o + j)) v c
  | [], vs, o, cs, f, ids, hr, h, hids => by simp [toCs] at h; obtain ⟨rfl, rfl, rfl⟩ := h; simp
  | x :: xs, vs, o, cs, f, ids, hr, h, hids => by
    cases hr with
    | cons hx ht =>
      simp only [toCs] at h
      split at h
      · cases h
      · rename_i c f1 ids1 h1
        split at h
        · cases h
        · rename_i cs' f2 ids2 h2
          simp at h
          obtain ⟨rfl, rfl, rfl⟩ := h
          have a := zj1 H hlk hf hx h1 fun id hi => hids id (by simp [hi])
          obtain ⟨b1, b2⟩ := zb8 H hlk hf ht h2 fun id hi => hids id (by simp [hi])
          have low : ∀ (g1 g2 : Bool) (k : CK) (v : Value) (c : C), (g2 = true → g1 = true) → CellOk (Con P X'.h (X'.F g1) 7) k v c → CellOk (Con P X'.h (X'.F g2) 7) k v c := by
            intro g1 g2 k v c hg hc
            refine hc.mono fun e A xs hx => Con.mono (fun b hb => ?_) (fun b hb => rfl) hx
            cases g1 <;> cases g2 <;> first | exact hb | exact hf.stp.heap.Fle b hb | (exact absurd (hg rfl) (by simp))
          refine ⟨by simp [b1], fun j c hj => ?_⟩
          cases j with
          | zero => simp at hj; subst hj; exact ⟨_, by simp, low f1 _ _ _ _ (by simp +contextual) a⟩
          | succ j =>
            simp at hj
            obtain ⟨v, c1, c2⟩ := b2 j c hj
            exact ⟨v, by simpa using c1, by rw [show o + (j + 1) = o + 1 + j by omega]; exact low f2 _ _ _ _ (by simp +contextual) c2⟩
end Go.Eng
end
section
namespace Go.Eng
open Go
section
variable {P : Program} {K : Kx} {X : Cx} {w : World} {lk : Lk}
def ValRes (P : Program) (K : Kx) (X : Cx) (w : World) (r : AR) (s : Sem Value) : Prop :=
  ∃ v w' X', s.run P w = .ok v w' ∧ X'.ob = updl X.ob r.ws ∧ RV P X' r.v v ∧ Stp P K X w X' w'
theorem ValRes.pure {r : AR} {s : Sem Value} {v : Value} (H : Heap P K X) (hX : X.h = w.heap) (hw : r.ws = []) (hs : s.run P w = .ok v w) (hv : RV P X r.v v) : ValRes P K X w r s :=
  ⟨v, w, X, hs, by rw [hw]; rfl, hv, Stp.refl H hX⟩
theorem zgc (v : Value) : RS P X (ofConst1 v) v := by
  unfold ofConst1
  split <;> simp only [RS]
  rfl
theorem zcy (v : Value) : RV P X (ofConst v) v := by
  unfold ofConst
  split
  · rename_i cs
    refine ⟨cs, rfl, ?_⟩
    unfold RSs
    have : ∀ l : List Value, F2 (RS P X) (l.map ofConst1) l := by
      intro l
      induction l with
      | nil => exact .nil
      | cons x l ih => exact .cons (zgc x) ih
    exact this _
  · exact zgc v
theorem RS.one {x : AS} {v : Value} (h : RS P X x v) (h1 : x.one = true) : v.oneCell' = true ∧ v.cells = #[v] := by
  cases x <;> simp [AS.one] at h1 <;> simp only [RS] at h
  case pt id off => unfold RefBx at h; split at h <;> first | (subst h; exact ⟨rfl, rfl⟩) | exact h.elim
  case pe => obtain ⟨_, _, _, _, _, h, _⟩ := h; subst h; exact ⟨rfl, rfl⟩
  case po => obtain ⟨⟨_, h⟩, _⟩ := h; subst h; exact ⟨rfl, rfl⟩
  case fz => obtain ⟨_, _, h, _⟩ := h; subst h; exact ⟨rfl, rfl⟩
  case ow => obtain ⟨⟨_, _, _, h⟩, _⟩ := h; subst h; exact ⟨rfl, rfl⟩
  case sb => obtain ⟨⟨_, _, _, h⟩, _⟩ := h; subst h; exact ⟨rfl, rfl⟩
  case ri => obtain ⟨⟨_, _, _, h⟩, _⟩ := h; subst h; exact ⟨rfl, rfl⟩
  case fn => obtain ⟨_, h⟩ := h; subst h; exact ⟨rfl, rfl⟩
  case mp id => unfold RefMp at h; split at h <;> first | (subst h; exact ⟨rfl, rfl⟩) | exact h.elim
  all_goals subst h; exact ⟨rfl, rfl⟩
theorem zlz {t : TypeId} {d : TypeDesc} (h : P.underlying t = some d) : ∃ i, P.info? t = some i := by
  unfold Program.underlying at h
  cases hi : P.info? t with
  | none => rw [hi] at h; cases h
  | some i => exact ⟨i, rfl⟩
theorem ze2 {t : TypeId} {d : TypeDesc} (h : P.underlying t = some d) (w : World) : (sizeOf t).run P w = .ok (esz P t) w := by
  obtain ⟨i, hi⟩ := zlz h
  simp [sizeOf, typeInfo, hi, esz]
theorem zcz {t : TypeId} {d : TypeDesc} (h : P.underlying t = some d) (w : World) : (isAgg t).run P w = .ok (isAg P t) w := by
  simp only [isAgg, Sem.run_bind, run_underlying h, Result.andThen_ok, isAg, h]
  cases d <;> rfl
theorem zbx {w : World} {blk : Nat} {cs : Array Value} {ty : TypeId} {fz : Nat × Nat} (h : w.heap[blk]? = some (.cells cs ty fz)) (o : Nat) : w.cell? ⟨blk, o, none⟩ = cs[o]? := by
  simp [World.cell?, h]
theorem zba (b o j : Nat) : (⟨b, o, none⟩ : Addr).add j = ⟨b, o + j, none⟩ := Addr.add_lit b o j
theorem zfj {t : TypeId} {d : TypeDesc} (hu : P.underlying t = some d) {blk off : Nat} {cs : Array Value} {ty : TypeId} {fz : Nat × Nat} (hc : w.heap[blk]? = some (.cells cs ty fz)) :
    (isAg P t = true → ∀ vs : List Value, vs.length = esz P t → (∀ j v, vs[j]? = some v → cs[off + j]? = some v) → (loadVar t ⟨blk, off, none⟩).run P w = .ok (.agg vs.toArray) w) ∧
    (isAg P t = false → ∀ v, cs[off]? = some v → (loadVar t ⟨blk, off, none⟩).run P w = .ok v w) := by
  constructor
  · intro ha vs hl hv
    have := run_loadCells_list (P := P) w ⟨blk, off, none⟩ vs fun j v hj => by rw [zba, zbx hc]; exact hv j v hj
    simp only [loadVar, Sem.run_bind, zcz hu, Result.andThen_ok, ha, if_true, ze2 hu, ← hl, this, Sem.run_pure]
  · intro ha v hv
    simp only [loadVar, Sem.run_bind, zcz hu, Result.andThen_ok, ha, Bool.false_eq_true, if_false, run_load, zbx hc, hv]
theorem zit {fr : Bool} {k : CK} {v : Value} {c : C} (h : CellOk (Con P X.h (X.F fr) 7) k v c) : RS P X (ofC k fr c) v := by
  cases k <;> simp only [CellOk] at h <;> simp only [ofC, RS] <;> try exact h
  obtain ⟨A, cap, h1, h2, h3⟩ := h
  exact ⟨A, cap, h1, h2, h3.up⟩
theorem zg8 (H : Heap P K X) (hX : X.h = w.heap) {t : TypeId} {o n0 blk off : Nat} {cs : Array Value} {ty : TypeId} {fz : Nat × Nat} (hc : X.h[blk]? = some (.cells cs ty fz)) {q : Nat → AS}
    (cell : ∀ j, j < n0 → ∃ v, cs[off + j]? = some v ∧ RS P X (q j) v) {d : TypeDesc} (hu : P.underlying t = some d) {r : AR}
    (h : (match isAg P t with
      | true => cond (Nat.ble (o + esz P t) n0) (AR.pure (.ag ((List.range (esz P t)).map fun j => q (o + j)))) none
      | false => cond (Nat.ble (o + 1) n0) (sc (q o)) none) = some r) :
    ValRes P K X w r (Instr.loadAt t (.pointer (some ⟨blk, off + o, none⟩))) := by
  rw [hX] at hc
  have L := zfj (P := P) (off := off + o) hu hc
  split at h
  · rename_i ha
    cases hb : Nat.ble (o + esz P t) n0 <;> simp [hb, AR.pure] at h
    subst h
    have hle : o + esz P t ≤ n0 := Nat.le_of_ble_eq_true hb
    have : ∀ n, o + n ≤ n0 → ∃ vs : List Value, vs.length = n ∧ (∀ j v, vs[j]? = some v → cs[off + o + j]? = some v) ∧ F2 (RS P X) ((List.range n).map fun j => q (o + j)) vs := by
      intro n
      induction n with
      | zero => intro _; exact ⟨[], rfl, by simp, .nil⟩
      | succ n ih =>
        intro hn
        obtain ⟨vs, h1, h2, h3⟩ := ih (by omega)
        obtain ⟨v, h4, h5⟩ := cell (o + n) (by omega)
        refine ⟨vs ++ [v], by simp [h1], fun j u hj => ?_, ?_⟩
        · rcases Nat.lt_or_ge j n with hj' | hj'
          · rw [List.getElem?_append_left (by omega)] at hj; exact h2 j u hj
          · rw [List.getElem?_append_right (by omega)] at hj
            have : j - vs.length = 0 := by
              rcases Nat.eq_zero_or_pos (j - vs.length) with h0 | h0
              · exact h0
              · rw [List.getElem?_eq_none (by simp; omega)] at hj; cases hj
            rw [this] at hj
            simp at hj
            subst hj
            rw [← h4]; congr 1; omega
        · have : (List.range (n + 1)).map (fun j => q (o + j)) = (List.range n).map (fun j => q (o + j)) ++ [q (o + n)] := by
            simp [List.range_succ]
          rw [this]
          exact h3.append (.cons h5 .nil)
    obtain ⟨vs, h1, h2, h3⟩ := this _ hle
    refine .pure H hX rfl ?_ ⟨_, rfl, h3⟩
    simp only [Instr.loadAt, Instr.sureAddr, Sem.run_bind, Sem.run_pure, Result.andThen_ok]
    exact L.1 ha vs h1 h2
  · rename_i ha
    cases hb : Nat.ble (o + 1) n0 <;> simp [hb, sc] at h
    subst h
    have hle : o + 1 ≤ n0 := Nat.le_of_ble_eq_true hb
    obtain ⟨v, h4, h5⟩ := cell o (by omega)
    refine .pure H hX rfl ?_ h5
    simp only [Instr.loadAt, Instr.sureAddr, Sem.run_bind, Sem.run_pure, Result.andThen_ok]
    exact L.2 ha v h4
theorem zf9 (H : Heap P K X) (hX : X.h = w.heap) {t e : TypeId} {fr : Bool} {xs : Rw} {ix o blk off : Nat} {cs : Array Value} {ty : TypeId} {fz : Nat × Nat} (hc : X.h[blk]? = some (.cells cs ty fz))
    (hrow : RowAt P (Con P X.h (X.F fr) 7) e cs off xs) (hix : ix < xs.length) {d : TypeDesc} (hu : P.underlying t = some d) {r : AR} (h : aread P t e fr xs ix o = some r) :
    ValRes P K X w r (Instr.loadAt t (.pointer (some ⟨blk, off + ix * esz P e + o, none⟩))) :=
  zg8 H hX hc (q := fun j => ofC (ck P e j) fr (rd xs ix j)) (fun j hj => let ⟨v, h1, h2⟩ := hrow ix hix j hj; ⟨v, h1, zit h2⟩) hu h
theorem zjs (H : Heap P K X) (hX : X.h = w.heap) {t e : TypeId} {c : Option (Nat × TypeId)} {id iv : Nat} {xs : Rw} {ix o ser : Nat} (ho : X.ob id = .dw e c xs ser 0 iv) (hnil : (X.β id).nil = false)
    (hix : ix < xs.length) {d : TypeDesc} (hu : P.underlying t = some d) {r : AR} (h : areadD P t e id iv xs ix o = some r) :
    ValRes P K X w r (Instr.loadAt t (.pointer (some ⟨(X.β id).blk, (X.β id).off + ix * esz P e + o, none⟩))) := by
  have hk := H.ok id
  unfold AOok at hk
  rw [ho] at hk
  obtain ⟨hd, ⟨hn, _⟩ | ⟨_, _, _, ⟨cs, ty, h1, _, h2⟩, _⟩⟩ := hk
  · rw [hnil] at hn; cases hn
  refine zg8 H hX h1 (q := fun j => ofD (ck P e j) id iv ix (rd xs ix j)) (fun j hj => ?_) hu h
  obtain ⟨v, a, b⟩ := h2 ix (Nat.zero_le _) hix j hj
  refine ⟨v, a, ?_⟩
  cases hck : ck P e j <;> rw [hck] at b
  case sl e' =>
    have hw : ∃ A m c, v = .slice A m c := by
      rcases b with ⟨_, _, _, h⟩ | ⟨_, h, _⟩
      · exact ⟨_, _, _, h⟩
      · exact ⟨_, _, _, h⟩
    refine ⟨hw, ?_⟩
    unfold RefRi
    rw [ho]
    refine ⟨Nat.le_refl _, fun _ => ?_⟩
    unfold Dk at hd
    cases c with
    | none =>
      have hm := zbc hck (by simp)
      unfold flat at hd
      simp only [List.all_eq_true] at hd
      have := hd _ hm
      simp at this
    | some q =>
      obtain ⟨k, e2⟩ := q
      obtain ⟨_, _, _, d4⟩ := hd
      have := d4 j e' hck
      subst this
      exact ⟨_, _, rfl, Nat.zero_le _, hix, b⟩
  case x => exact b.elim
  all_goals exact b
theorem zdn (H : Heap P K X) {id : Nat} {cells : List AS} (ho : X.ob id = .bx cells ∨ X.ob id = .rb cells) :
    ∃ cs ty fz, X.h[(X.β id).blk]? = some (.cells cs ty fz) ∧ ∀ j x, cells[j]? = some x → ∃ v, cs[(X.β id).off + j]? = some v ∧ RS P X x v := by
  have h := H.ok id
  unfold AOok at h
  rcases ho with ho | ho <;> rw [ho] at h
  · obtain ⟨cs, ty, h1, h2⟩ := h; exact ⟨cs, ty, _, h1, h2⟩
  · obtain ⟨_, cs, ty, fz, h1, h2⟩ := h; exact ⟨cs, ty, fz, h1, h2⟩
theorem RefBx.get {id : Nat} {Q : Prop} (h : RefBx X id Q) : Q := by
  unfold RefBx at h; split at h <;> first | exact h | exact h.elim
theorem zey {cells : List AS} {cs : Array Value} {off : Nat} (h : ∀ j x, cells[j]? = some x → ∃ v, cs[off + j]? = some v ∧ RS P X x v) : ∀ (n o : Nat), o + n ≤ cells.length →
    ∃ vs : List Value, vs.length = n ∧ (∀ j v, vs[j]? = some v → cs[off + o + j]? = some v) ∧ F2 (RS P X) ((cells.drop o).take n) vs
  | 0, o, _ => ⟨[], rfl, by simp, by simp; exact .nil⟩
  | n + 1, o, hn => by
    obtain ⟨vs, h1, h2, h3⟩ := zey h n (o + 1) (by omega)
    have ho : o < cells.length := by omega
    obtain ⟨v, h4, h5⟩ := h o cells[o] (by simp [ho])
    refine ⟨v :: vs, by simp [h1], fun j u hj => ?_, ?_⟩
    · cases j with
      | zero => simp at hj; subst hj; exact h4
      | succ j => simp at hj; have := h2 j u hj; rw [← this]; congr 1; omega
    · rw [List.drop_eq_getElem_cons ho]; exact .cons h5 h3
theorem zke (H : Heap P K X) (hX : X.h = w.heap) (hlk : ∀ id, lk id = X.ob id ∨ lk id = .dead) {t : TypeId} {a : AV} {va : Value} (ha : RV P X a va) {r : AR} (h : aload P lk t a = some r) :
    ValRes P K X w r (Instr.loadAt t va) := by
  unfold aload at h
  split at h
  · rename_i d id off hu
    simp only [RV, RS] at ha
    have hv := ha.get
    subst hv
    have key : ∀ cells, (X.ob id = .bx cells ∨ X.ob id = .rb cells) → (match isAg P t with
      | true => cond (Nat.ble (off + esz P t) cells.length) (AR.pure (.ag ((cells.drop off).take (esz P t)))) none
      | false => (match cells[off]? with | some x => sc x | none => none)) = some r → ValRes P K X w r (Instr.loadAt t (.pointer (some ((X.β id).ptr off)))) := by
      intro cells ho h
      obtain ⟨cs, ty, fz, h1, h2⟩ := zdn H ho
      have hc := h1
      rw [hX] at hc
      have L := zfj (P := P) (off := (X.β id).off + off) hu hc
      split at h
      · rename_i hag
        cases hb : Nat.ble (off + esz P t) cells.length <;> simp [hb, AR.pure] at h
        subst h
        obtain ⟨vs, a1, a2, a3⟩ := zey h2 (esz P t) off (Nat.le_of_ble_eq_true hb)
        refine .pure H hX rfl ?_ ⟨_, rfl, a3⟩
        simp only [Instr.loadAt, Instr.sureAddr, Sem.run_bind, Sem.run_pure, Result.andThen_ok]
        exact L.1 hag vs a1 a2
      · rename_i hag
        split at h
        · rename_i x hx
          simp [sc] at h
          subst h
          obtain ⟨v, a1, a2⟩ := h2 off x hx
          refine .pure H hX rfl ?_ a2
          simp only [Instr.loadAt, Instr.sureAddr, Sem.run_bind, Sem.run_pure, Result.andThen_ok]
          exact L.2 hag v a1
        · cases h
    split at h
    · rename_i cells hl; exact key cells (.inl (lk_rw hlk hl (by simp))) h
    · rename_i cells hl; exact key cells (.inr (lk_rw hlk hl (by simp))) h
    · cases h
  · rename_i d e fr xs ix o hu
    simp only [RV, RS] at ha
    obtain ⟨blk, off, cs, ty, fz, h1, h2, h3, h4, h5⟩ := ha
    subst h1
    exact zf9 H hX h4 h5 h2 hu h
  · rename_i d id n ix o hu
    simp only [RV, RS] at ha
    have key : ∀ e fr xs ser, (X.ob id = .rw e fr xs ser ∨ X.ob id = .fz e fr xs ser) → cond (Nat.beq n ser) (aread P t e fr xs ix o) none = some r → ValRes P K X w r (Instr.loadAt t va) := by
      intro e fr xs ser ho h
      cases hb : Nat.beq n ser <;> simp [hb] at h
      obtain ⟨h1, h2, h3⟩ := ha.2.get ho (zb hb)
      subst h3
      rcases zb0 H ho with ⟨a1, a2, _⟩ | ⟨a1, a2, cs, ty, fz, a3, a4⟩
      · rw [a2] at h1; simp at h1
      · exact zf9 H hX a3 a4 h1 hu h
    split at h
    · rename_i e fr xs ser hl; exact key e fr xs ser (.inl (lk_rw hlk hl (by simp))) h
    · rename_i e fr xs ser hl; exact key e fr xs ser (.inr (lk_rw hlk hl (by simp))) h
    · rename_i e c xs ser lo iv hl
      have ho := lk_rw hlk hl (by simp)
      cases hb : (Nat.beq n ser && Nat.beq lo 0) <;> simp only [hb, cond_false, cond_true] at h
      · cases h
      simp only [Bool.and_eq_true] at hb
      have h0 := zb hb.2; subst h0
      obtain ⟨h1, h2, h3⟩ := ha.2.getD ho (zb hb.1)
      subst h3
      exact zjs H hX ho h2 h1 hu h
    · cases h
  · cases h
end
end Go.Eng
end
section
namespace Go.Eng
open Go
section
variable {P : Program} {K : Kx} {X : Cx} {w : World} {lk : Lk}
theorem zf3 {s : TypeId} {n : Nat} {f : Field} (h : (fields P s)[n]? = some f) : ∃ fs, P.underlying s = some (.struct fs) ∧ fs[n]? = some f := by
  unfold fields at h
  split at h
  · rename_i fs hu; exact ⟨fs, hu, by simpa using h⟩
  · simp at h
theorem zdv {t : TypeId} (h : esz P t ≠ 0) (w : World) : (sizeOf t).run P w = .ok (esz P t) w := by
  unfold esz at h ⊢
  cases hi : P.info? t with
  | none => simp [hi] at h
  | some i => simp [sizeOf, typeInfo, hi]
theorem RefBx.imp {id : Nat} {Q Q' : Prop} (h : RefBx X id Q) (hq : Q → Q') : RefBx X id Q' := h.ext (Keeps.refl X id) fun _ => hq
theorem RefRw.imp {id n : Nat} {Q Q' : TypeId → Rw → Prop} (h : RefRw X id n Q) (hq : ∀ e xs, Q e xs → Q' e xs) : RefRw X id n Q' := by
  unfold RefRw at h ⊢
  split <;> rename_i ho <;> simp only [ho] at h
  · exact ⟨h.1, fun hn => hq _ _ (h.2 hn)⟩
  · exact ⟨h.1, fun hn => hq _ _ (h.2 hn)⟩
  · exact ⟨h.1, fun hn => hq _ _ (h.2 hn)⟩
  · trivial
def RowOb (X : Cx) (id : Nat) (e : TypeId) (xs : Rw) (ser : Nat) : Prop := (∃ fr, X.ob id = .rw e fr xs ser ∨ X.ob id = .fz e fr xs ser) ∨ ∃ c lo iv, X.ob id = .dw e c xs ser lo iv
theorem RefRw.getO {id n : Nat} {Q : TypeId → Rw → Prop} (h : RefRw X id n Q) {e : TypeId} {xs : Rw} {ser : Nat} (ho : RowOb X id e xs ser) (hn : n = ser) : Q e xs := by
  rcases ho with ⟨fr, ho⟩ | ⟨c, lo, iv, ho⟩
  · exact h.get ho hn
  · exact h.getD ho hn
theorem RefRw.mkO {id n : Nat} {Q : TypeId → Rw → Prop} {e : TypeId} {xs : Rw} {ser : Nat} (ho : RowOb X id e xs ser) (hn : n = ser) (h : Q e xs) : RefRw X id n Q := by
  unfold RefRw
  rcases ho with ⟨fr, ho | ho⟩ | ⟨c, lo, iv, ho⟩ <;> rw [ho] <;> exact ⟨Nat.le_of_eq hn, fun _ => h⟩
theorem RefRw.mk {id n : Nat} {Q : TypeId → Rw → Prop} {e : TypeId} {fr : Bool} {xs : Rw} {ser : Nat} (ho : X.ob id = .rw e fr xs ser ∨ X.ob id = .fz e fr xs ser) (hn : n = ser) (h : Q e xs) : RefRw X id n Q := by
  unfold RefRw
  rcases ho with ho | ho <;> rw [ho] <;> exact ⟨Nat.le_of_eq hn, fun _ => h⟩
theorem zgl (hlk : ∀ id, lk id = X.ob id ∨ lk id = .dead) {id n : Nat} (h : now lk id n = true) : ∃ e xs ser, RowOb X id e xs ser ∧ n = ser := by
  unfold now at h
  split at h
  · rename_i e fr xs ser hl; exact ⟨e, xs, ser, .inl ⟨fr, .inl (lk_rw hlk hl (by simp))⟩, zb h⟩
  · rename_i e fr xs ser hl; exact ⟨e, xs, ser, .inl ⟨fr, .inr (lk_rw hlk hl (by simp))⟩, zb h⟩
  · rename_i e c xs ser lo iv hl
    simp only [Bool.and_eq_true] at h
    exact ⟨e, xs, ser, .inr ⟨c, lo, iv, lk_rw hlk hl (by simp)⟩, zb h.1⟩
  · cases h
theorem zmw (H : Heap P K X) (hX : X.h = w.heap) (hlk : ∀ id, lk id = X.ob id ∨ lk id = .dead) {s : TypeId} {f : Nat} {a : AV} {va : Value} (ha : RV P X a va) {r : AR} (h : afield P lk s f a = some r) :
    ValRes P K X w r (Instr.fieldAt s va f) := by
  unfold afield at h
  split at h
  · rename_i x
    split at h
    · cases h
    · rename_i fd hf
      obtain ⟨fs, hu, hf'⟩ := zf3 hf
      cases hb : Nat.beq (esz P fd.type) 0 <;> simp [hb] at h
      have hne : esz P fd.type ≠ 0 := fun e => by rw [e] at hb; simp at hb
      have key : ∀ (b o : Nat), va = .pointer (some ⟨b, o, none⟩) → (Instr.fieldAt s va f).run P w = .ok (.pointer (some ⟨b, o + fd.offset, none⟩)) w := by
        intro b o hv
        subst hv
        simp only [Instr.fieldAt, Sem.run_bind, run_underlying hu, Result.andThen_ok, hf', Instr.sureAddr, Sem.run_pure, fieldPlace, zdv hne, hne, if_false, zba]
      simp only [RV] at ha
      split at h
      · rename_i id off
        simp [sc] at h; subst h
        have hv := (show RefBx X id _ from ha)
        refine .pure H hX rfl (key _ _ hv.get) ?_
        exact hv.imp fun _ => by simp [Loc.ptr, Nat.add_assoc]
      · rename_i e fr xs ix o
        simp [sc] at h; subst h
        obtain ⟨blk, off, cs, ty, fz, h1, h2, h3, h4, h5⟩ := (show RS P X (.pe e fr xs ix o) va from ha)
        refine .pure H hX rfl (key _ _ h1) ?_
        exact ⟨blk, off, cs, ty, fz, by simp [Nat.add_assoc], h2, h3, h4, h5⟩
      · rename_i id n ix o
        obtain ⟨⟨a, h0⟩, h1⟩ := (show RS P X (.po id n ix o) va from ha)
        cases hn : now lk id n <;> simp [hn, sc] at h
        subst h
        obtain ⟨e, xs, ser, ho, hs⟩ := zgl hlk hn
        obtain ⟨h2, h3, hv⟩ := h1.getO ho hs
        exact .pure H hX rfl (key _ _ hv) ⟨⟨_, rfl⟩, RefRw.mkO ho hs ⟨h2, h3, by simp [Nat.add_assoc]⟩⟩
      · cases h
  · cases h
theorem zfb {i : Int} {n : Nat} : inb i n = true ↔ 0 ≤ i ∧ i < (n : Int) := by simp [inb]
theorem zbq {t e : TypeId} (h : elOf P t = some e) : P.underlying t = some (.slice e) := by
  unfold elOf at h
  split at h
  · rename_i e' hu; simp at h; subst h; exact hu
  · cases h
theorem zfw {t e : TypeId} (hu : P.underlying t = some (.slice e)) {b o len cap : Nat} {k : IntKind} {i : Int} (h0 : 0 ≤ i) (h1 : i < len) (hs : P.info? e ≠ none) :
    (Instr.indexAt t (.slice (some ⟨b, o, none⟩) len cap) (.int k i)).run P w = .ok (.pointer (some ⟨b, o + i.toNat * esz P e, none⟩)) w := by
  have hsz : (sizeOf e).run P w = .ok (esz P e) w := by
    cases hi : P.info? e with
    | none => exact absurd hi hs
    | some i => simp [sizeOf, typeInfo, hi, esz]
  simp [Instr.indexAt, run_underlying hu, asIntOf, h0, h1, hsz, zba]
theorem zkl (H : Heap P K X) (hX : X.h = w.heap) (hlk : ∀ id, lk id = X.ob id ∨ lk id = .dead) {t : TypeId} {a i : AV} {va vi : Value} (ha : RV P X a va) (hi : RV P X i vi) {r : AR} (h : aindex P lk t a i = some r)
    (hg : ∀ b ∈ r.gs, b = true) : ValRes P K X w r (Instr.indexAt t va vi) := by
  unfold aindex at h
  split at h
  · rename_i x k n
    split at h
    · cases h
    · rename_i e he
      have hu := zbq he
      simp only [RV, RS] at hi
      subst hi
      simp only [RV] at ha
      cases hinf : P.info? e with
      | none => simp [hinf] at h
      | some inf =>
        simp only [hinf] at h
        have hs : P.info? e ≠ none := by rw [hinf]; simp
        split at h
        · rename_i e' fr xs
          cases hb : Nat.beq e e' <;> simp [hb] at h
          subst h
          have := zb hb; subst this
          have hin := zfb.1 (hg (inb n xs.length) (by simp))
          obtain ⟨A, cap, h1, h2, h3⟩ := (show RS P X (.fz e fr xs) va from ha)
          rcases h3 with h3 | ⟨blk, off, cs, ty, fz, h4, h5, h6, h7⟩
          · rw [h3] at hin; simp at hin; omega
          · subst h1 h4
            refine .pure H hX rfl (zfw hu hin.1 hin.2 hs) ?_
            exact ⟨blk, off, cs, ty, fz, by simp, by omega, h5, h6, h7⟩
        · rename_i id m
          have key : ∀ e' xs ser, RowOb X id e' xs ser → (((X.β id).nil = true ∧ xs = []) ∨ (X.β id).nil = false) → cond (Nat.beq e e' && Nat.beq m ser) (some (⟨[inb n xs.length], .sc (.po id m n.toNat 0), [], 0⟩ : AR)) none = some r → ValRes P K X w r (Instr.indexAt t va (.int k n)) := by
            intro e' xs ser ho hnl h
            cases hb : (Nat.beq e e' && Nat.beq m ser) <;> simp [hb] at h
            subst h
            simp only [Bool.and_eq_true] at hb
            have := zb hb.1; subst this
            have hin := zfb.1 (hg (inb n xs.length) (by simp))
            have hv := (show RS P X (.ow id m) va from ha).2.getO ho (zb hb.2)
            have hn : (X.β id).nil = false := by
              rcases hnl with ⟨_, hx⟩ | hn
              · rw [hx] at hin; simp at hin; omega
              · exact hn
            have hsl : slAddr P e (X.β id) 0 = some ⟨(X.β id).blk, (X.β id).off, none⟩ := by simp [slAddr, hn]
            rw [hsl] at hv
            subst hv
            refine .pure H hX rfl (zfw hu hin.1 hin.2 hs) ⟨⟨_, rfl⟩, RefRw.mkO ho (zb hb.2) ⟨by omega, hn, by simp⟩⟩
          split at h
          · rename_i e' fr xs ser hl
            have ho := lk_rw hlk hl (by simp)
            exact key e' xs ser (.inl ⟨fr, .inl ho⟩) ((zb0 H (.inl ho)).imp (fun h => ⟨h.1, h.2.1⟩) fun h => h.1) h
          · rename_i e' fr xs ser hl
            have ho := lk_rw hlk hl (by simp)
            exact key e' xs ser (.inl ⟨fr, .inr ho⟩) ((zb0 H (.inr ho)).imp (fun h => ⟨h.1, h.2.1⟩) fun h => h.1) h
          · rename_i e' c xs ser lo iv hl
            have ho := lk_rw hlk hl (by simp)
            cases hb : (Nat.beq e e' && (Nat.beq m ser && Nat.beq lo 0)) <;> simp only [hb, cond_false, cond_true] at h
            · cases h
            simp only [Bool.and_eq_true] at hb
            have h0 := zb hb.2.2; subst h0
            exact key e' xs ser (.inr ⟨c, 0, iv, ho⟩) ((ze6 H ho (F := fun _ => True) fun _ _ => trivial).imp (fun h => ⟨h.1, h.2.1⟩) fun h => h.1) (by simp only [hb.1, hb.2.1, Bool.and_self, cond_true]; exact h)
          · cases h
        · cases h
  · cases h
end
end Go.Eng
end
section
namespace Go.Eng
open Go
section
variable {P : Program} {K : Kx} {X : Cx} {w : World} {lk : Lk}
theorem zjr {op : BinOp} {xt : TypeId} {k : IntKind} {a b : Int} {gs : List Bool} {v : AS} (h : binInt op k a b = some (gs, v)) (hg : ∀ b ∈ gs, b = true) :
    ∃ u, (binOp op xt (.int k a) (.int k b)).run P w = .ok u w ∧ RS P X v u := by
  cases op <;> simp only [binInt] at h <;> try (cases h)
  case add => exact ⟨_, by rw [binOp_add]; rfl, rfl⟩
  case sub => exact ⟨_, by rw [binOp_sub]; rfl, rfl⟩
  case mul => exact ⟨_, by rw [binOp_mul]; rfl, rfl⟩
  case quo =>
    have hb : b ≠ 0 := by simpa using hg (b != 0) (by simp)
    exact ⟨_, by rw [binOp_quo]; simp [Op.intDiv, hb], rfl⟩
  case rem =>
    have hb : b ≠ 0 := by simpa using hg (b != 0) (by simp)
    exact ⟨_, by rw [binOp_rem]; simp [Op.intDiv, hb], rfl⟩
  case and => exact ⟨_, by rw [binOp_and]; rfl, rfl⟩
  case or => exact ⟨_, by rw [binOp_or]; rfl, rfl⟩
  case xor => exact ⟨_, by rw [binOp_xor]; rfl, rfl⟩
  case eql => exact ⟨_, by rw [binOp_eql]; rfl, rfl⟩
  case neq => exact ⟨_, by rw [binOp_neq]; rfl, rfl⟩
  case lss => exact ⟨_, by rw [binOp_lss]; rfl, rfl⟩
  case leq => exact ⟨_, by rw [binOp_leq]; rfl, rfl⟩
  case gtr => exact ⟨_, by rw [binOp_gtr]; rfl, rfl⟩
  case geq => exact ⟨_, by rw [binOp_geq]; rfl, rfl⟩
theorem ziv {op : BinOp} {xt : TypeId} {k k' : IntKind} {a b : Int} {gs : List Bool} {v : AS} (h : binShift op k a b = some (gs, v)) (hg : ∀ b ∈ gs, b = true) :
    ∃ u, (binOp op xt (.int k a) (.int k' b)).run P w = .ok u w ∧ RS P X v u := by
  cases op <;> simp only [binShift] at h <;> try (cases h)
  case shl =>
    have hb : 0 ≤ b := by simpa using hg (decide (0 ≤ b)) (by simp)
    exact ⟨_, by rw [binOp_shl]; simp [Op.shift, show ¬ b < 0 by omega], rfl⟩
  case shr =>
    have hb : 0 ≤ b := by simpa using hg (decide (0 ≤ b)) (by simp)
    exact ⟨_, by rw [binOp_shr]; simp [Op.shift, show ¬ b < 0 by omega], rfl⟩
theorem zmg {op : BinOp} {xt : TypeId} {a b : ByteArray} {gs : List Bool} {v : AS} (h : binStr op a b = some (gs, v)) (hg : ∀ b ∈ gs, b = true) :
    ∃ u, (binOp op xt (.string a) (.string b)).run P w = .ok u w ∧ RS P X v u := by
  have hs : binOp op xt (.string a) (.string b) = Op.stringOp op a b := by cases op <;> rfl
  rw [hs]
  cases op <;> simp only [binStr] at h <;> try (cases h)
  case add =>
    have hb : a.size + b.size ≤ most := by simpa using hg (decide (a.size + b.size ≤ most)) (by simp)
    refine ⟨_, ?_, rfl⟩
    have : ¬ ((a.size + b.size : Nat) : Int) > IntKind.i64.max := by
      rw [IntKind.max_i64]; unfold most at hb; omega
    simp only [Op.stringOp, this, if_false, Sem.run_pure]
  all_goals exact ⟨_, rfl, rfl⟩
theorem zcd {t : TypeId} {k : CK} (h : plain P t = some k) : (k = .b ∧ P.underlying t = some .bool) ∨ (k = .s ∧ P.underlying t = some .string) ∨ ∃ j, k = .i j ∧ P.underlying t = some (.int j) := by
  unfold plain at h
  split at h <;> rename_i hu <;> cases h
  · exact .inr (.inr ⟨_, rfl, hu⟩)
  · exact .inl ⟨rfl, hu⟩
  · exact .inr (.inl ⟨rfl, hu⟩)
theorem zmu {t : TypeId} {k : CK} (h : plain P t = some k) : ∃ d, P.underlying t = some d ∧ isAg P t = false := by
  rcases zcd h with ⟨_, hu⟩ | ⟨_, hu⟩ | ⟨j, _, hu⟩ <;> exact ⟨_, hu, by simp [isAg, hu]⟩
theorem zks {t : TypeId} {k : CK} (hk : plain P t = some k) {x y : AS} {u v : Value} (hx : RS P X x u) (hy : RS P X y v) {b : Bool} (h : eq1 k x y = some b) (d : Nat) : (Op.equalIn (d + 1) t u v).run P w = .ok b w := by
  rcases zcd hk with ⟨rfl, hu⟩ | ⟨rfl, hu⟩ | ⟨j, rfl, hu⟩
  · cases x <;> cases y <;> simp only [eq1] at h <;> cases h
    simp only [RS] at hx hy
    subst hx hy
    exact run_equalIn_bool' w d t _ _ hu
  · cases x <;> cases y <;> simp only [eq1] at h <;> cases h
    simp only [RS] at hx hy
    subst hx hy
    exact run_equalIn_string w d t _ _ hu
  · cases x <;> cases y <;> simp only [eq1] at h <;> try (cases h)
    rename_i j1 a j2 c
    cases hb : (keq j j1 && keq j j2) <;> simp [hb] at h
    simp only [Bool.and_eq_true] at hb
    have e1 := zbz hb.1; have e2 := zbz hb.2; subst e1 e2
    simp only [RS] at hx hy
    subst hx hy h
    exact run_equalIn_int w d t _ _ a c hu
theorem zes {t : TypeId} {d : TypeDesc} (hu : P.underlying t = some d) (ha : isAg P t = false) {cs : Array Value} {o : Nat} {v : Value} (h : cs[o]? = some v) : (part t cs o).run P w = .ok v w := by
  simp only [part, Sem.run_bind, zcz hu, Result.andThen_ok, ha, Bool.false_eq_true, if_false, h, Sem.run_pure]
theorem zii {xs ys : List AS} {us vs : Array Value} (hx : RSs P X xs us.toList) (hy : RSs P X ys vs.toList) (d : Nat) : ∀ {fs : List Field} {b : Bool}, eqFs P fs xs ys = some b → (Op.eqFields (d + 1) us vs fs).run P w = .ok b w
  | [], b, h => by simp [eqFs] at h; subst h; simp [Op.eqFields]
  | f :: fs, b, h => by
    simp only [eqFs] at h
    cases hn : (f.name == "_") <;> simp [hn] at h
    split at h
    · rename_i k x y hk h1 h2
      split at h
      · cases h
      · rename_i b1 hb1
        split at h
        · cases h
        · rename_i r hr
          simp at h
          subst h
          have ih := zii hx hy d hr
          obtain ⟨u, u1, u2⟩ := hx.get h1
          obtain ⟨v, v1, v2⟩ := hy.get h2
          obtain ⟨dd, hd1, hd2⟩ := zmu hk
          have he := zks (w := w) hk u2 v2 hb1 d
          have hn' : f.name ≠ "_" := by simpa using hn
          have p1 := zes (w := w) hd1 hd2 (show us[f.offset]? = some u by simpa using u1)
          have p2 := zes (w := w) hd1 hd2 (show vs[f.offset]? = some v by simpa using v1)
          rw [Op.eqFields]
          simp only [if_pos hn', Sem.run_bind, p1, p2, he, Result.andThen_ok]
          cases b1
          · simp
          · simpa using ih
    · cases h
theorem zi3 (H : Heap P K X) (hX : X.h = w.heap) {op : BinOp} {xt : TypeId} {ox oy : Operand} {a b : AV} {va vb : Value} (ha : RV P X a va) (hb : RV P X b vb) {r : AR} (h : abin P op xt a b = some r)
    (hg : ∀ b ∈ r.gs, b = true) : ValRes P K X w r (do eqGuard op xt ox oy va vb; binOp op xt va vb) := by
  unfold abin at h
  split at h
  · rename_i k a k' b
    simp only [RV, RS] at ha hb
    subst ha hb
    rw [eqGuard_at_int]
    split at h
    · split at h
      · rename_i gs v h1
        simp at h; subst h
        obtain ⟨u, h2, h3⟩ := ziv (P := P) (X := X) (w := w) (xt := xt) (k' := k') h1 hg
        exact .pure H hX rfl (by simpa using h2) h3
      · cases h
    · cases hk : keq k k' <;> simp [hk] at h
      have := zbz hk; subst this
      split at h
      · rename_i gs v h1
        simp at h; subst h
        obtain ⟨u, h2, h3⟩ := zjr (P := P) (X := X) (w := w) (xt := xt) h1 hg
        exact .pure H hX rfl (by simpa using h2) h3
      · cases h
  · simp only [RV, RS] at ha hb
    subst ha hb
    rw [eqGuard_at_string]
    split at h
    · rename_i gs v h1
      simp at h; subst h
      obtain ⟨u, h2, h3⟩ := zmg (P := P) (X := X) (w := w) (xt := xt) h1 hg
      exact .pure H hX rfl (by simpa using h2) h3
    · cases h
  · simp only [RV, RS] at ha hb
    subst ha hb
    rw [eqGuard_at_bool]
    rename_i a b
    have e1 : binOp .eql xt (.bool a) (.bool b) = (do pure (.bool (← Op.equal xt (.bool a) (.bool b)))) := rfl
    have e2 : binOp .neq xt (.bool a) (.bool b) = (do pure (.bool (!(← Op.equal xt (.bool a) (.bool b))))) := rfl
    split at h <;> (try unfold sc at h) <;> cases h <;> rename_i hu
    · refine .pure H hX rfl ?_ rfl
      have e3 : (Op.equal xt (.bool a) (.bool b)).run P w = .ok (a == b) w := run_equalIn_bool' w 9999 xt a b hu
      simp only [e1, Sem.run_bind, Sem.run_pure, Result.andThen_ok, e3]
    · refine .pure H hX rfl ?_ rfl
      have e3 : (Op.equal xt (.bool a) (.bool b)).run P w = .ok (a == b) w := run_equalIn_bool' w 9999 xt a b hu
      simp only [e2, Sem.run_bind, Sem.run_pure, Result.andThen_ok, e3]
  · rename_i xs ys
    obtain ⟨us, rfl, hx⟩ := ha
    obtain ⟨vs, rfl, hy⟩ := hb
    have key : ∀ {r : Bool}, aeqs P xt xs ys = some r → (Op.equalIn 10000 xt (.agg us) (.agg vs)).run P w = .ok r w ∧ P.eqGuardType P.depth xt = false := by
      intro r h
      unfold aeqs at h
      split at h
      · rename_i fs hu
        cases hc : (P.stoodInHeld xt || P.eqGuardType P.depth xt) <;> simp [hc] at h
        simp only [Bool.or_eq_false_iff] at hc
        have hf : P.fieldsOf xt = fs := by simp [Program.fieldsOf, hu]
        refine ⟨?_, hc.2⟩
        rw [run_equalIn_struct (P := P) w 9999 xt us vs (by rw [hf]; exact hu) hc.1, hf]
        exact zii hx hy 9998 h
      · cases h
    split at h
    · split at h
      · rename_i r hr
        simp [sc] at h; subst h
        obtain ⟨k1, k2⟩ := key hr
        refine .pure H hX rfl ?_ rfl
        rw [Sem.run_bind, run_eqGuard_agg w .eql xt ox oy us vs k2, Result.andThen_ok, run_eql_struct, k1, Result.andThen_ok]
      · cases h
    · split at h
      · rename_i r hr
        simp [sc] at h; subst h
        obtain ⟨k1, k2⟩ := key hr
        refine .pure H hX rfl ?_ rfl
        rw [Sem.run_bind, run_eqGuard_agg w .neq xt ox oy us vs k2, Result.andThen_ok, run_neq_struct, k1, Result.andThen_ok]
      · cases h
    · cases h
  · cases h
theorem zim (H : Heap P K X) (hX : X.h = w.heap) {op : UnOp} {a : AV} {va : Value} (ha : RV P X a va) {r : AR} (h : aun op a = some r) : ValRes P K X w r (Op.unary op va) := by
  unfold aun at h
  split at h <;> (try unfold sc at h) <;> cases h <;> simp only [RV, RS] at ha <;> subst ha
  · exact .pure H hX rfl rfl rfl
  · exact .pure H hX rfl rfl rfl
end
end Go.Eng
end
section
namespace Go.Eng
open Go
section
variable {P : Program} {K : Kx} {X : Cx} {w : World} {lk : Lk}
def OV (P : Program) (X : Cx) : Option AV → Option Value → Prop
  | none, none => True
  | some a, some v => RV P X a v
  | _, _ => False
theorem zdo {len cap : Nat} (hle : len ≤ cap) {lo hi : Option AV} {vlo vhi : Option Value} {gs : List Bool} {l h : Nat} (hb : bounds len lo hi = some (gs, l, h)) (hg : ∀ b ∈ gs, b = true)
    (rlo : OV P X lo vlo) (rhi : OV P X hi vhi) (s : Bool) : (Instr.sliceBounds s len cap vlo vhi none).run P w = .ok (l, h, cap) w ∧ l ≤ h ∧ h ≤ len := by
  have hiP : ∃ g1, (∀ b ∈ g1, b ∈ gs) ∧ ((hi = none ∧ h = len) ∨ ∃ k n, hi = some (.sc (.i k n)) ∧ h = n.toNat ∧ g1 = [decide (0 ≤ n), decide (n ≤ (len : Int))]) ∧
      ((lo = none ∧ l = 0) ∨ ∃ k n, lo = some (.sc (.i k n)) ∧ l = n.toNat ∧ decide (0 ≤ n) ∈ gs ∧ decide (n ≤ (h : Int)) ∈ gs) := by
    unfold bounds at hb
    split at hb
    · cases hb
    · rename_i g1 h1 he
      have hd : (hi = none ∧ h1 = len) ∨ ∃ k n, hi = some (.sc (.i k n)) ∧ h1 = n.toNat ∧ g1 = [decide (0 ≤ n), decide (n ≤ (len : Int))] := by
        split at he
        · simp at he; exact .inl ⟨rfl, he.2.symm⟩
        · rename_i k n; simp at he; exact .inr ⟨_, n, rfl, he.2.symm, he.1.symm⟩
        · cases he
      split at hb
      · simp at hb
        obtain ⟨rfl, rfl, rfl⟩ := hb
        exact ⟨g1, fun b h => h, hd, .inl ⟨rfl, rfl⟩⟩
      · rename_i k n
        simp at hb
        obtain ⟨rfl, rfl, rfl⟩ := hb
        exact ⟨g1, fun b h => by simp [h], hd, .inr ⟨_, n, rfl, rfl, by simp, by simp⟩⟩
      · cases hb
  obtain ⟨g1, hsub, hhi, hlo⟩ := hiP
  have hhle : h ≤ len ∧ ∀ (s : Bool), vhi = none ∧ h = len ∨ ∃ k n, vhi = some (.int k n) ∧ 0 ≤ n ∧ n ≤ (cap : Int) ∧ h = n.toNat := by
    rcases hhi with ⟨rfl, rfl⟩ | ⟨k, n, rfl, rfl, rfl⟩
    · cases vhi with
      | none => exact ⟨Nat.le_refl _, fun _ => .inl ⟨rfl, rfl⟩⟩
      | some v => exact rhi.elim
    · cases vhi with
      | none => exact rhi.elim
      | some v =>
        simp only [OV, RV, RS] at rhi
        subst rhi
        have a : 0 ≤ n := by simpa using hg (decide (0 ≤ n)) (hsub _ (by simp))
        have b : n ≤ (len : Int) := by simpa using hg (decide (n ≤ (len : Int))) (hsub _ (by simp))
        exact ⟨by omega, fun _ => .inr ⟨k, n, rfl, a, by omega, rfl⟩⟩
  have hll : l ≤ h ∧ (vlo = none ∧ l = 0 ∨ ∃ k n, vlo = some (.int k n) ∧ 0 ≤ n ∧ n ≤ (h : Int) ∧ l = n.toNat) := by
    rcases hlo with ⟨rfl, rfl⟩ | ⟨k, n, rfl, rfl, g2, g3⟩
    · cases vlo with
      | none => exact ⟨Nat.zero_le _, .inl ⟨rfl, rfl⟩⟩
      | some v => exact rlo.elim
    · cases vlo with
      | none => exact rlo.elim
      | some v =>
        simp only [OV, RV, RS] at rlo
        subst rlo
        have a : 0 ≤ n := by simpa using hg _ g2
        have b : n ≤ (h : Int) := by simpa using hg _ g3
        exact ⟨by omega, .inr ⟨k, n, rfl, a, b, rfl⟩⟩
  refine ⟨?_, hll.1, hhle.1⟩
  rcases hhle.2 s with ⟨rfl, rfl⟩ | ⟨k, n, rfl, a, b, rfl⟩ <;> rcases hll.2 with ⟨rfl, rfl⟩ | ⟨k', n', rfl, a', b', rfl⟩
  · simp [Instr.sliceBounds]
  · have e1 := run_sliceBound (P := P) w k' n' h .sliceB a' b'
    simp [Instr.sliceBounds, e1]
  · have e2 := fun c => run_sliceBound (P := P) w k n cap c a b
    simp [Instr.sliceBounds, e2]
  · have e1 := run_sliceBound (P := P) w k' n' n.toNat .sliceB a' b'
    have e2 := fun c => run_sliceBound (P := P) w k n cap c a b
    simp only [Instr.sliceBounds, Sem.run_bind, Sem.run_pure, Result.andThen_ok, e1, e2, Option.isSome_none, Bool.false_eq_true, if_false]
theorem zdu (H : Heap P K X) (hX : X.h = w.heap) (hlk : ∀ id, lk id = X.ob id ∨ lk id = .dead) {t : TypeId} {a : AV} {lo hi : Option AV} {va : Value} {vlo vhi : Option Value} (ha : RV P X a va)
    (rlo : OV P X lo vlo) (rhi : OV P X hi vhi) {r : AR} (h : aslice P lk t a lo hi = some r) (hg : ∀ b ∈ r.gs, b = true) : ValRes P K X w r (Instr.sliceAt t va vlo vhi none) := by
  unfold aslice at h
  split at h
  · rename_i z hu
    simp only [RV, RS] at ha
    subst ha
    split at h
    · rename_i gs l h' hb
      simp at h; subst h
      obtain ⟨b1, b2, b3⟩ := zdo (w := w) (Nat.le_refl _) hb hg rlo rhi false
      refine .pure H hX rfl ?_ rfl
      simp [Instr.sliceAt, Instr.slice, run_underlying hu, b1]
    · cases h
  · rename_i e x hu
    have srun : ∀ {A : Option Addr} {len cap l h' : Nat}, va = .slice A len cap → (Instr.sliceBounds true len cap vlo vhi none).run P w = .ok (l, h', cap) w → P.info? e ≠ none →
        (Instr.sliceAt t va vlo vhi none).run P w = .ok (.slice (if cap = l then A else A.map (·.add (l * esz P e))) (h' - l) (cap - l)) w := by
      intro A len cap l h' hv hb hs
      subst hv
      have hsz : (sizeOf e).run P w = .ok (esz P e) w := by
        cases hi : P.info? e with
        | none => exact absurd hi hs
        | some i => simp [sizeOf, typeInfo, hi, esz]
      simp [Instr.sliceAt, Instr.slice, run_underlying hu, hb, hsz]
    cases hinf : P.info? e with
    | none => simp [hinf] at h
    | some inf =>
      simp only [hinf] at h
      have hs : P.info? e ≠ none := by rw [hinf]; simp
      have part0 : ∀ (id m : Nat) (e' : TypeId) (xs : Rw) (ser : Nat), RowOb X id e' xs ser → xs.length ≤ (X.β id).cap → e = e' → m = ser → RS P X (.ow id m) va → ∀ {gs : List Bool} {l h' : Nat}, bounds xs.length lo hi = some (gs, l, h') → (∀ b ∈ gs, b = true) →
          l ≤ h' ∧ h' ≤ xs.length ∧ (Instr.sliceAt t va vlo vhi none).run P w = .ok (.slice (slAddr P e (X.β id) l) (h' - l) ((X.β id).cap - l)) w := by
        intro id m e' xs ser ho hle he hm hr gs l h' hb hg
        subst he
        have hv := hr.2.getO ho hm
        obtain ⟨b1, b2, b3⟩ := zdo (w := w) hle hb hg rlo rhi true
        refine ⟨b2, b3, ?_⟩
        rw [srun hv b1 hs]
        congr 2
        unfold slAddr
        cases hn : (X.β id).nil
        · by_cases hc : (X.β id).cap = l
          · simp [hc]
          · simp [hc, Ne.symm hc, zba]
        · by_cases hc : (X.β id).cap = l <;> simp [hc]
      have part : ∀ (id m : Nat) (e' : TypeId) (fr : Bool) (xs : Rw) (ser : Nat), (X.ob id = .rw e' fr xs ser ∨ X.ob id = .fz e' fr xs ser) → e = e' → m = ser → RS P X (.ow id m) va → ∀ {gs : List Bool} {l h' : Nat}, bounds xs.length lo hi = some (gs, l, h') → (∀ b ∈ gs, b = true) →
          l ≤ h' ∧ h' ≤ xs.length ∧ (Instr.sliceAt t va vlo vhi none).run P w = .ok (.slice (slAddr P e (X.β id) l) (h' - l) ((X.β id).cap - l)) w := by
        intro id m e' fr xs ser ho he hm hr gs l h' hb hg
        refine part0 id m e' xs ser (.inl ⟨fr, ho⟩) ?_ he hm hr hb hg
        rcases zb0 H ho with ⟨_, hx, hc⟩ | ⟨_, hc, _⟩
        · rw [hx, hc]; simp
        · exact hc
      split at h
      · split at h
        · rename_i gs l h' hb
          simp at h; subst h
          simp only [RV, RS] at ha
          obtain ⟨b1, b2, b3⟩ := zdo (w := w) (Nat.le_refl _) hb hg rlo rhi true
          refine .pure H hX rfl (srun ha b1 hs) ?_
          have hl : l = 0 := by omega
          have hh : h' = 0 := by omega
          subst hl hh
          simp [RV, RS]
        · cases h
      · rename_i e' fr xs
        cases hb : Nat.beq e e' <;> simp [hb] at h
        have := zb hb; subst this
        split at h
        · rename_i gs l h' hb
          simp at h; subst h
          obtain ⟨A, cap, h1, h2, h3⟩ := (show RS P X (.fz e fr xs) va from ha)
          obtain ⟨b1, b2, b3⟩ := zdo (w := w) h2 hb hg rlo rhi true
          refine .pure H hX rfl (srun h1 b1 hs) ?_
          refine ⟨_, _, by rw [zbd b3], by rw [zbd b3]; omega, ?_⟩
          by_cases he : h' - l = 0
          · left; exact List.eq_nil_of_length_eq_zero (by rw [zbd b3]; exact he)
          · have hne : cap ≠ l := by omega
            rcases h3 with h3 | ⟨blk, off, cs, ty, fz, h4, h5, h6, h7⟩
            · rw [h3] at b3; simp at b3; omega
            · right
              subst h4
              exact ⟨blk, off + l * esz P e, cs, ty, fz, by simp [hne, zba], h5, h6, h7.sub b3⟩
        · cases h
      · rename_i id m
        split at h
        · rename_i e' fr xs ser hl
          cases hb : (Nat.beq e e' && Nat.beq m ser) <;> simp [hb] at h
          simp only [Bool.and_eq_true] at hb
          split at h
          · rename_i gs l h' hb2
            simp at h; subst h
            have ho := lk_rw hlk hl (by simp)
            have he := zb hb.1; subst he
            obtain ⟨c1, c2, c3⟩ := part id m _ fr xs ser (.inl ho) rfl (zb hb.2) ha hb2 hg
            exact .pure H hX rfl c3 ⟨⟨_, _, _, rfl⟩, RefRw.mk (.inl ho) (zb hb.2) ⟨c1, c2, rfl⟩⟩
          · cases h
        · rename_i e' fr xs ser hl
          cases hb : (Nat.beq e e' && Nat.beq m ser) <;> simp [hb] at h
          simp only [Bool.and_eq_true] at hb
          split at h
          · rename_i gs l h' hb2
            simp at h; subst h
            have ho := lk_rw hlk hl (by simp)
            have he := zb hb.1; subst he
            obtain ⟨c1, c2, c3⟩ := part id m _ fr xs ser (.inr ho) rfl (zb hb.2) ha hb2 hg
            refine .pure H hX rfl c3 ?_
            obtain ⟨A, cap, d1, d2, d3⟩ := zdx H (.inr ho) c1 c2
            refine ⟨A, cap, d1, d2, ?_⟩
            rcases d3 with d3 | ⟨blk, off, cs, ty, fz, d4, d5, d6⟩
            · exact .inl d3
            · have hk := H.ok id
              unfold AOok at hk
              rw [ho] at hk
              rcases hk with ⟨_, hx, _⟩ | ⟨hn, _, hF, _⟩
              · left; rw [hx]; simp [Eng.sub]
              · right
                refine ⟨blk, off, cs, ty, fz, d4, ?_, d5, d6⟩
                have : blk = (X.β id).blk := by
                  injection d1 with q1 q2 q3
                  rw [d4] at q1
                  simp only [slAddr, hn, Bool.false_eq_true, if_false, Option.some.injEq, Addr.mk.injEq] at q1
                  exact q1.1.symm
                rw [this]; exact hF
          · cases h
        · rename_i e' c xs ser lo1 iv hl
          cases hb : (Nat.beq e e' && Nat.beq m ser) <;> simp only [hb, cond_false, cond_true] at h
          · cases h
          simp only [Bool.and_eq_true] at hb
          split at h
          · rename_i gs l h' hb2
            simp at h; subst h
            have ho := lk_rw hlk hl (by simp)
            have he := zb hb.1; subst he
            have hle : xs.length ≤ (X.β id).cap := by
              have hk := H.ok id
              unfold AOok at hk
              rw [ho] at hk
              rcases hk.2 with ⟨_, hx, hc⟩ | ⟨_, hc, _⟩
              · rw [hx, hc]; simp
              · exact hc
            obtain ⟨c1, c2, c3⟩ := part0 id m _ xs ser (.inr ⟨c, lo1, iv, ho⟩) hle rfl (zb hb.2) ha hb2 hg
            exact .pure H hX rfl c3 ⟨⟨_, _, _, rfl⟩, RefRw.mkO (.inr ⟨c, lo1, iv, ho⟩) (zb hb.2) ⟨c1, c2, rfl⟩⟩
          · cases h
        · cases h
      · cases h
  · cases h
end
end Go.Eng
end
section
namespace Go.Eng
open Go
section
variable {P : Program} {K : Kx} {X : Cx} {w : World} {lk : Lk}
theorem zms (H : Heap P K X) (hX : X.h = w.heap) {ix : Nat} {a : AV} {va : Value} (ha : RV P X a va) {r : AR} (h : aextract ix a = some r) : ValRes P K X w r (Instr.extract va ix) := by
  unfold aextract at h
  split at h
  · rename_i ts
    obtain ⟨vs, rfl, hf⟩ := ha
    split at h
    · rename_i xs hx
      unfold AR.pure at h; cases h
      obtain ⟨v, h1, h2⟩ := hf.get hx
      have h1' : vs[ix]? = some v := by simpa using h1
      exact .pure H hX rfl (by simp [Instr.extract, h1']) h2
    · rename_i x hx
      unfold sc at h; cases h
      obtain ⟨v, h1, h2⟩ := hf.get hx
      have h1' : vs[ix]? = some v := by simpa using h1
      refine .pure H hX rfl (by simp [Instr.extract, h1']; rfl) ?_
      cases h2 with
      | cons hx _ => exact hx
    · cases h
  · cases h
theorem zdw {mx : Bool} {k : IntKind} : ∀ {as : List AV} {a : Int} {vs : List Value} {x : AS}, F2 (RV P X) as vs → amm mx k a as = some x →
    ∃ v, (vs.foldlM (if mx then Builtin.max2 else Builtin.min2) (.int k a)).run P w = .ok v w ∧ RS P X x v
  | [], a, vs, x, hf, h => by
    cases hf
    simp [amm] at h; subst h
    exact ⟨_, rfl, rfl⟩
  | y :: as, a, vs, x, hf, h => by
    cases hf with
    | cons hy ht =>
      rename_i v vs
      cases y with
      | sc y =>
        cases y <;> simp only [amm] at h <;> try (cases h)
        rename_i k' b
        cases hk : keq k k' <;> simp [hk] at h
        have := zbz hk; subst this
        simp only [RV, RS] at hy
        subst hy
        cases mx
        · obtain ⟨v, h1, h2⟩ := zdw (mx := false) ht h
          refine ⟨v, ?_, h2⟩
          simp only [List.foldlM_cons, Sem.run_bind, Bool.false_eq_true, if_false, Builtin.min2, Sem.run_pure, Result.andThen_ok]
          simpa [mn2] using h1
        · obtain ⟨v, h1, h2⟩ := zdw (mx := true) ht h
          refine ⟨v, ?_, h2⟩
          simp only [List.foldlM_cons, Sem.run_bind, if_true, Builtin.max2, Sem.run_pure, Result.andThen_ok]
          simpa [mx2] using h1
      | ag _ => simp [amm] at h
      | tu _ => simp [amm] at h
theorem RV.cells {a : AV} {va : Value} (h : RV P X a va) (hne : a.cells ≠ []) : RSs P X a.cells va.cells.toList := by
  cases a with
  | sc x =>
    simp only [RV] at h
    by_cases hu : x = .un
    · subst hu; simp [AV.cells] at hne
    · have hc : (AV.sc x).cells = [x] := by cases x <;> first | rfl | exact absurd rfl hu
      rw [hc]
      by_cases hd : x = .ud
      · subst hd
        simp only [RS] at h
        subst h
        exact .cons rfl .nil
      · have h1 : x.one = true := by cases x <;> first | rfl | exact absurd rfl hu | exact absurd rfl hd
        rw [(h.one h1).2]
        exact .cons h .nil
  | ag xs => obtain ⟨cs, rfl, hf⟩ := h; exact hf
  | tu ts => simp [AV.cells] at hne
theorem RSs.set {xs : List AS} {vs : List Value} (h : RSs P X xs vs) {o : Nat} {x : AS} {v : Value} (hx : RS P X x v) : RSs P X (xs.set o x) (vs.set o v) := by
  induction h generalizing o with
  | nil => exact .nil
  | cons h1 _ ih =>
    cases o with
    | zero => exact .cons hx (by assumption)
    | succ o => exact .cons h1 ih
theorem zi2 : ∀ {ps : List AS} {us : List Value} {xs : List AS} {cs : Array Value} {o : Nat}, RSs P X xs cs.toList → RSs P X ps us →
    RSs P X (setMany xs o ps) (us.zipIdx.foldl (fun cs (c, j) => cs.setIfInBounds (o + j) c) cs).toList := by
  have key : ∀ {ps : List AS} {us : List Value} {xs : List AS} {cs : Array Value} {o k : Nat}, RSs P X xs cs.toList → RSs P X ps us →
      RSs P X (setMany xs (o + k) ps) ((us.zipIdx k).foldl (fun cs (c, j) => cs.setIfInBounds (o + j) c) cs).toList := by
    intro ps us xs cs o k hx hp
    induction hp generalizing xs cs k with
    | nil => exact hx
    | cons h1 _ ih =>
      simp only [setMany, List.zipIdx_cons, List.foldl_cons]
      exact ih (k := k + 1) (by rw [Array.toList_setIfInBounds]; exact hx.set h1)
  intro ps us xs cs o hx hp
  exact key (k := 0) hx hp
theorem zc4 : ∀ {ps : List AS} {xs : List AS} {o : Nat}, (setMany xs o ps).length = xs.length
  | [], _, _ => rfl
  | _ :: ps, xs, o => by rw [setMany, zc4]; simp
theorem zdi {place place' : Nat → Option (Nat × Nat)} (hp : ∀ i, place i = place' i) : ∀ {ps : List (Nat × AV)} {us : List (Nat × Value)} {xs : List AS} {cs : Array Value} {r : List AS},
    F2 (fun (a : Nat × AV) (b : Nat × Value) => a.1 = b.1 ∧ RV P X a.2 b.2) ps us → RSs P X xs cs.toList → lay place xs ps = some r → ∃ rs, Instr.fill place' cs us = some rs ∧ RSs P X r rs.toList
  | [], us, xs, cs, r, hf, hx, h => by cases hf; simp [lay] at h; subst h; exact ⟨cs, rfl, hx⟩
  | (i, a) :: ps, us, xs, cs, r, hf, hx, h => by
    cases hf with
    | cons h1 ht =>
      rename_i u us
      obtain ⟨i', v⟩ := u
      obtain ⟨h1, h2⟩ := h1
      simp only at h1 h2
      subst h1
      simp only [lay] at h
      split at h
      · cases h
      · rename_i o n hpl
        cases hc : (!a.cells.isEmpty && (Nat.beq a.cells.length n && Nat.ble (o + n) xs.length)) <;> simp [hc] at h
        simp only [Bool.and_eq_true, Bool.not_eq_true', List.isEmpty_eq_false_iff] at hc
        obtain ⟨c1, c2, c3⟩ := hc
        have hcl := h2.cells c1
        have e1 : v.cells.size = n := by have := hcl.length; rw [zb c2] at this; simpa using this.symm
        have e2 : xs.length = cs.size := by simpa using hx.length
        have e3 := Nat.le_of_ble_eq_true c3
        obtain ⟨rs, r1, r2⟩ := zdi hp ht (zi2 (o := o) hx hcl) h
        refine ⟨rs, ?_, r2⟩
        rw [hp] at hpl
        have hif : ¬ (v.cells.size ≠ n ∨ o + v.cells.size > cs.size) := by omega
        simp only [Instr.fill, hpl]
        rw [if_neg (by simpa using hif)]
        rw [← r1]
        congr 1
        rw [← Array.foldl_toList, Array.toList_zipIdx]
theorem zdk {t : TypeId} {z : AV} (h : zero P t = some z) : ∃ i zv, P.info? t = some i ∧ i.zero = some zv ∧ z = ofConst zv := by
  unfold zero at h
  split at h
  · rename_i i hi
    cases hz : i.zero with
    | none => simp [hz] at h
    | some zv => simp [hz] at h; exact ⟨i, zv, hi, hz, h.symm⟩
  · cases h
theorem zid : ∀ {fs : List Field}, (fs.all fun f => (P.info? f.type).isSome) = true → fs.mapM (fun f => (P.info? f.type).map fun i => (f.offset, i.size)) = some (fs.map fun f => (f.offset, esz P f.type))
  | [], _ => rfl
  | f :: fs, h => by
    simp only [List.all_cons, Bool.and_eq_true] at h
    obtain ⟨i, hi⟩ := Option.isSome_iff_exists.1 h.1
    simp [List.mapM_cons, hi, zid h.2, esz]
theorem F2.parts {ps : List (Nat × Operand)} {V : Operand → AV} {ρ : Operand → Value} (h : ∀ x ∈ ps.map (·.2), RV P X (V x) (ρ x)) :
    F2 (fun (a : Nat × AV) (b : Nat × Value) => a.1 = b.1 ∧ RV P X a.2 b.2) ((ps.map (·.1)).zip ((ps.map (·.2)).map V)) (ps.map fun (i, x) => (i, ρ x)) := by
  induction ps with
  | nil => exact .nil
  | cons p ps ih =>
    obtain ⟨i, x⟩ := p
    exact .cons ⟨rfl, h x (by simp)⟩ (ih fun y hy => h y (by simp at hy ⊢; exact .inr hy))
theorem zl1 (H : Heap P K X) (hX : X.h = w.heap) {t : TypeId} {ps : Array (Nat × Operand)} {V : Operand → AV} {ρ : Operand → Value} (hV : ∀ x ∈ ps.toList.map (·.2), RV P X (V x) (ρ x))
    {z : List AS} {fs : Array Field} (hz : zero P t = some (.ag z)) (hu : P.underlying t = some (.struct fs)) (hi : (fs.toList.all fun f => (P.info? f.type).isSome) = true) {cs : List AS}
    (h : lay (fun i => (fs.toList[i]?).map fun f => (f.offset, esz P f.type)) z ((ps.toList.map (·.1)).zip ((ps.toList.map (·.2)).map V)) = some cs) :
    ValRes P K X w ⟨[], .ag cs, [], 0⟩ (Instr.build t (ps.map fun (i, x) => (i, ρ x))) := by
  obtain ⟨it, zv, h1, h2, h3⟩ := zdk hz
  have hzv : ∃ zc, zv = .agg zc ∧ RSs P X z zc.toList := by
    have := zcy (P := P) (X := X) zv
    rw [← h3] at this
    exact this
  obtain ⟨zc, rfl, hzc⟩ := hzv
  have hp : ∀ i, (fun i => (fs.toList[i]?).map fun f => (f.offset, esz P f.type)) i = (((fs.toList.map fun f => (f.offset, esz P f.type)).toArray[·]?) : Nat → Option (Nat × Nat)) i := by
    intro i; simp
  obtain ⟨rs, r1, r2⟩ := zdi hp (F2.parts hV) hzc h
  refine .pure H hX rfl ?_ ⟨rs, rfl, r2⟩
  refine run_build w t _ rs ?_
  simp only [Program.built, h1, hu, h2, zid hi, Array.toList_map]
  exact r1
theorem zlr (H : Heap P K X) (hX : X.h = w.heap) {s : TypeId} {f : Nat} {cs : List AS} {va : Value} (ha : RV P X (.ag cs) va) {fd : Field} (hf : (fields P s)[f]? = some fd) {d : TypeDesc} (hu : P.underlying fd.type = some d) {r : AR}
    (h : (match isAg P fd.type with
      | true => cond (Nat.ble (fd.offset + esz P fd.type) cs.length) (AR.pure (.ag ((cs.drop fd.offset).take (esz P fd.type)))) none
      | false => (match cs[fd.offset]? with | some x => sc x | none => none)) = some r) : ValRes P K X w r (Instr.field s va f) := by
  obtain ⟨fs, hs, hf'⟩ := zf3 hf
  obtain ⟨us, rfl, hus⟩ := ha
  have hrun : (Instr.field s (.agg us) f).run P w = (part fd.type us fd.offset).run P w := by
    simp [Instr.field, run_underlying hs, hf', asAgg]
  split at h
  · rename_i hag
    cases hb : Nat.ble (fd.offset + esz P fd.type) cs.length <;> simp [hb, AR.pure] at h
    subst h
    refine .pure H hX rfl (hrun.trans ?_) ⟨us.extract fd.offset (fd.offset + esz P fd.type), rfl, ?_⟩
    · simp [part, zcz hu, hag, ze2 hu]
    · have : ∀ {xs : List AS} {vs : List Value}, RSs P X xs vs → ∀ o n, RSs P X ((xs.drop o).take n) ((vs.drop o).take n) := by
        intro xs vs hf
        induction hf with
        | nil => intro o n; simp; exact .nil
        | cons h1 ht ih =>
          intro o n
          cases o with
          | zero =>
            cases n with
            | zero => simp; exact .nil
            | succ n => simp; exact .cons h1 (by have := ih 0 n; simp at this; exact this)
          | succ o => simpa using ih o n
      have h2 := this hus fd.offset (esz P fd.type)
      have e : (us.extract fd.offset (fd.offset + esz P fd.type)).toList = (us.toList.drop fd.offset).take (esz P fd.type) := by
        simp [Array.toList_extract, List.extract_eq_take_drop]
      rw [e]; exact h2
  · rename_i hag
    split at h
    · rename_i x hx
      unfold sc at h; cases h
      obtain ⟨v, h1, h2⟩ := hus.get hx
      have h1' : us[fd.offset]? = some v := by simpa using h1
      exact .pure H hX rfl (hrun.trans (zes hu hag h1')) h2
    · cases h
end
end Go.Eng
end
section
namespace Go.Eng
open Go
section
variable {P : Program} {K : Kx} {X : Cx} {w : World} {lk : Lk}
theorem zi1 (H : Heap P K X) (hX : X.h = w.heap) {t : TypeId} (hu : P.underlying t = some .string) {z : ByteArray} {k : IntKind} {n : Int} (hg : inb n z.size = true) :
    ValRes P K X w ⟨[inb n z.size], .sc (.i .u8 (byteAt z n.toNat)), [], 0⟩ (Instr.index t (.string z) (.int k n)) := by
  obtain ⟨h0, h1⟩ := zfb.1 hg
  have hl : n.toNat < z.size := by omega
  have hz : z[n.toNat]? = some z[n.toNat] := getElem?_pos z n.toNat hl
  refine .pure H hX rfl ?_ rfl
  have hb : ((z[n.toNat]).toNat : Int) = byteAt z n.toNat := by
    have hl' : n.toNat < z.data.size := hl
    unfold byteAt
    rw [Array.getD_eq_getD_getElem?, Array.getElem?_eq_getElem hl']
    rfl
  simp only [Instr.index, Sem.run_bind, asIntOf, Sem.run_pure, Result.andThen_ok, run_underlying hu, h0, if_true, hz]
  rw [← hb]
theorem zl8 {e : TypeId} (he : P.underlying e = some (.int .u8)) (h1 : esz P e = 1) {con : TypeId → Option Addr → Rw → Prop} {cs : Array Value} {off : Nat} {xs : Rw} (h : RowAt P con e cs off xs) :
    ∀ j v, (xs.map fun r => Value.int .u8 (r.getD 0 (.i 0)).int)[j]? = some v → cs[off + j]? = some v := by
  intro j v hj
  rw [List.getElem?_map] at hj
  cases hx : xs[j]? with
  | none => rw [hx] at hj; cases hj
  | some r =>
    rw [hx] at hj
    simp at hj
    subst hj
    have hlt : j < xs.length := by
      rcases Nat.lt_or_ge j xs.length with h | h
      · exact h
      · rw [List.getElem?_eq_none h] at hx; cases hx
    obtain ⟨v, a1, a2⟩ := h j hlt 0 (by omega)
    have hk : ck P e 0 = .i .u8 := by simp [ck, kinds, he]
    rw [hk] at a2
    simp only [CellOk] at a2
    rw [h1, Nat.mul_one, Nat.add_zero] at a1
    rw [a1, a2]
    simp [rd, List.getD_eq_getElem?_getD, hx]
theorem zje (H : Heap P K X) (hX : X.h = w.heap) {src dst e : TypeId} (hs : P.underlying src = some (.slice e)) (hd : P.underlying dst = some .string) (he : P.underlying e = some (.int .u8)) (h1 : esz P e = 1)
    {fr : Bool} {xs : Rw} {v : Value} (hr : Rd P X e fr xs v) : ValRes P K X w ⟨[], .sc (.s (bytesOf xs)), [], 0⟩ (convert src dst v) := by
  obtain ⟨A, cap, hv, hle, hx⟩ := hr
  subst hv
  have hc : (convert src dst (.slice A xs.length cap)).run P w = (Conv.bytesToString (.slice A xs.length cap)).run P w := by
    simp [convert, run_underlying hs, run_underlying hd, run_underlying he]
  refine .pure H hX rfl (v := .string (bytesOf xs)) (hc.trans ?_) rfl
  rcases hx with rfl | ⟨blk, off, cs, ty, fz, rfl, h2, h3⟩
  · cases A with
    | none => rfl
    | some a => simp [Conv.bytesToString, loadCells, loadCellsFrom]; rfl
  · rw [hX] at h2
    have hl := run_loadCells_list (P := P) w ⟨blk, off, none⟩ (xs.map fun r => Value.int .u8 (r.getD 0 (.i 0)).int) fun j v hj => by
      rw [zba, zbx h2]; exact zl8 he h1 h3 j v hj
    rw [List.length_map] at hl
    have hl' : (loadCells ⟨blk, off, none⟩ xs.length).run P w = .ok ((xs.map fun r => (r.getD 0 (.i 0)).int).map (Value.int .u8)).toArray w := by
      rw [hl, List.map_map]; rfl
    rw [run_bytesToString w _ _ cap _ hl', foldl_push_bytes]
    congr 2
    simp only [bytesOf, List.map_map]
    congr 1
    show #[] ++ _ = _
    simp
theorem zm0 (H : Heap P K X) (hX : X.h = w.heap) (hlk : ∀ id, lk id = X.ob id ∨ lk id = .dead) {nid : Nat} {src dst : TypeId} {a : AV} {va : Value} (ha : RV P X a va) {r : AR} (h : aconv P lk nid src dst a = some r)
    (hn : r.nn = 0) : ValRes P K X w r (convert src dst va) := by
  unfold aconv at h
  split at h
  · rename_i x
    split at h
    · rename_i h1 h2
      unfold sc at h; cases h
      simp only [RV, RS] at ha
      subst ha
      refine .pure H hX rfl ?_ rfl
      simp [convert, run_underlying h1, run_underlying h2, Conv.intToInt]
    · rename_i h1 h2
      unfold sc at h; cases h
      simp only [RV, RS] at ha
      subst ha
      refine .pure H hX rfl ?_ rfl
      simp [convert, run_underlying h1, run_underlying h2]
    · rename_i e z h1 h2
      split at h
      · cases hb : Nat.beq (esz P e) 1 <;> simp [hb] at h
        subst h; simp at hn
      · cases h
    · rename_i e h1 h2
      split at h
      · rename_i e' fr xs ids h3 h4
        cases hb : ((fits e e' && Nat.beq (esz P e) 1) && shal lk ids) <;> simp only [hb, cond_false, cond_true, sc] at h
        · cases h
        cases h
        simp only [Bool.and_eq_true] at hb
        exact zje H hX h1 h2 h3 (zb hb.1.2) (zhu H hlk ha h4 (zgj hb.2) hb.1.1)
      · cases h
    · cases h
  · cases h
theorem zdd {k : CK} {x : AS} {v : Value} (hx : RS P X x v) {c : C} (h : toCk k x = some c) : CellOk (fun _ _ _ => False) k v c := by
  cases k <;> cases x <;> simp only [toCk] at h <;> try (cases h)
  · rename_i k j n
    cases hb : keq k j <;> simp [hb] at h
    subst h
    have := zbz hb; subst this
    exact hx
  · exact hx
  · exact hx
theorem zep {kt : TypeId} {d : TypeDesc} {kk : CK} (hp : plain P kt = some kk) (hu : P.underlying kt = some d) {vt : TypeId} {key : Value} {kc : C} (hk : CellOk (fun _ _ _ => False) kk key kc) : ∀ {es : List (C × C)} {ents : List MapEntry} (i : Nat),
    MapOk P kt vt es ents → ∃ res, Instr.findNow d key ents i = some res ∧ ((res = none ∧ mget kk kc es = none) ∨ ∃ j v c, res = some (i + j, v) ∧ mget kk kc es = some c ∧ CellOk (fun _ _ _ => False) (pk P vt) v c ∧ j < ents.length ∧
        ∀ (v' : Value) (c' : C), CellOk (fun _ _ _ => False) (pk P vt) v' c' → (∀ e, ents[j]? = some e → Instr.sameBits 10000 e.key key = true) ∧ MapOk P kt vt (mput kk kc c' es) (ents.modify j fun e => { e with key := key, val := v' })) ∧
      (res = none → ∀ (v' : Value) (c' : C) (b : Nat), CellOk (fun _ _ _ => False) (pk P vt) v' c' → MapOk P kt vt (mput kk kc c' es) (ents ++ [{ key := key, val := v', born := b }]))
  | [], ents, i, hm => by
    cases hm
    refine ⟨none, rfl, .inl ⟨rfl, rfl⟩, fun _ v' c' b hv => ?_⟩
    have : pk P kt = kk := by simp [pk, hp]
    exact .cons ⟨by rw [this]; exact hk, hv⟩ .nil
  | (k1, v1) :: es, ents, i, hm => by
    cases hm with
    | cons h1 ht =>
      rename_i m ents
      obtain ⟨h1, h2⟩ := h1
      have hpk : pk P kt = kk := by simp [pk, hp]
      rw [hpk] at h1
      have hsame : ∃ b, Instr.sameNow d key m.key = some b ∧ ceq kk kc k1 = b ∧ (b = true → Instr.sameBits 10000 m.key key = true) := by
        rcases zcd hp with ⟨rfl, hu'⟩ | ⟨rfl, hu'⟩ | ⟨j, rfl, hu'⟩ <;> rw [hu'] at hu <;> cases hu <;> simp only [CellOk] at hk h1 <;> rw [hk, h1]
        · exact ⟨_, rfl, rfl, fun h => by have h' := eq_of_beq (show (kc.bool == k1.bool) = true from h); rw [h']; exact beq_self_eq_true k1.bool⟩
        · refine ⟨kc.str == k1.str, rfl, rfl, fun h => ?_⟩
          rw [beq_toListBytes] at h
          have h' := eq_of_beq h
          show (k1.str == kc.str) = true
          rw [beq_toListBytes, h']; exact beq_self_eq_true k1.str.toList
        · refine ⟨kc.int == k1.int, by simp [Instr.sameNow], rfl, fun h => ?_⟩
          have h' := eq_of_beq h
          rw [h']; simp [Instr.sameBits]
      obtain ⟨b, s1, s2, s3⟩ := hsame
      cases b
      · obtain ⟨res, r1, r2, r3⟩ := zep hp hu hk (i + 1) ht
        refine ⟨res, by simp only [Instr.findNow, s1]; exact r1, ?_, fun hn v' c' b hv => ?_⟩
        · have hg : mget kk kc ((k1, v1) :: es) = mget kk kc es := by simp [mget, s2]
          rcases r2 with ⟨a1, a2⟩ | ⟨j, v, c, a1, a2, a3, a4, a5⟩
          · exact .inl ⟨a1, hg.trans a2⟩
          · refine .inr ⟨j + 1, v, c, by rw [a1]; congr 2; omega, hg.trans a2, a3, by simp; omega, fun v' c' hv => ?_⟩
            obtain ⟨b1, b2⟩ := a5 v' c' hv
            refine ⟨fun e he => b1 e (by simpa using he), ?_⟩
            simp only [mput, s2, cond_false, List.modify_succ_cons]
            exact .cons ⟨by rw [hpk]; exact h1, h2⟩ b2
        · simp only [mput, s2, cond_false, List.cons_append]
          exact .cons ⟨by rw [hpk]; exact h1, h2⟩ (r3 hn v' c' b hv)
      · refine ⟨some (i, m.val), by simp only [Instr.findNow, s1], .inr ⟨0, m.val, v1, by simp, by simp [mget, s2], h2, by simp, fun v' c' hv => ⟨fun e he => ?_, ?_⟩⟩, fun hn => by cases hn⟩
        · simp at he; subst he; exact s3 rfl
        · simp only [mput, s2, cond_true, List.modify_zero_cons]
          exact .cons ⟨by rw [hpk]; exact hk, hv⟩ ht
end
end Go.Eng
end
section
namespace Go.Eng
open Go
section
variable {P : Program} {K : Kx} {X : Cx} {w : World} {lk : Lk}
theorem zfl {t : TypeId} {x : AS} {c : C} (h : toCk (pk P t) x = some c) : ∃ k, plain P t = some k ∧ pk P t = k := by
  cases hp : plain P t with
  | none => simp [pk, hp, toCk] at h
  | some k => exact ⟨k, rfl, by simp [pk, hp]⟩
theorem zd1 {kt : TypeId} {kk : CK} (hp : plain P kt = some kk) {key : Value} (b : Bool) (n : Nat) : (Instr.checkKey b (n + 1) kt key).run P w = .ok () w := by
  rcases zcd hp with ⟨_, hu⟩ | ⟨_, hu⟩ | ⟨j, _, hu⟩ <;> simp [Instr.checkKey, run_underlying hu]
theorem zem {r : Nat} {ents : Array MapEntry} {clock : Nat} (h : w.heap[r]? = some (.map ents clock)) : (getObj r).run P w = .ok (.map ents clock) w := by
  simp [getObj, Sem.run, h]
theorem zgz {kt : TypeId} {d : TypeDesc} (hu : P.underlying kt = some d) {key : Value} {l : List MapEntry} {res : Option (Nat × Value)} (h : Instr.findNow d key l 0 = some res) : (Instr.findKey kt key l).run P w = .ok res w := by
  simp [Instr.findKey, run_underlying hu, h]
theorem zg7 {fr : Bool} {k : CK} {v : Value} {c : C} (h : CellOk (fun _ _ _ => False) k v c) : RS P X (ofC k fr c) v := by
  cases k <;> simp only [CellOk] at h <;> simp only [ofC, RS] <;> try exact h
  obtain ⟨_, _, _, _, h⟩ := h; exact h.elim
theorem zle (H : Heap P K X) (hX : X.h = w.heap) (hlk : ∀ id, lk id = X.ob id ∨ lk id = .dead) {t : TypeId} {ok : Bool} {m k : AV} {vm vk : Value} (hm : RV P X m vm) (hk : RV P X k vk) {r : AR} (h : alookup P lk t ok m k = some r) :
    ValRes P K X w r (Instr.lookup t vm vk ok) := by
  unfold alookup at h
  split at h
  · rename_i m k
    split at h
    · rename_i kt vt hu
      split at h
      · rename_i kc zx h1 h2
        split at h
        · cases h
        · rename_i z hz
          obtain ⟨kk, hp, hpk⟩ := zfl h1
          obtain ⟨vkk, hvp, hvpk⟩ := zfl hz
          simp only [RV] at hm hk
          have hkc := zdd hk h1
          rw [hpk] at hkc
          obtain ⟨i, zv, z1, z2, z3⟩ := zdk h2
          have hzr : RS P X zx zv := by
            have := zcy (P := P) (X := X) zv
            rw [← z3] at this; exact this
          have hzc := zdd hzr hz
          have hzv : (zeroValue vt).run P w = .ok zv w := by simp [zeroValue, typeInfo, z1, z2]
          have hud : ∃ d, P.underlying kt = some d := by
            rcases zcd hp with ⟨_, hu⟩ | ⟨_, hu⟩ | ⟨j, _, hu⟩ <;> exact ⟨_, hu⟩
          obtain ⟨d, hud⟩ := hud
          split at h
          · cases h
          · rename_i es hes
            have hents : ∃ ents : Array MapEntry, MapOk P kt vt es ents.toList ∧ ((vm = .map none ∧ ents = #[]) ∨ ∃ r clock, vm = .map (some r) ∧ w.heap[r]? = some (.map ents clock)) := by
              split at hes
              · cases hes
                simp only [RS] at hm
                exact ⟨#[], .nil, .inl ⟨hm, rfl⟩⟩
              · rename_i id
                split at hes
                · rename_i kt' vt' es' hl
                  cases hb : (Nat.beq kt kt' && Nat.beq vt vt') <;> simp [hb] at hes
                  subst hes
                  simp only [Bool.and_eq_true] at hb
                  have e1 := zb hb.1; have e2 := zb hb.2; subst e1 e2
                  have ho := lk_rw hlk hl (by simp)
                  have hk2 := H.ok id
                  unfold AOok at hk2
                  rw [ho] at hk2
                  obtain ⟨ents, clock, a1, a2⟩ := hk2
                  have hv : vm = .map (some (X.β id).blk) := by
                    have := (show RefMp X id _ from hm)
                    unfold RefMp at this
                    rw [ho] at this
                    exact this
                  rw [hX] at a1
                  exact ⟨ents, a2, .inr ⟨_, clock, hv, a1⟩⟩
                · cases hes
              · cases hes
            obtain ⟨ents, hmo, hents⟩ := hents
            obtain ⟨res, r1, r2, _⟩ := zep hp hud hkc 0 hmo
            have hfind := zgz (w := w) hud r1
            have hall : ∃ v b, (res.elim (v, b) fun x => (x.2, true)) = (v, (mget kk kc es).isSome) ∧ (res = none → v = zv ∧ b = false) ∧ CellOk (fun _ _ _ => False) (pk P vt) v ((mget kk kc es).getD z) := by
              rcases r2 with ⟨a1, a2⟩ | ⟨j, v, c, a1, a2, a3, _⟩
              · subst a1
                exact ⟨zv, false, by simp [a2], fun _ => ⟨rfl, rfl⟩, by rw [a2]; exact hzc⟩
              · subst a1
                exact ⟨v, true, by simp [a2], (fun h => by cases h), by rw [a2]; exact a3⟩
            obtain ⟨v, bb, v1, v0, v2⟩ := hall
            have hlook : (Instr.lookup t vm vk ok).run P w = .ok (if ok then .tuple #[v, .bool (mget kk kc es).isSome] else v) w := by
              rcases hents with ⟨rfl, rfl⟩ | ⟨r, clock, rfl, hr⟩
              · unfold Instr.lookup
                simp only [Sem.run_bind, run_underlying hu, Result.andThen_ok, Sem.run_pure, zd1 hp, hfind]
                cases res with
                | none =>
                  obtain ⟨e1, e2⟩ := v0 rfl
                  simp only [Option.elim_none, Prod.mk.injEq, true_and] at v1
                  simp only [Sem.run_bind, hzv, Result.andThen_ok, Sem.run_pure, ← v1, e1, e2]
                | some x =>
                  simp only [Option.elim_some, Prod.mk.injEq] at v1
                  simp only [Sem.run_bind, Result.andThen_ok, Sem.run_pure, v1.1, ← v1.2]
              · unfold Instr.lookup
                simp only [Sem.run_bind, run_underlying hu, Result.andThen_ok, Sem.run_pure, zem hr, zd1 hp, hfind]
                cases res with
                | none =>
                  obtain ⟨e1, e2⟩ := v0 rfl
                  simp only [Option.elim_none, Prod.mk.injEq, true_and] at v1
                  simp only [Sem.run_bind, hzv, Result.andThen_ok, Sem.run_pure, ← v1, e1, e2]
                | some x =>
                  simp only [Option.elim_some, Prod.mk.injEq] at v1
                  simp only [Sem.run_bind, Result.andThen_ok, Sem.run_pure, v1.1, ← v1.2]
            rw [hpk] at h
            split at h
            · unfold AR.pure at h; cases h
              refine .pure H hX rfl hlook ⟨#[v, .bool (mget kk kc es).isSome], rfl, ?_⟩
              exact .cons (.cons (zg7 v2) .nil) (.cons (.cons rfl .nil) .nil)
            · unfold sc at h; cases h
              exact .pure H hX rfl hlook (zg7 v2)
      · cases h
    · cases h
  · cases h
end
end Go.Eng
end
section
namespace Go.Eng
open Go
section
variable {P : Program} {K : Kx} {X : Cx} {w : World} {lk : Lk}
theorem zb2 (w : World) (o : Obj) {b : Nat} (h : b < w.heap.size) : (w.alloc o).heap[b]? = w.heap[b]? := by
  show (w.heap.push o)[b]? = _
  rw [Array.getElem?_push, if_neg (by omega)]
theorem zb7 (w : World) (o : Obj) : (w.alloc o).heap[w.heap.size]? = some o := by
  show (w.heap.push o)[w.heap.size]? = _
  rw [Array.getElem?_push, if_pos rfl]
def locAt (w : World) (cap : Nat) : Loc := ⟨w.heap.size, 0, cap, false⟩
theorem zgv (H : Heap P K X) (hX : X.h = w.heap) {nid : Nat} (hd : X.ob nid = .dead) {cells : List AS} {us : Array Value} {t : TypeId} (hc : ∀ (j : Nat) (x : AS), cells[j]? = some x → ∃ v, us[j]? = some v ∧ RS P X x v) :
    ∃ X', X'.ob = upd X.ob nid (.bx cells) ∧ RV P X' (.sc (.pt nid 0)) (.pointer (some ⟨w.heap.size, 0, none⟩)) ∧ Stp P K X w X' (w.alloc (.cells us t)) := by
  refine ⟨X.new nid (locAt w 0) (.bx cells) (w.alloc (.cells us t)).heap false, rfl, ?_, ?_⟩
  · show RefBx _ nid _
    unfold RefBx
    simp [Cx.new, Loc.ptr, locAt]
  · refine Stp.new H hX hd (by simp) (fun b hb => zb2 w _ hb) rfl rfl rfl rfl (by simp) fun E => ?_
    unfold AOok
    simp only [Cx.new, upd_same]
    refine ⟨us, t, zb7 w _, fun j x hj => ?_⟩
    obtain ⟨v, h1, h2⟩ := hc j x hj
    exact ⟨v, by simpa [locAt] using h1, h2.ext E⟩
theorem zhj (H : Heap P K X) (hX : X.h = w.heap) {nid : Nat} (hd : X.ob nid = .dead) {e : TypeId} {fr : Bool} {xs : Rw} {us : Array Value} {t : TypeId} {cap : Nat} (h1 : xs.length ≤ cap) (h2 : cap * esz P e ≤ us.size)
    (h3 : RowAt P (Con P X.h (X.F fr) 7) e us 0 xs) {w1 : World} (hh : w1.heap = w.heap) (ho : w1.os = w.os) (ht : w1.tape = w.tape) (hp : w1.output = w.output) :
    ∃ X', X'.ob = upd X.ob nid (.rw e fr xs 0) ∧ RV P X' (.sc (.ow nid 0)) (.slice (some ⟨w.heap.size, 0, none⟩) xs.length cap) ∧ Stp P K X w X' (w1.alloc (.cells us t)) := by
  refine ⟨X.new nid (locAt w cap) (.rw e fr xs 0) (w1.alloc (.cells us t)).heap false, rfl, ?_, ?_⟩
  · refine ⟨⟨_, _, _, rfl⟩, ?_⟩
    unfold RefRw
    simp [Cx.new, locAt, slAddr]
  · refine Stp.new H hX hd (by simp [hh]) (fun b hb => (zb2 w1 _ (by rw [hh]; exact hb)).trans (by rw [hh])) ho ht hp rfl (by simp) fun E => ?_
    unfold AOok
    simp only [Cx.new, upd_same]
    have hsz : w1.heap.size = w.heap.size := by rw [hh]
    refine .inr ⟨rfl, h1, fun _ => ?_, us, t, ?_, by simpa [locAt] using h2, ?_⟩
    · show _ ≤ w.heap.size; rw [← hX]; exact H.sz
    · show (w1.alloc _).heap[w.heap.size]? = _; rw [← hsz]; exact zb7 w1 _
    · exact h3.mono fun _ _ _ hx => Con.mono (E.F fr) (E.h fr) hx
theorem zl (f : Nat → AO) (n : Nat) (o : AO) : updl f [(n, o)] = upd f n o := by rw [zy, updl_nil]
theorem zhp {a : AV} {va : Value} (h : RV P X a va) : ∀ (j : Nat) (x : AS), a.cells[j]? = some x → ∃ v, va.cells[j]? = some v ∧ RS P X x v := by
  intro j x hj
  have hne : a.cells ≠ [] := fun e => by rw [e] at hj; simp at hj
  obtain ⟨v, h1, h2⟩ := (h.cells hne).get hj
  exact ⟨v, by simpa using h1, h2⟩
theorem zlg (H : Heap P K X) (hX : X.h = w.heap) {nid : Nat} (hd : X.ob nid = .dead) {t : TypeId} {z : AV} (hz : zero P t = some z) (old : Value) :
    ValRes P K X w ⟨[], .sc (.pt nid 0), [(nid, .bx z.cells)], 1⟩ (Instr.alloc t true old) := by
  obtain ⟨i, zv, h1, h2, h3⟩ := zdk hz
  have hr : RV P X z zv := by rw [h3]; exact zcy zv
  obtain ⟨X', a1, a2, a3⟩ := zgv (t := t) H hX hd (zhp hr)
  refine ⟨_, _, X', ?_, a1.trans (zl _ _ _).symm, a2, a3⟩
  simp [Instr.alloc, zeroValue, typeInfo, h1, h2, newVar, newRow]
theorem zmb (H : Heap P K X) (hX : X.h = w.heap) {nid : Nat} (hd : X.ob nid = .dead) {t : TypeId} {a : AV} {va : Value} (ha : RV P X a va) :
    ValRes P K X w ⟨[], .sc (.pt nid 0), [(nid, .bx a.cells)], 1⟩ (Instr.box t va) := by
  obtain ⟨X', a1, a2, a3⟩ := zgv (t := t) H hX hd (zhp ha)
  refine ⟨_, _, X', ?_, a1.trans (zl _ _ _).symm, a2, a3⟩
  simp [Instr.box, newVar, newRow]
theorem zju (H : Heap P K X) (hX : X.h = w.heap) {nid : Nat} (hd : X.ob nid = .dead) {t kt vt : TypeId} : ValRes P K X w ⟨[], .sc (.mp nid), [(nid, .mp kt vt [])], 1⟩ (Instr.makeMap t none) := by
  refine ⟨.map (some w.heap.size), w.alloc (.map #[] 0), X.new nid (locAt w 0) (.mp kt vt []) (w.alloc (.map #[] 0)).heap false, ?_, (zl _ _ _).symm, ?_, ?_⟩
  · simp [Instr.makeMap]
  · show RefMp _ nid _
    unfold RefMp
    simp [Cx.new, locAt]
  · refine Stp.new H hX hd (by simp) (fun b hb => zb2 w _ hb) rfl rfl rfl rfl (by simp) fun E => ?_
    unfold AOok
    simp only [Cx.new, upd_same]
    exact ⟨#[], 0, zb7 w _, .nil⟩
def Cx.wrt (X : Cx) (id : Nat) (l : Loc) (o : AO) (h : Array Obj) : Cx := ⟨upd X.β id l, X.F, upd X.ob id o, h, X.γ⟩
theorem InB.no {X : Cx} {id b : Nat} (hd : (X.ob id).isD = false) (h : InB X id b) : False := by
  unfold InB at h
  split at h
  · rename_i hob; rw [hob] at hd; cases hd
  · exact h
theorem Stp.writeD {id : Nat} {w' : World} {l : Loc} {o : AO} (H : Heap P K X) (hX : X.h = w.heap) (hown : Own X id) (hsz : w'.heap.size = w.heap.size) (hoth : ∀ b, b ≠ (X.β id).blk → w'.heap[b]? = w.heap[b]?)
    (h1 : w'.os = w.os) (h2 : w'.tape = w.tape) (h3 : w'.output = w.output) (hl : l.blk = (X.β id).blk) (hk : Keeps X (X.wrt id l o w'.heap) id) (ok : Ext X (X.wrt id l o w'.heap) → AOok P K (X.wrt id l o w'.heap) id)
    (hb : ∀ cells, X.ob id = .bx cells → BoxK X (X.wrt id l o w'.heap) id cells.length) (hi : ∀ b, InB (X.wrt id l o w'.heap) id b → InB X id b) : Stp P K X w (X.wrt id l o w'.heap) w' := by
  have T : Turn P K X (X.wrt id l o w'.heap) (fun i => i = id) := by
    refine ⟨fun fr b h => h, H.Fle, H.Ffr, fun b h => .inl h, ?_, fun b hb hno => ?_, fun i h => zh _ _ h, fun i h => zh _ _ h, fun i h => rfl, fun i h => h ▸ hk, fun i b h ho => ?_, fun i i' b h h' _ _ => h.trans h'.symm⟩
    · show _ ≤ w'.heap.size; rw [hsz, hX]; exact Nat.le_refl _
    · show w'.heap[b]? = _; rw [hX]; exact hoth b fun e => hno id rfl (e ▸ hown.has)
    · subst h
      have : ((X.wrt i l o w'.heap).β i).blk = (X.β i).blk := by simp [Cx.wrt, hl]
      have hh : Has X i b := ⟨hown, ho.2.imp (fun h => by rw [h, this]) (hi b)⟩
      exact ⟨.inr ⟨i, rfl, hh⟩, H.nF i _ hh⟩
  refine T.stp H (fun i h => ?_) rfl h1 h2 h3 (fun i cells h hc => ?_)
  · subst h; exact ok (T.ext H)
  · subst h; exact hb cells hc
theorem Stp.write {id : Nat} {w' : World} {l : Loc} {o : AO} (H : Heap P K X) (hX : X.h = w.heap) (hown : Own X id) (hsz : w'.heap.size = w.heap.size) (hoth : ∀ b, b ≠ (X.β id).blk → w'.heap[b]? = w.heap[b]?)
    (h1 : w'.os = w.os) (h2 : w'.tape = w.tape) (h3 : w'.output = w.output) (hl : l.blk = (X.β id).blk) (hk : Keeps X (X.wrt id l o w'.heap) id) (ok : Ext X (X.wrt id l o w'.heap) → AOok P K (X.wrt id l o w'.heap) id)
    (hb : ∀ cells, X.ob id = .bx cells → BoxK X (X.wrt id l o w'.heap) id cells.length) (hnd : o.isD = false := by rfl) : Stp P K X w (X.wrt id l o w'.heap) w' :=
  Stp.writeD H hX hown hsz hoth h1 h2 h3 hl hk ok hb fun b h => (InB.no (by simp [Cx.wrt]; exact hnd) h).elim
theorem zd7 (o : Nat) (c d : C) : ∀ (l : List C) (n : Nat), (setAt l n c).getD o (.i 0) = if o = n then c else l.getD o (.i 0)
  | [], 0 => by cases o <;> simp [setAt]
  | [], n + 1 => by
    cases o with
    | zero => simp [setAt]
    | succ o =>
      have := zd7 o c d [] n
      simp only [setAt, List.getD_cons_succ, this, Nat.add_right_cancel_iff]
      simp
  | x :: l, 0 => by cases o <;> simp [setAt]
  | x :: l, n + 1 => by
    cases o with
    | zero => simp [setAt]
    | succ o =>
      have := zd7 o c d l n
      simp only [setAt, List.getD_cons_succ, this, Nat.add_right_cancel_iff]
theorem zbn (xs : Rw) (i o : Nat) (c : C) : (wr xs i o c).length = xs.length := by simp [wr]
theorem rd_wr {xs : Rw} {i o j p : Nat} {c : C} (hi : i < xs.length) : rd (wr xs i o c) j p = if j = i ∧ p = o then c else rd xs j p := by
  unfold rd wr
  by_cases hj : j = i
  · subst hj
    have : (xs.set j (setAt (xs.getD j []) o c)).getD j [] = setAt (xs.getD j []) o c := by
      rw [List.getD_eq_getElem?_getD, List.getElem?_set_self hi, Option.getD_some]
    rw [this, zd7 p c c]
    simp
  · have : (xs.set i (setAt (xs.getD i []) o c)).getD j [] = xs.getD j [] := by
      rw [List.getD_eq_getElem?_getD, List.getElem?_set_ne (Ne.symm hj), ← List.getD_eq_getElem?_getD]
    rw [this]
    simp [hj]
theorem zo : ∀ (cs : List C) (xs : Rw) (i o : Nat), (wrs xs i o cs).length = xs.length
  | [], _, _, _ => rfl
  | c :: cs, xs, i, o => by rw [wrs, zo, zbn]
theorem zcf {i : Nat} : ∀ (cs : List C) {xs : Rw} {o j p : Nat}, i < xs.length → rd (wrs xs i o cs) j p = if j = i ∧ o ≤ p ∧ p < o + cs.length then cs.getD (p - o) (.i 0) else rd xs j p
  | [], xs, o, j, p, hi => by simp [wrs]; omega
  | c :: cs, xs, o, j, p, hi => by
    rw [wrs, zcf cs (by rw [zbn]; exact hi), rd_wr hi]
    by_cases hj : j = i
    · by_cases hp : o + 1 ≤ p ∧ p < o + 1 + cs.length
      · have h1 : j = i ∧ o ≤ p ∧ p < o + (c :: cs).length := ⟨hj, by omega, by simp; omega⟩
        rw [if_pos ⟨hj, hp⟩, if_pos h1, show p - o = (p - (o + 1)) + 1 by omega, List.getD_cons_succ]
      · rw [if_neg (fun h => hp h.2)]
        by_cases hpo : p = o
        · rw [if_pos ⟨hj, hpo⟩, if_pos ⟨hj, by omega, by simp; omega⟩, hpo, Nat.sub_self, List.getD_cons_zero]
        · rw [if_neg (fun h => hpo h.2), if_neg (fun h => by simp at h; omega)]
    · rw [if_neg (fun h => hj h.1), if_neg (fun h => hj h.1), if_neg (fun h => hj h.1)]
end
end Go.Eng
end
section
namespace Go.Eng
open Go
section
variable {P : Program} {K : Kx} {X : Cx} {w : World} {lk : Lk}
def splice (cs : Array Value) (o : Nat) (vs : List Value) : Array Value := (cs.toList.take o ++ vs ++ cs.toList.drop (o + vs.length)).toArray
theorem zz {cs : Array Value} {o : Nat} {vs : List Value} (h : o + vs.length ≤ cs.size) (c : Nat) : (splice cs o vs)[c]? = if o ≤ c ∧ c < o + vs.length then vs[c - o]? else cs[c]? := by
  have hl : cs.toList.length = cs.size := by simp
  have ht : (cs.toList.take o).length = o := by simp; omega
  unfold splice
  rw [List.getElem?_toArray, List.append_assoc]
  by_cases h1 : c < o
  · rw [List.getElem?_append_left (by omega), List.getElem?_take_of_lt h1, if_neg (by omega)]; simp
  · rw [List.getElem?_append_right (by omega), ht]
    by_cases h2 : c < o + vs.length
    · rw [List.getElem?_append_left (by omega), if_pos ⟨by omega, h2⟩]
    · rw [List.getElem?_append_right (by omega), if_neg (by omega), List.getElem?_drop, show o + vs.length + (c - o - vs.length) = c by omega]; simp
theorem zcl {cs : Array Value} {o : Nat} {vs : List Value} (h : o + vs.length ≤ cs.size) : (splice cs o vs).size = cs.size := by
  have hl : cs.toList.length = cs.size := by simp
  simp [splice]; omega
theorem ze8 : ∀ {ps : List AS} {xs : List AS} {o j : Nat}, o + ps.length ≤ xs.length → (setMany xs o ps)[j]? = if o ≤ j ∧ j < o + ps.length then ps[j - o]? else xs[j]?
  | [], xs, o, j, h => by simp [setMany]; intro a b; omega
  | p :: ps, xs, o, j, h => by
    simp at h
    rw [setMany, ze8 (by simp; omega)]
    by_cases h1 : o + 1 ≤ j ∧ j < o + 1 + ps.length
    · rw [if_pos h1, if_pos ⟨by omega, by simp; omega⟩, show j - o = (j - (o + 1)) + 1 by omega, List.getElem?_cons_succ]
    · rw [if_neg h1]
      by_cases h2 : j = o
      · subst h2
        rw [if_pos ⟨Nat.le_refl _, by simp⟩, Nat.sub_self, List.getElem?_set_self (by omega)]; simp
      · rw [if_neg (by simp; omega), List.getElem?_set_ne (Ne.symm h2)]
theorem zdl {t : TypeId} {va : Value} (hs : va.cells.size = esz P t) (h0 : 0 < esz P t) {g o : Nat} {cur : Array Value} {ty : TypeId} (hg : w.heap[g]? = some (.cells cur ty (0, 0))) (hl : o + va.cells.size ≤ cur.size)
    (h1 : ∀ v ∈ va.cells.toList, v.oneCell' = true) : (storeVar t ⟨g, o, none⟩ va).run P w = .ok () (w.setRow g (splice cur o va.cells.toList)) := by
  have hsz : (sizeOf t).run P w = .ok (esz P t) w := zdv (by omega) w
  have hst := run_storeCells_at P g o ty va.cells.toList 0 cur w hg (by simpa using hl) h1
  simp only [Nat.add_zero] at hst
  simp only [storeVar, Sem.run_bind, hsz, Result.andThen_ok]
  rw [if_neg (by omega)]
  exact hst
theorem zl2 {xs : List AS} {vs : List Value} (h : RSs P X xs vs) (h1 : xs.all AS.one = true) : ∀ v ∈ vs, v.oneCell' = true := by
  induction h with
  | nil => intro v hv; simp at hv
  | cons hx _ ih =>
    simp only [List.all_cons, Bool.and_eq_true] at h1
    intro v hv
    rcases List.mem_cons.1 hv with rfl | hv
    · exact (hx.one h1.1).1
    · exact ih h1.2 v hv
theorem ze4 {s i j p q : Nat} (hp : p < s) (hq : q < s) (h : i * s + p = j * s + q) : i = j ∧ p = q := by
  have h0 : 0 < s := by omega
  have e1 : (i * s + p) / s = i := by rw [Nat.mul_comm, Nat.mul_add_div h0, Nat.div_eq_of_lt hp, Nat.add_zero]
  have e2 : (j * s + q) / s = j := by rw [Nat.mul_comm, Nat.mul_add_div h0, Nat.div_eq_of_lt hq, Nat.add_zero]
  have : i = j := by rw [← e1, h, e2]
  subst this
  exact ⟨rfl, by omega⟩
def UnitRes (P : Program) (K : Kx) (X : Cx) (w : World) (r : AR) (s : Sem Unit) : Prop :=
  r.v = .sc .ud ∧ ∃ w' X', s.run P w = .ok () w' ∧ X'.ob = updl X.ob r.ws ∧ Stp P K X w X' w'
theorem F_low {H : Heap P K X} {a b : Bool} (h : b = true → a = true) {n : Nat} (hf : X.F a n) : X.F b n := by
  cases a <;> cases b <;> first | exact hf | exact H.Fle n hf | (exact absurd (h rfl) (by simp))
theorem zdm {ob : Nat → AO} {ids : List Nat} {id : Nat} (h : id ∉ ids) : updl ob (frz lk ids) id = ob id := by
  show look (ob id) (frz lk ids) id = ob id
  induction ids with
  | nil => rfl
  | cons y r ih =>
    have hne : y ≠ id := fun e => h (by simp [e])
    have ihr := ih fun e => h (by simp [e])
    unfold frz
    split
    · simp only [look, zn hne, cond_false, ihr]
    · rename_i lo _ _
      cases Nat.beq lo 0 <;> simp only [look, zn hne, cond_false, cond_true, ihr]
    · exact ihr
theorem zcw {l : List Nat} {n : Nat} : has l n = true ↔ n ∈ l := by
  induction l with
  | nil => simp [has]
  | cons k r ih =>
    simp only [has, List.mem_cons]
    cases hb : Nat.beq k n
    · have hne : k ≠ n := fun e => by subst e; simp at hb
      simp only [cond_false, ih]
      exact ⟨.inr, fun h => h.resolve_left (Ne.symm hne)⟩
    · simp [(zb hb).symm]
theorem Dk.col {e : TypeId} {c : Option (Nat × TypeId)} (hd : Dk P e c) {p : Nat} {e2 : TypeId} (h : ck P e p = .sl e2) : ∃ e', c = some (p, e') := by
  unfold Dk at hd
  cases c with
  | none =>
    have hm := zbc h (by simp)
    unfold flat at hd
    simp only [List.all_eq_true] at hd
    have := hd _ hm
    simp at this
  | some x =>
    obtain ⟨k, e'⟩ := x
    have := hd.2.2.2 p e2 h
    subst this
    exact ⟨e', rfl⟩
theorem zhd {k : Nat} {e' : TypeId} {o n p : Nat} (h : offCol (some (k, e')) o n = true) (h1 : o ≤ p) (h2 : p < o + n) : p ≠ k := by
  simp only [offCol, Bool.or_eq_true] at h
  rcases h with h | h <;> have := Nat.le_of_ble_eq_true h <;> omega
theorem zil {k : CK} {x : AS} {v : Value} {c : C} {f : Bool} {ids : List Nat} (hk : ∀ e', k ≠ .sl e') (hr : RS P X x v) (h : toC P lk k x = some (c, f, ids)) : CellOk (fun _ _ _ => False) k v c := by
  cases k with
  | i k1 =>
    cases x <;> simp only [toC] at h <;> try (cases h)
    rename_i k2 n
    cases hq : keq k1 k2 <;> simp only [hq, cond_false, cond_true] at h
    · cases h
    cases h
    have := of_decide_eq_true hq
    subst this
    exact hr
  | b =>
    cases x <;> simp only [toC] at h <;> try (cases h)
    exact hr
  | s =>
    cases x <;> simp only [toC] at h <;> try (cases h)
    exact hr
  | sl e' => exact absurd rfl (hk e')
  | x => cases x <;> simp only [toC] at h <;> cases h
theorem zfc (hlk : ∀ id, lk id = X.ob id ∨ lk id = .dead) {e : TypeId} : ∀ {xs : List AS} {us : List Value} {o : Nat} {row : List C} {q : Option (Nat × TypeId × Nat)}, RSs P X xs us → toD P lk e o xs = some (row, q) →
    row.length = xs.length ∧
    (∀ i c, row[i]? = some c → ∃ v, us[i]? = some v ∧ match ck P e (o + i) with
      | .sl e' => ∃ j ys ser iv, q = some (o + i, e', j) ∧ c = .l ys ∧ X.ob j = .dw e' none ys ser 0 iv ∧ flat P e' = true ∧ v = .slice (slAddr P e' (X.β j) 0) ys.length (X.β j).cap
      | k => CellOk (fun _ _ _ => False) k v c) ∧
    (∀ o' e' j, q = some (o', e', j) → o ≤ o' ∧ o' < o + xs.length ∧ ck P e o' = .sl e')
  | [], us, o, row, q, hr, h => by
    simp [toD] at h; obtain ⟨rfl, rfl⟩ := h
    exact ⟨rfl, fun i c hc => by simp at hc, fun o' e' j hq => by cases hq⟩
  | x :: xs, us, o, row, q, hr, h => by
    cases hr with
    | cons hx ht =>
    rename_i u us
    simp only [toD] at h
    split at h
    · cases h
    · rename_i cs q1 h1
      obtain ⟨t1, t2, t3⟩ := zfc hlk ht h1
      split at h
      · rename_i e' hk
        split at h
        · rename_i j m
          split at h
          · rename_i e2 ys ser lo iv hl
            cases hq : ((Nat.beq e' e2 && flat P e') && (Nat.beq m ser && Nat.beq lo 0)) <;> simp only [hq, cond_false, cond_true] at h
            · cases h
            cases h
            simp only [Bool.and_eq_true] at hq
            have he := zb hq.1.1; subst he
            have hlo := zb hq.2.2; subst hlo
            have ho := lk_rw hlk hl (by simp)
            have hv := (show RS P X (.ow j m) u from hx).2.getD ho (zb hq.2.1)
            refine ⟨by simp [t1], fun i c hc => ?_, fun o' e' j hq => by cases hq; exact ⟨Nat.le_refl _, by simp, hk⟩⟩
            cases i with
            | zero =>
              simp at hc; subst hc
              refine ⟨u, by simp, ?_⟩
              rw [Nat.add_zero, hk]
              exact ⟨j, ys, ser, iv, rfl, rfl, ho, hq.1.2, hv⟩
            | succ i =>
              obtain ⟨v, a, b⟩ := t2 i c (by simpa using hc)
              refine ⟨v, by simpa using a, ?_⟩
              rw [show o + (i + 1) = o + 1 + i by omega]
              cases hkk : ck P e (o + 1 + i) <;> rw [hkk] at b <;> try exact b
              obtain ⟨_, _, _, _, hb, _⟩ := b
              cases hb
          · cases h
        · cases h
      · rename_i k hk
        split at h
        · rename_i c f hc
          cases h
          refine ⟨by simp [t1], fun i c hc' => ?_, fun o' e' j hq => by have := t3 _ _ _ hq; exact ⟨by omega, by simp; omega, this.2.2⟩⟩
          cases i with
          | zero =>
            simp at hc'; subst hc'
            refine ⟨u, by simp, ?_⟩
            rw [Nat.add_zero]
            have := zil (k := ck P e o) (fun e' => hk e') hx hc
            cases hkk : ck P e o <;> rw [hkk] at this <;> first | exact this | exact absurd hkk (hk _)
          | succ i =>
            obtain ⟨v, a, b⟩ := t2 i c (by simpa using hc')
            refine ⟨v, by simpa using a, ?_⟩
            rw [show o + (i + 1) = o + 1 + i by omega]
            exact b
        · cases h
theorem zjc (H : Heap P K X) (hX : X.h = w.heap) {id j k ix o : Nat} {e e' : TypeId} {xs ys : Rw} {ser iv ser2 iv2 : Nat} (ho : X.ob id = .dw e (some (k, e')) xs ser 0 iv) (hoj : X.ob j = .dw e' none ys ser2 0 iv2) (hne : j ≠ id) (hix : ix < xs.length) (hnil : (X.β id).nil = false)
    {cs : List C} {vs : List Value} (hfe : o + cs.length ≤ esz P e) (hlen : vs.length = cs.length) (hk1 : o ≤ k) (hk2 : k < o + cs.length)
    (t2 : ∀ i c, cs[i]? = some c → ∃ v, vs[i]? = some v ∧ match ck P e (o + i) with
      | .sl e2 => v = .slice (slAddr P e2 (X.β j) 0) ys.length (X.β j).cap ∧ c = .l ys
      | kk => CellOk (fun _ _ _ => False) kk v c) :
    ∃ cur ty X', w.heap[(X.β id).blk]? = some (.cells cur ty (0, 0)) ∧ (X.β id).off + ix * esz P e + o + vs.length ≤ cur.size ∧ X'.ob = upd (upd X.ob j .gone) id (.dw e (some (k, e')) (wrs xs ix o cs) ser 0 (iv + most)) ∧
      Stp P K X w X' (w.setRow (X.β id).blk (splice cur ((X.β id).off + ix * esz P e + o) vs)) := by
  have hok := H.ok id
  unfold AOok at hok
  rw [ho] at hok
  obtain ⟨⟨d1, d2, d3, d4⟩, ⟨hn, _⟩ | ⟨_, q1, q2, ⟨cur, ty, q3, q4, q5⟩, q6⟩⟩ := hok
  · rw [hnil] at hn; cases hn
  have hokj := H.ok j
  unfold AOok at hokj
  rw [hoj] at hokj
  obtain ⟨_, hokj⟩ := hokj
  have hown : Own X id := by unfold Own; rw [ho]; exact hnil
  have hownj : (X.β j).nil = false → Own X j := fun h => by unfold Own; rw [hoj]; exact h
  have hg : w.heap[(X.β id).blk]? = some (.cells cur ty (0, 0)) := by rw [← hX]; exact q3
  have hfit : (X.β id).off + ix * esz P e + o + vs.length ≤ cur.size := by
    have h3 : (ix + 1) * esz P e ≤ (X.β id).cap * esz P e := Nat.mul_le_mul_right _ (by omega)
    rw [Nat.add_mul] at h3
    omega
  have hnew := setRow_heap w (X.β id).blk cur (splice cur ((X.β id).off + ix * esz P e + o) vs) ty (0, 0) hg
  let w' := w.setRow (X.β id).blk (splice cur ((X.β id).off + ix * esz P e + o) vs)
  let γn : Nat → Loc := fun i => if i = ix then X.β j else X.γ id i
  let X' : Cx := ⟨X.β, X.F, upd (upd X.ob j .gone) id (.dw e (some (k, e')) (wrs xs ix o cs) ser 0 (iv + most)), w'.heap, upd X.γ id γn⟩
  have hob : X'.ob id = .dw e (some (k, e')) (wrs xs ix o cs) ser 0 (iv + most) := upd_same _ _ _
  have hobj : X'.ob j = .gone := (zh _ _ hne).trans (upd_same _ _ _)
  have hγ : X'.γ id = γn := upd_same _ _ _
  have hoth : ∀ b, b ≠ (X.β id).blk → X'.h[b]? = X.h[b]? := fun b hb => by rw [hX]; exact setRow_other _ _ _ _ hb
  have hγx : γn ix = X.β j := if_pos rfl
  have hγo : ∀ i, i ≠ ix → γn i = X.γ id i := fun i h => if_neg h
  have hnew' : ∀ b, Has X' id b → Has X id b ∨ ((X.β j).nil = false ∧ b = (X.β j).blk) := by
    intro b ⟨_, k2⟩
    rcases k2 with k2 | k2
    · exact .inl ⟨hown, .inl k2⟩
    · unfold InB at k2
      rw [hob, hγ] at k2
      obtain ⟨k', e2, hc, i, i0, i1, i2, i3⟩ := k2
      rw [zo] at i1
      by_cases h : i = ix
      · subst h
        rw [hγx] at i2 i3
        exact .inr ⟨i2, i3⟩
      · rw [hγo i h] at i2 i3
        rw [i3]
        exact .inl ⟨hown, .inr (InB.of ho i0 i1 i2)⟩
  have hgone : ∀ b, ¬ Has X' j b := fun b ⟨k, _⟩ => by unfold Own at k; rw [hobj] at k; exact k
  have hjb : (X.β j).nil = false → (X.β j).blk ≠ (X.β id).blk := fun h hq => hne (H.inj j id _ (hownj h).has (hq ▸ hown.has))
  have hin : ∀ i, i < xs.length → (X.γ id i).nil = false → X'.h[(X.γ id i).blk]? = X.h[(X.γ id i).blk]? := fun i h1 h2 => hoth _ (q6 k e' rfl i (Nat.zero_le _) h1 h2).1
  have T : Turn P K X X' (fun i => i = id ∨ i = j) := by
    refine ⟨fun fr b h => h, H.Fle, H.Ffr, fun b h => .inl h, ?_, fun b hb hno => hoth b fun hq => hno id (.inl rfl) (hq ▸ hown.has), fun i h => ?_, fun i h => rfl, fun i h => zh _ _ fun q => h (.inl q), fun i h => ?_, fun i b h hb => ?_, fun i i' b h h' m m' => ?_⟩
    · show _ ≤ (w.setRow _ _).heap.size
      rw [hX]; simp
    · exact (zh _ _ fun q => h (.inl q)).trans (zh _ _ fun q => h (.inr q))
    · rcases h with rfl | rfl
      · unfold Keeps; rw [ho]
        exact .inr (.inr (.inl ⟨_, _, _, _, hob, Nat.le_refl _, by omega, fun _ => ⟨zo _ _ _ _, rfl, fun h => by unfold most at h; omega⟩, fun h => by unfold most at h; omega⟩))
      · unfold Keeps; rw [hoj]; exact .inl hobj
    · rcases h with rfl | rfl
      · rcases hnew' b hb with q | ⟨q, rfl⟩
        · exact ⟨.inr ⟨i, .inl rfl, q⟩, H.nF i b q⟩
        · exact ⟨.inr ⟨j, .inr rfl, (hownj q).has⟩, H.nF j _ (hownj q).has⟩
      · exact (hgone b hb).elim
    · rcases h with rfl | rfl <;> rcases h' with rfl | rfl
      · rfl
      · exact (hgone b m').elim
      · exact (hgone b m).elim
      · rfl
  refine ⟨cur, ty, X', hg, hfit, rfl, T.stp H (fun i h => ?_) rfl rfl rfl rfl (fun i cells h hc => ?_)⟩
  · rcases h with rfl | rfl
    · unfold AOok
      rw [hob, hγ, show X'.β i = X.β i from rfl]
      refine ⟨⟨d1, d2, d3, d4⟩, .inr ⟨hnil, by rw [zo]; exact q1, Nat.zero_le _, ⟨_, ty, hnew, by rw [zcl hfit]; exact q4, fun n _ hn p hp => ?_⟩, fun k' e2 hc n n0 n1 n2 => ?_⟩⟩
      · rw [zo] at hn
        rw [zcf cs hix]
        by_cases hr : n = ix ∧ o ≤ p ∧ p < o + cs.length
        · rw [if_pos hr]
          obtain ⟨rfl, r1, r2⟩ := hr
          have hget : cs[p - o]? = some (cs.getD (p - o) (.i 0)) := by
            have : p - o < cs.length := by omega
            simp [List.getD_eq_getElem?_getD, this]
          obtain ⟨v, v1, v2⟩ := t2 (p - o) _ hget
          rw [show o + (p - o) = p by omega] at v2
          refine ⟨v, ?_, ?_⟩
          · rw [zz hfit, if_pos ⟨by omega, by omega⟩, ← v1]; congr 1; omega
          · rw [hγx]
            cases hk : ck P e p <;> rw [hk] at v2 <;> try exact v2
            rename_i e2
            have hpk := d4 _ _ hk
            subst hpk
            rw [hk] at d2; cases d2
            obtain ⟨u1, u2⟩ := v2
            rw [u1, u2]
            show Inner P _ _ _ _ ys
            rcases hokj with ⟨z1, z2, z3⟩ | ⟨z1, z2, z3, ⟨cs', ty', z4, z5, z6⟩, z7⟩
            · exact .inl ⟨z1, z2, z3, by rw [z2, z3]; simp [slAddr, z1]⟩
            · refine .inr ⟨z1, by simp [slAddr, z1], z2, cs', ty', (hoth _ (hjb z1)).trans z4, z5, fun m hm o2 ho2 => ?_⟩
              obtain ⟨u, a, b⟩ := z6 m (Nat.zero_le _) hm o2 ho2
              refine ⟨u, a, ?_⟩
              cases hk2 : ck P e' o2 <;> rw [hk2] at b <;> try exact b
              have hm := zbc hk2 (by simp)
              unfold flat at d3
              simp only [List.all_eq_true] at d3
              have := d3 _ hm
              simp at this
        · rw [if_neg hr]
          obtain ⟨v, v1, v2⟩ := q5 n (Nat.zero_le _) hn p hp
          refine ⟨v, ?_, ?_⟩
          · rw [zz hfit, if_neg ?_]
            · exact v1
            · rintro ⟨z1, z2⟩
              apply hr
              have hq : ∃ q, o ≤ q ∧ q < o + vs.length ∧ n * esz P e + p = ix * esz P e + q := ⟨n * esz P e + p - ix * esz P e, by omega, by omega, by omega⟩
              obtain ⟨q, g1, g2, g3⟩ := hq
              obtain ⟨rfl, rfl⟩ := ze4 hp (by omega) g3
              exact ⟨rfl, g1, by omega⟩
          · cases hk : ck P e p <;> rw [hk] at v2 <;> try exact v2
            rename_i e2
            have hpk := d4 _ _ hk
            have hnx : n ≠ ix := fun h => hr ⟨h, by omega, by omega⟩
            rw [hγo n hnx]
            exact v2.keep fun h => hin n hn h
      · rw [zo] at n1
        cases hc
        have other : ∀ m, m < xs.length → m ≠ ix → (X.γ i m).nil = false → (X.β j).nil = false → (X.β j).blk ≠ (X.γ i m).blk := fun m h1 h2 h3 h4 hq =>
          hne (H.inj j i _ (hownj h4).has (hq ▸ ⟨hown, .inr (InB.of ho (Nat.zero_le _) h1 h3)⟩))
        by_cases h : n = ix
        · subst h
          rw [hγx] at n2 ⊢
          refine ⟨hjb n2, fun m _ m1 m2 m3 => ?_⟩
          rw [zo] at m1
          by_cases h2 : m = n
          · exact h2.symm
          · rw [hγo m h2] at m2 m3
            exact absurd m3 (other m m1 h2 m2 n2)
        · rw [hγo n h] at n2 ⊢
          obtain ⟨r1, r2⟩ := q6 k e' rfl n n0 n1 n2
          refine ⟨r1, fun m m0 m1 m2 m3 => ?_⟩
          rw [zo] at m1
          by_cases h2 : m = ix
          · subst h2
            rw [hγx] at m2 m3
            exact absurd m3.symm (other n n1 h n2 m2)
          · rw [hγo m h2] at m2 m3
            exact r2 m m0 m1 m2 m3
    · unfold AOok; rw [hobj]; trivial
  · rcases h with rfl | rfl
    · rw [ho] at hc; cases hc
    · rw [hoj] at hc; cases hc
theorem zml (H : Heap P K X) (hX : X.h = w.heap) (hlk : ∀ id, lk id = X.ob id ∨ lk id = .dead) {t : TypeId} {a x : AV} {va vx : Value} (ha : RV P X a va) (hx : RV P X x vx) {r : AR} (h : astore P lk t a x = some r) :
    UnitRes P K X w r (Instr.storeAt t va vx) := by
  unfold astore at h
  cases hc : (!x.cells.isEmpty && (Nat.beq x.cells.length (esz P t) && x.cells.all AS.one)) <;> simp only [hc, cond_false, cond_true] at h
  · cases h
  simp only [Bool.and_eq_true, Bool.not_eq_true', List.isEmpty_eq_false_iff] at hc
  obtain ⟨c1, c2, c3⟩ := hc
  have hcs := hx.cells c1
  have hlen : vx.cells.size = esz P t := by have := hcs.length; rw [zb c2] at this; simpa using this.symm
  have hpos : 0 < esz P t := by rw [← zb c2]; exact List.length_pos_iff.2 c1
  have hone := zl2 hcs c3
  have hl2 : vx.cells.toList.length = x.cells.length := hcs.length.symm
  split at h
  · rename_i id off
    split at h
    · rename_i cells hl
      have ho := lk_rw hlk hl (by simp)
      cases hb : Nat.ble (off + x.cells.length) cells.length <;> simp [hb] at h
      subst h
      have hb := Nat.le_of_ble_eq_true hb
      have hv := (show RefBx X id _ from ha).get
      subst hv
      have hok := H.ok id
      unfold AOok at hok
      rw [ho] at hok
      obtain ⟨cs, ty, h1, h2⟩ := hok
      have hown : Own X id := by unfold Own; rw [ho]; trivial
      have hfit : (X.β id).off + off + vx.cells.toList.length ≤ cs.size := by
        have hlt : off + x.cells.length - 1 < cells.length := by
          have := List.length_pos_iff.2 c1; omega
        obtain ⟨v, h3, _⟩ := h2 (off + x.cells.length - 1) cells[off + x.cells.length - 1] (by simp [hlt])
        have := (Array.getElem?_eq_some_iff.1 h3).1
        have := List.length_pos_iff.2 c1
        omega
      have hg : w.heap[(X.β id).blk]? = some (.cells cs ty (0, 0)) := by rw [← hX]; exact h1
      refine ⟨rfl, w.setRow (X.β id).blk (splice cs ((X.β id).off + off) vx.cells.toList), X.wrt id (X.β id) (.bx (setMany cells off x.cells)) (w.setRow (X.β id).blk (splice cs ((X.β id).off + off) vx.cells.toList)).heap, ?_, (zl _ _ _).symm, ?_⟩
      · simp only [Instr.storeAt, Instr.sureAddr, Sem.run_bind, Sem.run_pure, Result.andThen_ok, Loc.ptr]
        exact zdl hlen hpos hg (by simpa using hfit) hone
      · have hnew := setRow_heap w (X.β id).blk cs (splice cs ((X.β id).off + off) vx.cells.toList) ty (0, 0) hg
        refine Stp.write H hX hown (by simp) (fun b hb => setRow_other _ _ _ _ hb) rfl rfl rfl rfl ?_ (fun E => ?_) (fun cells' hc' => ?_)
        · unfold Keeps; rw [ho]; exact ⟨⟨_, upd_same _ _ _⟩, upd_same _ _ _⟩
        · unfold AOok
          simp only [Cx.wrt, upd_same]
          refine ⟨_, ty, hnew, fun j y hj => ?_⟩
          rw [ze8 hb] at hj
          by_cases hr : off ≤ j ∧ j < off + x.cells.length
          · rw [if_pos hr] at hj
            obtain ⟨v, e1, e2⟩ := hcs.get hj
            refine ⟨v, ?_, e2.ext E⟩
            rw [zz hfit, if_pos ⟨by omega, by omega⟩, ← e1]; congr 1; omega
          · rw [if_neg hr] at hj
            obtain ⟨v, e1, e2⟩ := h2 j y hj
            refine ⟨v, ?_, e2.ext E⟩
            rw [zz hfit, if_neg (by omega)]; exact e1
        · rw [ho] at hc'
          cases hc'
          refine ⟨⟨_, upd_same _ _ _, zc4⟩, upd_same _ _ _, fun cs2 ty2 h22 => ?_⟩
          rw [h1] at h22
          cases h22
          refine ⟨_, hnew, zcl hfit, fun c hc => ?_⟩
          rw [zz hfit, if_neg (by omega)]
    · cases h
  · rename_i id n ix o
    split at h
    · rename_i e fr xs ser hl
      have ho := lk_rw hlk hl (by simp)
      cases hb : (Nat.beq n ser && Nat.ble (o + x.cells.length) (esz P e)) <;> simp only [hb, cond_false, cond_true] at h
      · cases h
      simp only [Bool.and_eq_true] at hb
      have hb2 := Nat.le_of_ble_eq_true hb.2
      split at h
      · rename_i cs f ids htc
        cases hh : has ids id <;> simp [hh] at h
        subst h
        have hni : id ∉ ids := fun hm => by rw [zcw.2 hm] at hh; cases hh
        obtain ⟨X1, F1⟩ := frzs (w := w) H hX hlk ids
        obtain ⟨t1, t2⟩ := zb8 H hlk F1 hcs htc fun _ h => h
        have ho1 : X1.ob id = .rw e fr xs ser := by rw [F1.ob, zdm hni, ho]
        obtain ⟨hix, hnil, hv⟩ := (show RS P X (.po id n ix o) va from ha).2.get (.inl ho) (zb hb.1)
        have H1 := F1.stp.heap
        have hok := H1.ok id
        unfold AOok at hok
        rw [ho1] at hok
        rw [← F1.β] at hnil hv
        rcases hok with ⟨hn, _⟩ | ⟨_, q1, q2, cur, ty, q3, q4, q5⟩
        · rw [hnil] at hn; cases hn
        have hown : Own X1 id := by unfold Own; rw [ho1]; exact hnil
        have hX1 : X1.h = w.heap := F1.stp.hX
        have hg : w.heap[(X1.β id).blk]? = some (.cells cur ty (0, 0)) := by rw [← hX1]; exact q3
        have hfit : (X1.β id).off + ix * esz P e + o + vx.cells.toList.length ≤ cur.size := by
          have h3 : (ix + 1) * esz P e ≤ (X1.β id).cap * esz P e := Nat.mul_le_mul_right _ (by omega)
          rw [Nat.add_mul] at h3
          omega
        have hrow : RowAt P (Con P X1.h (X1.F (fr && f)) 7) e (splice cur ((X1.β id).off + ix * esz P e + o) vx.cells.toList) (X1.β id).off (wrs xs ix o cs) := by
          intro i hi p hp
          rw [zo] at hi
          rw [zcf cs hix]
          by_cases hr : i = ix ∧ o ≤ p ∧ p < o + cs.length
          · rw [if_pos hr]
            obtain ⟨rfl, r1, r2⟩ := hr
            have hget : cs[p - o]? = some (cs.getD (p - o) (.i 0)) := by
              have : p - o < cs.length := by omega
              simp [List.getD_eq_getElem?_getD, this]
            obtain ⟨v, v1, v2⟩ := t2 (p - o) _ hget
            refine ⟨v, ?_, ?_⟩
            · rw [zz hfit, if_pos ⟨by omega, by omega⟩, ← v1]; congr 1; omega
            · rw [show o + (p - o) = p by omega] at v2
              exact v2.mono fun _ _ _ hx => Con.mono (fun b hb => F_low (H := H1) (by simp +contextual) hb) (fun _ _ => rfl) hx
          · rw [if_neg hr]
            obtain ⟨v, v1, v2⟩ := q5 i hi p hp
            refine ⟨v, ?_, v2.mono fun _ _ _ hx => Con.mono (fun b hb => F_low (H := H1) (by simp +contextual) hb) (fun _ _ => rfl) hx⟩
            rw [zz hfit, if_neg ?_]
            · exact v1
            · rintro ⟨z1, z2⟩
              apply hr
              have hq : ∃ q, o ≤ q ∧ q < o + vx.cells.toList.length ∧ i * esz P e + p = ix * esz P e + q := ⟨i * esz P e + p - ix * esz P e, by omega, by omega, by omega⟩
              obtain ⟨q, g1, g2, g3⟩ := hq
              obtain ⟨rfl, rfl⟩ := ze4 hp (by omega) g3
              exact ⟨rfl, g1, by omega⟩
        refine ⟨rfl, w.setRow (X1.β id).blk (splice cur ((X1.β id).off + ix * esz P e + o) vx.cells.toList),
          X1.wrt id (X1.β id) (.rw e (fr && f) (wrs xs ix o cs) ser) (w.setRow (X1.β id).blk (splice cur ((X1.β id).off + ix * esz P e + o) vx.cells.toList)).heap, ?_, ?_, ?_⟩
        · rw [hv]
          simp only [Instr.storeAt, Instr.sureAddr, Sem.run_bind, Sem.run_pure, Result.andThen_ok]
          exact zdl hlen hpos hg (by simpa using hfit) hone
        · rw [zy, ← F1.ob]; rfl
        · have hnew := setRow_heap w (X1.β id).blk cur (splice cur ((X1.β id).off + ix * esz P e + o) vx.cells.toList) ty (0, 0) hg
          refine F1.stp.trans H (Stp.write H1 hX1 hown (by simp) (fun b hb => setRow_other _ _ _ _ hb) rfl rfl rfl rfl ?_ (fun E => ?_) (fun cells' hc' => ?_))
          · unfold Keeps; rw [ho1]; exact .inr (.inl ⟨⟨_, _, .inl (upd_same _ _ _), zo _ _ _ _⟩, upd_same _ _ _⟩)
          · unfold AOok
            simp only [Cx.wrt, upd_same]
            refine .inr ⟨hnil, by rw [zo]; exact q1, fun hq => q2 (by simp at hq; exact hq.1), _, ty, hnew, by rw [zcl hfit]; exact q4, ?_⟩
            exact hrow.mono fun _ _ _ hx => Con.mono (E.F _) (E.h _) hx
          · rw [ho1] at hc'; cases hc'
      · cases h
    · rename_i e c xs ser lo iv hl
      have ho := lk_rw hlk hl (by simp)
      cases hb : ((Nat.beq n ser && Nat.beq lo 0) && Nat.ble (o + x.cells.length) (esz P e)) <;> simp only [hb, cond_false, cond_true] at h
      · cases h
      simp only [Bool.and_eq_true] at hb
      obtain ⟨⟨b1, b2⟩, b3⟩ := hb
      have hb2 := Nat.le_of_ble_eq_true b3
      have h0 := zb b2; subst h0
      cases b4 : offCol c o x.cells.length <;> simp only [b4, cond_false, cond_true] at h
      · split at h
        · rename_i cs o' e2 j htd
          cases hj : Nat.beq j id <;> simp only [hj, cond_false, cond_true] at h
          rotate_left
          · cases h
          cases h
          have hne : j ≠ id := fun q => by rw [q] at hj; simp at hj
          obtain ⟨t1, t2, t3⟩ := zfc hlk hcs htd
          obtain ⟨o1, o2, o3⟩ := t3 _ _ _ rfl
          obtain ⟨hix, hnil, hv⟩ := (show RS P X (.po id n ix o) va from ha).2.getD ho (zb b1)
          have hdk : Dk P e c := by
            have hok := H.ok id
            unfold AOok at hok
            rw [ho] at hok
            exact hok.1
          obtain ⟨e', rfl⟩ := hdk.col o3
          have he2 : e2 = e' := by
            have := hdk.2.1
            rw [o3] at this; cases this; rfl
          subst he2
          have hjy : ∃ ys ser2 iv2, X.ob j = .dw e2 none ys ser2 0 iv2 := by
            have hlt : o' - o < cs.length := by omega
            obtain ⟨v, a, b⟩ := t2 (o' - o) cs[o' - o] (by simp [hlt])
            rw [show o + (o' - o) = o' by omega, o3] at b
            obtain ⟨j2, ys, ser2, iv2, c1, c2, c3, _⟩ := b
            cases c1
            exact ⟨ys, ser2, iv2, c3⟩
          obtain ⟨ys, ser2, iv2, hoj⟩ := hjy
          obtain ⟨cur, ty, X', g1, g2, g3, g4⟩ := zjc (w := w) (cs := cs) (vs := vx.cells.toList) (o := o) H hX ho hoj hne hix hnil (by omega) (by omega) o1 (by omega) (fun i c hc => by
            obtain ⟨v, a, b⟩ := t2 i c hc
            refine ⟨v, a, ?_⟩
            cases hk : ck P e (o + i) <;> rw [hk] at b <;> try exact b
            obtain ⟨j2, ys', ser', iv', c1, c2, c3, _, c5⟩ := b
            cases c1
            rw [hoj] at c3; cases c3
            exact ⟨c5, c2⟩)
          refine ⟨rfl, _, X', ?_, ?_, g4⟩
          · rw [hv]
            simp only [Instr.storeAt, Instr.sureAddr, Sem.run_bind, Sem.run_pure, Result.andThen_ok]
            exact zdl hlen hpos g1 (by simpa using g2) hone
          · rw [g3, zy, zl]
        · cases h
      split at h
      · rename_i cs f htc
        cases h
        have F1 : Frzd P K X w lk [] X := ⟨Stp.refl H hX, rfl, rfl, rfl, rfl, fun _ h => by simp at h, fun _ h => by simp at h⟩
        obtain ⟨t1, t2⟩ := zb8 H hlk F1 hcs htc fun _ h => h
        obtain ⟨hix, hnil, hv⟩ := (show RS P X (.po id n ix o) va from ha).2.getD ho (zb b1)
        have hok := H.ok id
        unfold AOok at hok
        rw [ho] at hok
        obtain ⟨hd, ⟨hn, _⟩ | ⟨_, q1, q2, ⟨cur, ty, q3, q4, q5⟩, q6⟩⟩ := hok
        · rw [hnil] at hn; cases hn
        have hown : Own X id := by unfold Own; rw [ho]; exact hnil
        have hg : w.heap[(X.β id).blk]? = some (.cells cur ty (0, 0)) := by rw [← hX]; exact q3
        have hfit : (X.β id).off + ix * esz P e + o + vx.cells.toList.length ≤ cur.size := by
          have h3 : (ix + 1) * esz P e ≤ (X.β id).cap * esz P e := Nat.mul_le_mul_right _ (by omega)
          rw [Nat.add_mul] at h3
          omega
        have hlist : ∀ k e', c = some (k, e') → ∀ i, rd (wrs xs ix o cs) i k = rd xs i k := by
          intro k e' hc i
          subst hc
          rw [zcf cs hix, if_neg]
          rintro ⟨_, r1, r2⟩
          exact zhd b4 r1 (by omega) rfl
        have hnew := setRow_heap w (X.β id).blk cur (splice cur ((X.β id).off + ix * esz P e + o) vx.cells.toList) ty (0, 0) hg
        have hin : ∀ k e', c = some (k, e') → ∀ i, 0 ≤ i → i < xs.length → (X.γ id i).nil = false → (w.setRow (X.β id).blk (splice cur ((X.β id).off + ix * esz P e + o) vx.cells.toList)).heap[(X.γ id i).blk]? = X.h[(X.γ id i).blk]? := by
          intro k e' hc i h1 h2 h3
          rw [hX]
          exact setRow_other _ _ _ _ (q6 k e' hc i h1 h2 h3).1
        have q5' := q5.keep hd hin
        have hrow : RowD P (w.setRow (X.β id).blk (splice cur ((X.β id).off + ix * esz P e + o) vx.cells.toList)).heap (X.γ id) e (splice cur ((X.β id).off + ix * esz P e + o) vx.cells.toList) (X.β id).off (wrs xs ix o cs) 0 := by
          intro i hi0 hi p hp
          rw [zo] at hi
          by_cases hr : i = ix ∧ o ≤ p ∧ p < o + cs.length
          · obtain ⟨rfl, r1, r2⟩ := hr
            have hget : cs[p - o]? = some (cs.getD (p - o) (.i 0)) := by
              have : p - o < cs.length := by omega
              simp [List.getD_eq_getElem?_getD, this]
            obtain ⟨v, v1, v2⟩ := t2 (p - o) _ hget
            have hrd : rd (wrs xs i o cs) i p = cs.getD (p - o) (.i 0) := by rw [zcf cs hix, if_pos ⟨rfl, r1, r2⟩]
            rw [show o + (p - o) = p by omega] at v2
            refine ⟨v, ?_, ?_⟩
            · rw [zz hfit, if_pos ⟨by omega, by omega⟩, ← v1]; congr 1; omega
            · rw [hrd]
              cases hk : ck P e p <;> rw [hk] at v2 <;> try exact v2
              rename_i e2
              obtain ⟨e', rfl⟩ := hd.col hk
              exact absurd rfl (zhd b4 r1 (by omega))
          · have hrd : rd (wrs xs ix o cs) i p = rd xs i p := by rw [zcf cs hix, if_neg hr]
            rw [hrd]
            obtain ⟨v, v1, v2⟩ := q5' i hi0 hi p hp
            refine ⟨v, ?_, v2⟩
            rw [zz hfit, if_neg ?_]
            · exact v1
            · rintro ⟨z1, z2⟩
              apply hr
              have hq : ∃ q, o ≤ q ∧ q < o + vx.cells.toList.length ∧ i * esz P e + p = ix * esz P e + q := ⟨i * esz P e + p - ix * esz P e, by omega, by omega, by omega⟩
              obtain ⟨q, g1, g2, g3⟩ := hq
              obtain ⟨rfl, rfl⟩ := ze4 hp (by omega) g3
              exact ⟨rfl, g1, by omega⟩
        refine ⟨rfl, w.setRow (X.β id).blk (splice cur ((X.β id).off + ix * esz P e + o) vx.cells.toList),
          X.wrt id (X.β id) (.dw e c (wrs xs ix o cs) ser 0 iv) (w.setRow (X.β id).blk (splice cur ((X.β id).off + ix * esz P e + o) vx.cells.toList)).heap, ?_, (zl _ _ _).symm, ?_⟩
        · rw [hv]
          simp only [Instr.storeAt, Instr.sureAddr, Sem.run_bind, Sem.run_pure, Result.andThen_ok]
          exact zdl hlen hpos hg (by simpa using hfit) hone
        · refine Stp.writeD H hX hown (by simp) (fun b hb => setRow_other _ _ _ _ hb) rfl rfl rfl rfl ?_ (fun E => ?_) (fun cells' hc' => ?_) (fun b hb => ?_)
          · unfold Keeps; rw [ho]
            refine .inr (.inr (.inl ⟨_, _, _, _, upd_same _ _ _, Nat.le_refl _, Nat.le_refl _, fun _ => ⟨zo _ _ _ _, upd_same _ _ _, fun _ => rfl⟩, fun _ => ⟨zo _ _ _ _, rfl, rfl, fun k e' hc i => by rw [hlist k e' hc i], fun b hb => ?_⟩⟩))
            unfold InB at hb
            rw [ho] at hb
            obtain ⟨k, e', hc, i, h1, h2, h3, rfl⟩ := hb
            exact hin k e' hc i h1 h2 h3
          · unfold AOok
            simp only [Cx.wrt, upd_same]
            refine ⟨hd, .inr ⟨hnil, by rw [zo]; exact q1, Nat.zero_le _, ⟨_, ty, hnew, by rw [zcl hfit]; exact q4, hrow⟩, ?_⟩⟩
            intro k e' hc i h1 h2 h3
            rw [zo] at h2
            refine ⟨(q6 k e' hc i h1 h2 h3).1, fun j h4 h5 h6 h7 => ?_⟩
            rw [zo] at h5
            exact (q6 k e' hc i h1 h2 h3).2 j h4 h5 h6 h7
          · rw [ho] at hc'; cases hc'
          · unfold InB at hb ⊢
            simp only [Cx.wrt, upd_same] at hb
            rw [ho]
            obtain ⟨k, e', hc, i, h1, h2, h3, h4⟩ := hb
            rw [zo] at h2
            exact ⟨k, e', hc, i, h1, h2, h3, h4⟩
      · cases h
    · cases h
  · cases h
end
end Go.Eng
end
section
namespace Go.Eng
open Go
section
variable {P : Program} {K : Kx} {X : Cx} {w : World} {lk : Lk}
structure Src (P : Program) (w : World) (size n : Nat) (x : Value) (news : List Value) : Prop where
  len : ∀ w', (Builtin.lenOf x).run P w' = .ok n w'
  cells : ∀ w', w'.heap = w.heap → (Builtin.firstCells size n x).run P w' = .ok news.toArray w'
  length : news.length = n * size
theorem zhl {t u ty e : TypeId} {i : TypeInfo} {z : Value} {d : TypeDesc} (ht : P.underlying t = some (.slice e)) (hu : P.underlying u = some d) (hd : ∀ k, d ≠ .int k) (hi : P.info? e = some i) (hz : i.zero = some z)
    {A : Option Addr} {n0 c0 n : Nat} {x : Value} {olds news : List Value} (hx : Src P w i.size n x news) (ho : ∀ w', w'.heap = w.heap → (Builtin.firstCells i.size n0 (.slice A n0 c0)).run P w' = .ok olds.toArray w')
    (hb : n0 + n ≤ most) (hby : i.bytes ≤ 128) :
    (n0 + n ≤ c0 → A = none → (Builtin.append_ #[t, u] ty #[.slice A n0 c0, x]).run P w = .ok (.slice none (n0 + n) c0) w) ∧
    (n0 + n ≤ c0 → ∀ a, A = some a → ∀ w', (storeCells (a.add (n0 * i.size)) news).run P w = .ok () w' → (Builtin.append_ #[t, u] ty #[.slice A n0 c0, x]).run P w = .ok (.slice A (n0 + n) c0) w') ∧
    (¬ n0 + n ≤ c0 → (Builtin.append_ #[t, u] ty #[.slice A n0 c0, x]).run P w =
      .ok (.slice (some ⟨w.heap.size, 0, none⟩) (n0 + n) (grownCap w (n0 + n) c0 e)) (w.drew.alloc (.cells (olds.toArray ++ news.toArray ++ Builtin.zeroCells z.cells (grownCap w (n0 + n) c0 e - (n0 + n))) e))) := by
  have hzeros : (match d with | .int _ => true | _ => false) = false := by
    cases d <;> first | rfl | exact absurd rfl (hd _)
  have hm : ((underlying u).run P w).andThen (fun a w' => Result.ok (match a with | .int _ => true | _ => false) w') = .ok false w := by
    rw [run_underlying hu]; simp only [Result.andThen_ok, hzeros]
  have f1 := hx.cells w rfl
  have f2 := hx.cells { w with drawn := w.drawn + 1 } rfl
  have f3 := ho { w with drawn := w.drawn + 1 } rfl
  unfold most at hb
  refine ⟨fun hr hA => ?_, fun hr a hA w' hst => ?_, fun hr => ?_⟩
  · subst hA
    simp only [Builtin.append_, List.getElem?_toArray, List.getElem?_cons_zero, List.getElem?_cons_succ, Sem.run_bind, run_underlying ht, run_underlying hu, Result.andThen_ok, sizeOf, typeInfo, run_program, hi, Sem.run_pure, hzeros, Bool.false_eq_true, if_false, hx.len, if_pos hr,
      Bool.not_false, if_true, f1]
  · subst hA
    simp only [Builtin.append_, List.getElem?_toArray, List.getElem?_cons_zero, List.getElem?_cons_succ, Sem.run_bind, run_underlying ht, run_underlying hu, Result.andThen_ok, sizeOf, typeInfo, run_program, hi, Sem.run_pure, hzeros, Bool.false_eq_true, if_false, hx.len, if_pos hr,
      Bool.not_false, if_true, f1, hst]
  · have h63 : ¬ (((n0 + n : Nat) : Int) > IntKind.i64.max ∧ (False ∨ i.bytes = 0)) := by rw [IntKind.max_i64]; omega
    have h48 : ¬ (Builtin.nextslicecap (n0 + n) c0 * i.bytes > 2 ^ 48) := by
      have h1 := nextslicecap_le (need := n0 + n) (old := c0) (by omega)
      have h2 : Builtin.nextslicecap (n0 + n) c0 * i.bytes ≤ (2 * (n0 + n)) * 128 := Nat.mul_le_mul h1 hby
      omega
    simp only [Builtin.append_, List.getElem?_toArray, List.getElem?_cons_zero, List.getElem?_cons_succ, Sem.run_bind, run_underlying ht, run_underlying hu, Result.andThen_ok, sizeOf, typeInfo, run_program, hi, Sem.run_pure, hzeros, Bool.false_eq_true, if_false, hx.len, if_neg hr,
      if_neg h63, if_neg h48, Bool.not_false, if_true, run_choose, Question.forced, run_askRoom, f2, f3, zeroValue, hz, newRow, run_newObj]
    rfl
end
end Go.Eng
end
section
namespace Go.Eng
open Go
section
variable {P : Program} {K : Kx} {X : Cx} {w : World} {lk : Lk}
theorem CellOk.oneCell {con : TypeId → Option Addr → Rw → Prop} {k : CK} {v : Value} {c : C} (h : CellOk con k v c) : v.oneCell' = true := by
  cases k <;> simp only [CellOk] at h
  · subst h; rfl
  · subst h; rfl
  · subst h; rfl
  · obtain ⟨_, _, h, _⟩ := h; subst h; rfl
theorem zjm {e : TypeId} (h : flat P e = true) (o : Nat) (e' : TypeId) : ck P e o ≠ .sl e' := by
  intro hk
  have hm := zbc hk (by simp)
  unfold flat at h
  rw [List.all_eq_true] at h
  have := h _ hm
  simp at this
theorem RowAt.flat {e : TypeId} (hf : flat P e = true) {con con' : TypeId → Option Addr → Rw → Prop} {cs : Array Value} {off : Nat} {xs : Rw} (h : RowAt P con e cs off xs) : RowAt P con' e cs off xs := fun i hi o ho => by
  obtain ⟨v, h1, h2⟩ := h i hi o ho
  refine ⟨v, h1, ?_⟩
  have := zjm hf o
  cases hk : ck P e o <;> rw [hk] at h2 <;> first | exact h2 | exact absurd hk (this _)
theorem RowAt.low (H : Heap P K X) {a b : Bool} (hab : b = true → a = true) {e : TypeId} {cs : Array Value} {off : Nat} {xs : Rw} (h : RowAt P (Con P X.h (X.F a) 7) e cs off xs) : RowAt P (Con P X.h (X.F b) 7) e cs off xs :=
  h.mono fun _ _ _ hx => Con.mono (fun n hn => F_low (H := H) hab hn) (fun _ _ => rfl) hx
theorem RowAt.cat {con : TypeId → Option Addr → Rw → Prop} {e : TypeId} {cs cs1 cs2 : Array Value} {off off1 off2 : Nat} {zs ys : Rw} (h1 : RowAt P con e cs1 off1 zs) (h2 : RowAt P con e cs2 off2 ys)
    (e1 : ∀ j, j < zs.length * esz P e → cs[off + j]? = cs1[off1 + j]?) (e2 : ∀ j, j < ys.length * esz P e → cs[off + zs.length * esz P e + j]? = cs2[off2 + j]?) : RowAt P con e cs off (zs ++ ys) := by
  intro i hi o ho
  rw [List.length_append] at hi
  by_cases hz : i < zs.length
  · obtain ⟨v, a, b⟩ := h1 i hz o ho
    have hlt : i * esz P e + o < zs.length * esz P e := by
      have := Nat.mul_le_mul_right (esz P e) (show i + 1 ≤ zs.length from hz)
      rw [Nat.add_mul] at this; omega
    refine ⟨v, ?_, ?_⟩
    · rw [Nat.add_assoc, e1 _ hlt, ← Nat.add_assoc]; exact a
    · have : rd (zs ++ ys) i o = rd zs i o := by simp [rd, List.getD_eq_getElem?_getD, List.getElem?_append_left hz]
      rw [this]; exact b
  · obtain ⟨v, a, b⟩ := h2 (i - zs.length) (by omega) o ho
    have hlt : (i - zs.length) * esz P e + o < ys.length * esz P e := by
      have := Nat.mul_le_mul_right (esz P e) (show i - zs.length + 1 ≤ ys.length by omega)
      rw [Nat.add_mul] at this; omega
    have hsplit : i * esz P e = zs.length * esz P e + (i - zs.length) * esz P e := by rw [← Nat.add_mul]; congr 1; omega
    refine ⟨v, ?_, ?_⟩
    · rw [show off + i * esz P e + o = off + zs.length * esz P e + ((i - zs.length) * esz P e + o) by omega, e2 _ hlt, ← Nat.add_assoc]; exact a
    · have : rd (zs ++ ys) i o = rd ys (i - zs.length) o := by simp [rd, List.getD_eq_getElem?_getD, List.getElem?_append_right (by omega : zs.length ≤ i)]
      rw [this]; exact b
theorem RowAt.size {con : TypeId → Option Addr → Rw → Prop} {e : TypeId} {cs : Array Value} {off : Nat} {xs : Rw} (h : RowAt P con e cs off xs) (h0 : 0 < esz P e) (hne : xs ≠ []) : off + xs.length * esz P e ≤ cs.size := by
  have hl := List.length_pos_iff.2 hne
  obtain ⟨v, a, _⟩ := h (xs.length - 1) (by omega) (esz P e - 1) (by omega)
  have h1 := (Array.getElem?_eq_some_iff.1 a).1
  have h2 : xs.length * esz P e = (xs.length - 1) * esz P e + esz P e := by
    have : xs.length = (xs.length - 1) + 1 := by omega
    rw [this, Nat.add_mul, Nat.one_mul]; simp
  omega
theorem zgt {con : TypeId → Option Addr → Rw → Prop} {e : TypeId} {cs : Array Value} {off : Nat} {xs : Rw} (h : RowAt P con e cs off xs) (h0 : 0 < esz P e) (hne : xs ≠ []) :
    ∃ news : List Value, news.length = xs.length * esz P e ∧ (∀ j v, news[j]? = some v → cs[off + j]? = some v) ∧ (∀ j, j < xs.length * esz P e → news.toArray[0 + j]? = cs[off + j]?) := by
  have hs := h.size h0 hne
  refine ⟨(cs.toList.drop off).take (xs.length * esz P e), by simp; omega, fun j v hj => ?_, fun j hj => ?_⟩
  · have hlt : j < xs.length * esz P e := by
      rcases Nat.lt_or_ge j (xs.length * esz P e) with hl | hl
      · exact hl
      · rw [List.getElem?_eq_none (by simp; omega)] at hj; cases hj
    rw [List.getElem?_take_of_lt hlt, List.getElem?_drop] at hj
    simpa using hj
  · rw [List.getElem?_toArray, Nat.zero_add, List.getElem?_take_of_lt hj, List.getElem?_drop]; simp
theorem RowAt.ones {con : TypeId → Option Addr → Rw → Prop} {e : TypeId} {news : List Value} {xs : Rw} (h : RowAt P con e news.toArray 0 xs) (hl : news.length = xs.length * esz P e) : ∀ v ∈ news, v.oneCell' = true := by
  intro v hv
  obtain ⟨j, hj, rfl⟩ := List.getElem_of_mem hv
  have h0 : 0 < esz P e := by
    rcases Nat.eq_zero_or_pos (esz P e) with h0 | h0
    · rw [h0, Nat.mul_zero] at hl; omega
    · exact h0
  obtain ⟨u, a, b⟩ := h (j / esz P e) (Nat.div_lt_of_lt_mul (by rw [Nat.mul_comm, ← hl]; exact hj)) (j % esz P e) (Nat.mod_lt _ h0)
  rw [Nat.zero_add, Nat.mul_comm, Nat.div_add_mod] at a
  simp [hj] at a
  rw [a]; exact b.oneCell
theorem zl7 (hX : X.h = w.heap) {e : TypeId} (h0 : 0 < esz P e) {fr : Bool} {ys : Rw} {v : Value} (h : Rd P X e fr ys v) : ∃ news, Src P w (esz P e) ys.length v news ∧ RowAt P (Con P X.h (X.F fr) 7) e news.toArray 0 ys := by
  obtain ⟨A, cap, rfl, hc, hr⟩ := h
  rcases hr with rfl | ⟨blk, off, cs, ty, fz, rfl, h2, h3⟩
  · refine ⟨[], ⟨fun _ => rfl, fun w' hw => ?_, by simp⟩, fun i hi => by simp at hi⟩
    cases A with
    | none => simp [Builtin.firstCells]
    | some a => simp [Builtin.firstCells, loadCells, loadCellsFrom]
  · by_cases hne : ys = []
    · subst hne
      exact ⟨[], ⟨fun _ => rfl, fun w' hw => by simp [Builtin.firstCells, loadCells, loadCellsFrom], by simp⟩, fun i hi => by simp at hi⟩
    · obtain ⟨news, n1, n2, n3⟩ := zgt h3 h0 hne
      refine ⟨news, ⟨fun _ => rfl, fun w' hw => ?_, n1⟩, ?_⟩
      · refine run_firstCells_some w' _ _ _ _ _ news n1 fun j v hj => ?_
        rw [zba, zbx (by rw [hw, ← hX]; exact h2)]
        exact n2 j v hj
      · intro i hi o ho
        obtain ⟨v, a, b⟩ := h3 i hi o ho
        have hlt : i * esz P e + o < ys.length * esz P e := by
          have := Nat.mul_le_mul_right (esz P e) (show i + 1 ≤ ys.length from hi)
          rw [Nat.add_mul] at this; omega
        exact ⟨v, by rw [Nat.add_assoc, n3 _ hlt, ← Nat.add_assoc]; exact a, b⟩
theorem zci (s : ByteArray) : (rowsOf s).length = s.size := by simp [rowsOf]
theorem zjo {e : TypeId} (h1 : esz P e = 1) (hk : ck P e 0 = .i .u8) (s : ByteArray) (con : TypeId → Option Addr → Rw → Prop) : ∃ news, Src P w (esz P e) (rowsOf s).length (.string s) news ∧ RowAt P con e news.toArray 0 (rowsOf s) := by
  refine ⟨s.data.toList.map fun b => .int .u8 b.toNat, ⟨fun _ => by rw [zci]; rfl, fun w' hw => ?_, by simp [rowsOf, h1]⟩, fun i hi o ho => ?_⟩
  · have : (s.extract 0 (rowsOf s).length) = s := by rw [zci]; exact ByteArray.extract_zero_size
    simp only [Builtin.firstCells, this, Sem.run_pure]
    congr 1
    apply Array.ext'
    simp
  · have ho : o = 0 := by omega
    subst ho
    rw [zci] at hi
    have hi' : i < s.data.toList.length := by simpa using hi
    refine ⟨.int .u8 ((s.data.toList[i]).toNat : Int), ?_, ?_⟩
    · rw [h1, List.getElem?_toArray, Nat.zero_add, Nat.mul_one, Nat.add_zero, List.getElem?_map, List.getElem?_eq_getElem hi']; rfl
    · rw [hk]
      have : (rowsOf s).getD i [] = [C.i ((s.data.toList[i]).toNat : Int)] := by
        simp only [rowsOf, List.getD_eq_getElem?_getD, List.getElem?_map, List.getElem?_eq_getElem hi']; rfl
      simp only [CellOk, rd, this]
      rfl
end
end Go.Eng
end
section
namespace Go.Eng
open Go
section
variable {P : Program} {K : Kx} {X : Cx} {w : World} {lk : Lk}
def Stands (P : Program) (con : TypeId → Option Addr → Rw → Prop) (e : TypeId) (w w' : World) (b0 : Option Nat) (l : Loc) (xs : Rw) : Prop :=
  (l.nil = true ∧ xs = [] ∧ l.cap = 0 ∧ w'.heap = w.heap) ∨
  (l.nil = false ∧ xs.length ≤ l.cap ∧ (∃ cs ty, w'.heap[l.blk]? = some (.cells cs ty (0, 0)) ∧ l.off + l.cap * esz P e ≤ cs.size ∧ RowAt P con e cs l.off xs) ∧
    ((b0 = some l.blk ∧ w'.heap.size = w.heap.size ∧ ∀ b, b ≠ l.blk → w'.heap[b]? = w.heap[b]?) ∨ (l.blk = w.heap.size ∧ w'.heap.size = w.heap.size + 1 ∧ ∀ b, b < w.heap.size → w'.heap[b]? = w.heap[b]?)))
def Base (P : Program) (con : TypeId → Option Addr → Rw → Prop) (e : TypeId) (w : World) (b0 : Option Nat) (A : Option Addr) (c0 : Nat) (zs : Rw) : Prop :=
  (A = none ∧ zs = [] ∧ c0 = 0) ∨ ∃ blk off cur ty, b0 = some blk ∧ A = some ⟨blk, off, none⟩ ∧ w.heap[blk]? = some (.cells cur ty (0, 0)) ∧ zs.length ≤ c0 ∧ off + c0 * esz P e ≤ cur.size ∧ RowAt P con e cur off zs
theorem zkt {t u ty e : TypeId} {i : TypeInfo} {z : Value} {d : TypeDesc} (ht : P.underlying t = some (.slice e)) (hu : P.underlying u = some d) (hd : ∀ k, d ≠ .int k) (hi : P.info? e = some i) (hz : i.zero = some z)
    (hzs : z.cells.size = esz P e) (h0 : 0 < esz P e) (hby : i.bytes ≤ 128) {con : TypeId → Option Addr → Rw → Prop} {b0 : Option Nat} {A : Option Addr} {c0 : Nat} {zs ys : Rw} {x : Value} {news : List Value}
    (hB : Base P con e w b0 A c0 zs) (hx : Src P w (esz P e) ys.length x news) (hr : RowAt P con e news.toArray 0 ys) (hb : zs.length + ys.length ≤ most) :
    ∃ v w' l, (Builtin.append_ #[t, u] ty #[.slice A zs.length c0, x]).run P w = .ok v w' ∧ v = .slice (slAddr P e l 0) (zs ++ ys).length l.cap ∧ w'.os = w.os ∧ w'.tape = w.tape ∧ w'.output = w.output ∧ Stands P con e w w' b0 l (zs ++ ys) := by
  have hsz : i.size = esz P e := by simp [esz, hi]
  have hlen := hx.length
  have holds : ∃ olds : List Value, olds.length = zs.length * esz P e ∧ (∀ w', w'.heap = w.heap → (Builtin.firstCells i.size zs.length (.slice A zs.length c0)).run P w' = .ok olds.toArray w') ∧ RowAt P con e olds.toArray 0 zs := by
    rcases hB with ⟨rfl, rfl, rfl⟩ | ⟨blk, off, cur, ty, _, rfl, h1, h2, h3, h4⟩
    · exact ⟨[], by simp, fun w' _ => by simp [Builtin.firstCells], fun i hi => by simp at hi⟩
    · by_cases hne : zs = []
      · subst hne
        exact ⟨[], by simp, fun w' _ => by simp [Builtin.firstCells, loadCells, loadCellsFrom], fun i hi => by simp at hi⟩
      · obtain ⟨olds, n1, n2, n3⟩ := zgt h4 h0 hne
        refine ⟨olds, n1, fun w' hw => ?_, fun i hi o ho => ?_⟩
        · refine run_firstCells_some w' _ _ _ _ _ olds (by rw [hsz]; exact n1) fun j v hj => ?_
          rw [zba, zbx (by rw [hw]; exact h1)]
          exact n2 j v hj
        · obtain ⟨v, a, b⟩ := h4 i hi o ho
          have hlt : i * esz P e + o < zs.length * esz P e := by
            have := Nat.mul_le_mul_right (esz P e) (show i + 1 ≤ zs.length from hi)
            rw [Nat.add_mul] at this; omega
          exact ⟨v, by rw [Nat.add_assoc, n3 _ hlt, ← Nat.add_assoc]; exact a, b⟩
  obtain ⟨olds, o1, o2, o3⟩ := holds
  obtain ⟨r1, r2, r3⟩ := zhl (ty := ty) ht hu hd hi hz (A := A) (c0 := c0) (hsz ▸ hx) o2 hb hby
  by_cases hroom : zs.length + ys.length ≤ c0
  · cases hA : A with
    | none =>
      rcases hB with ⟨_, rfl, rfl⟩ | ⟨blk, off, cur, ty', _, h, _⟩
      · have hys : ys = [] := List.eq_nil_of_length_eq_zero (by have h9 : ([] : Rw).length = 0 := rfl; omega)
        subst hys
        exact ⟨_, w, ⟨0, 0, 0, true⟩, by rw [← hA]; exact r1 hroom hA, by simp [slAddr], rfl, rfl, rfl, .inl ⟨rfl, rfl, rfl, rfl⟩⟩
      · rw [hA] at h; cases h
    | some a =>
      rcases hB with ⟨h, _⟩ | ⟨blk, off, cur, ty', hb0, h, h1, h2, h3, h4⟩
      · rw [hA] at h; cases h
      · rw [h] at hA; cases hA
        have hfit : off + zs.length * esz P e + news.length ≤ cur.size := by
          rw [hlen]
          have := Nat.mul_le_mul_right (esz P e) hroom
          rw [Nat.add_mul] at this
          omega
        have hst := run_storeCells_at P blk (off + zs.length * esz P e) ty' news 0 cur w h1 (by simpa using hfit) (hr.ones hlen)
        simp only [Nat.add_zero] at hst
        refine ⟨_, w.setRow blk (splice cur (off + zs.length * esz P e) news), ⟨blk, off, c0, false⟩, by rw [h] at r2; exact r2 hroom _ rfl _ (by rw [zba, hsz]; exact hst), ?_, rfl, rfl, rfl, .inr ⟨rfl, ?_, ?_, .inl ⟨hb0, by simp, fun b hb => setRow_other _ _ _ _ hb⟩⟩⟩
        · simp [slAddr]
        · rw [List.length_append]; exact hroom
        · refine ⟨_, ty', setRow_heap w blk cur _ ty' (0, 0) h1, by rw [zcl hfit]; exact h3, RowAt.cat h4 hr (fun j hj => ?_) fun j hj => ?_⟩
          · show (splice cur (off + zs.length * esz P e) news)[off + j]? = _
            rw [zz hfit, if_neg (by omega)]
          · show (splice cur (off + zs.length * esz P e) news)[off + zs.length * esz P e + j]? = _
            rw [zz hfit, if_pos ⟨by omega, by omega⟩, List.getElem?_toArray]; congr 1; omega
  · have hcap := grownCap_ge w (zs.length + ys.length) c0 e
    have hall : (olds.toArray ++ news.toArray ++ Builtin.zeroCells z.cells (grownCap w (zs.length + ys.length) c0 e - (zs.length + ys.length))).size = grownCap w (zs.length + ys.length) c0 e * esz P e := by
      simp only [Array.size_append, List.size_toArray, size_zeroCells, hzs, o1, hlen]
      rw [← Nat.add_mul, ← Nat.add_mul]; congr 1; omega
    refine ⟨_, _, ⟨w.heap.size, 0, grownCap w (zs.length + ys.length) c0 e, false⟩, r3 hroom, ?_, rfl, rfl, rfl, .inr ⟨rfl, ?_, ?_, .inr ⟨rfl, by simp, fun b hb => zb2 w.drew _ hb⟩⟩⟩
    · simp [slAddr]
    · rw [List.length_append]; exact hcap
    · refine ⟨_, e, zb7 w.drew _, by simpa using Nat.le_of_eq hall.symm, RowAt.cat o3 hr (fun j hj => ?_) fun j hj => ?_⟩
      · rw [Array.append_assoc, Array.getElem?_append_left (by simp; omega)]
      · rw [Array.append_assoc, Array.getElem?_append_right (by simp; omega), Array.getElem?_append_left (by simp; omega)]
        congr 1; simp; omega
def StandsC (P : Program) (e : TypeId) (w w' : World) (b0 : Option Nat) (l : Loc) (n : Nat) (all : List Value) : Prop :=
  (l.nil = true ∧ n = 0 ∧ l.cap = 0 ∧ w'.heap = w.heap) ∨
  (l.nil = false ∧ n ≤ l.cap ∧ (∃ cs ty, w'.heap[l.blk]? = some (.cells cs ty (0, 0)) ∧ l.off + l.cap * esz P e ≤ cs.size ∧ ∀ j, j < n * esz P e → cs[l.off + j]? = all[j]?) ∧
    ((b0 = some l.blk ∧ w'.heap.size = w.heap.size ∧ ∀ b, b ≠ l.blk → w'.heap[b]? = w.heap[b]?) ∨ (l.blk = w.heap.size ∧ w'.heap.size = w.heap.size + 1 ∧ ∀ b, b < w.heap.size → w'.heap[b]? = w.heap[b]?)))
def BaseC (P : Program) (e : TypeId) (w : World) (b0 : Option Nat) (A : Option Addr) (c0 n : Nat) (olds : List Value) : Prop :=
  (A = none ∧ n = 0 ∧ c0 = 0 ∧ olds = []) ∨ ∃ blk off cur ty, b0 = some blk ∧ A = some ⟨blk, off, none⟩ ∧ w.heap[blk]? = some (.cells cur ty (0, 0)) ∧ n ≤ c0 ∧ off + c0 * esz P e ≤ cur.size ∧ olds.length = n * esz P e ∧
    ∀ j, j < n * esz P e → cur[off + j]? = olds[j]?
theorem zft {t u ty e : TypeId} {i : TypeInfo} {z : Value} {d : TypeDesc} (ht : P.underlying t = some (.slice e)) (hu : P.underlying u = some d) (hd : ∀ k, d ≠ .int k) (hi : P.info? e = some i) (hz : i.zero = some z)
    (hzs : z.cells.size = esz P e) (h0 : 0 < esz P e) (hby : i.bytes ≤ 128) {b0 : Option Nat} {A : Option Addr} {c0 n m : Nat} {x : Value} {olds news : List Value}
    (hB : BaseC P e w b0 A c0 n olds) (hx : Src P w (esz P e) m x news) (hones : ∀ v ∈ news, v.oneCell' = true) (hb : n + m ≤ most) :
    ∃ v w' l, (Builtin.append_ #[t, u] ty #[.slice A n c0, x]).run P w = .ok v w' ∧ v = .slice (slAddr P e l 0) (n + m) l.cap ∧ w'.os = w.os ∧ w'.tape = w.tape ∧ w'.output = w.output ∧ StandsC P e w w' b0 l (n + m) (olds ++ news) := by
  have hsz : i.size = esz P e := by simp [esz, hi]
  have hlen := hx.length
  have o1 : olds.length = n * esz P e := by
    rcases hB with ⟨_, rfl, _, rfl⟩ | ⟨_, _, _, _, _, _, _, _, _, h, _⟩
    · simp
    · exact h
  have o2 : ∀ w', w'.heap = w.heap → (Builtin.firstCells i.size n (.slice A n c0)).run P w' = .ok olds.toArray w' := by
    intro w' hw
    rcases hB with ⟨rfl, rfl, rfl, rfl⟩ | ⟨blk, off, cur, ty, _, rfl, h1, h2, h3, h4, h5⟩
    · simp [Builtin.firstCells]
    · refine run_firstCells_some w' _ _ _ _ _ olds (by rw [hsz]; exact h4) fun j v hj => ?_
      rw [zba, zbx (by rw [hw]; exact h1)]
      have hlt : j < olds.length := by
        rcases Nat.lt_or_ge j olds.length with h | h
        · exact h
        · simp [List.getElem?_eq_none h] at hj
      rw [h5 j (by omega)]; simpa using hj
  obtain ⟨r1, r2, r3⟩ := zhl (ty := ty) ht hu hd hi hz (A := A) (c0 := c0) (hsz ▸ hx) o2 hb hby
  by_cases hroom : n + m ≤ c0
  · cases hA : A with
    | none =>
      rcases hB with ⟨_, rfl, rfl, rfl⟩ | ⟨blk, off, cur, ty', _, h, _⟩
      · exact ⟨_, w, ⟨0, 0, 0, true⟩, by rw [← hA]; exact r1 hroom hA, by simp [slAddr], rfl, rfl, rfl, .inl ⟨rfl, by omega, rfl, rfl⟩⟩
      · rw [hA] at h; cases h
    | some a =>
      rcases hB with ⟨h, _⟩ | ⟨blk, off, cur, ty', hb0, h, h1, h2, h3, h4, h5⟩
      · rw [hA] at h; cases h
      · rw [h] at hA; cases hA
        have hfit : off + n * esz P e + news.length ≤ cur.size := by
          rw [hlen]
          have := Nat.mul_le_mul_right (esz P e) hroom
          rw [Nat.add_mul] at this
          omega
        have hst := run_storeCells_at P blk (off + n * esz P e) ty' news 0 cur w h1 (by simpa using hfit) hones
        simp only [Nat.add_zero] at hst
        refine ⟨_, w.setRow blk (splice cur (off + n * esz P e) news), ⟨blk, off, c0, false⟩, by rw [h] at r2; exact r2 hroom _ rfl _ (by rw [zba, hsz]; exact hst), ?_, rfl, rfl, rfl, .inr ⟨rfl, hroom, ?_, .inl ⟨hb0, by simp, fun b hb => setRow_other _ _ _ _ hb⟩⟩⟩
        · simp [slAddr]
        · refine ⟨_, ty', setRow_heap w blk cur _ ty' (0, 0) h1, by rw [zcl hfit]; exact h3, fun j hj => ?_⟩
          show (splice cur (off + n * esz P e) news)[off + j]? = _
          rw [Nat.add_mul] at hj
          by_cases hjn : j < n * esz P e
          · rw [zz hfit, if_neg (by omega), h5 j hjn, List.getElem?_append_left (by omega)]
          · rw [zz hfit, if_pos ⟨by omega, by omega⟩, List.getElem?_append_right (by omega)]; congr 1; omega
  · have hcap := grownCap_ge w (n + m) c0 e
    have hall : (olds.toArray ++ news.toArray ++ Builtin.zeroCells z.cells (grownCap w (n + m) c0 e - (n + m))).size = grownCap w (n + m) c0 e * esz P e := by
      simp only [Array.size_append, List.size_toArray, size_zeroCells, hzs, o1, hlen]
      rw [← Nat.add_mul, ← Nat.add_mul]; congr 1; omega
    refine ⟨_, _, ⟨w.heap.size, 0, grownCap w (n + m) c0 e, false⟩, r3 hroom, ?_, rfl, rfl, rfl, .inr ⟨rfl, hcap, ?_, .inr ⟨rfl, by simp, fun b hb => zb2 w.drew _ hb⟩⟩⟩
    · simp [slAddr]
    · refine ⟨_, e, zb7 w.drew _, by simpa using Nat.le_of_eq hall.symm, fun j hj => ?_⟩
      rw [Nat.add_mul] at hj
      show (olds.toArray ++ news.toArray ++ _)[0 + j]? = _
      rw [Nat.zero_add, Array.getElem?_append_left (by simp; omega)]
      simp
theorem Stp.row {id : Nat} {e : TypeId} {g : Bool} {xs : Rw} {ser : Nat} {l : Loc} {w' : World} {b0 : Option Nat} (H : Heap P K X) (hX : X.h = w.heap) (hst : X.ob id = .dead ∨ ∃ e0 fr0 xs0 ser0, X.ob id = .rw e0 fr0 xs0 ser0 ∧ ser0 < ser)
    (hS : Stands P (Con P X.h (X.F g) 7) e w w' b0 l xs) (hb0 : ∀ b, b0 = some b → Own X id ∧ (X.β id).blk = b ∧ (g = true → K.h0.size ≤ b)) (h1 : w'.os = w.os) (h2 : w'.tape = w.tape) (h3 : w'.output = w.output) :
    Stp P K X w ⟨upd X.β id l, X.F, upd X.ob id (.rw e g xs ser), w'.heap, X.γ⟩ w' := by
  have hsz : X.h.size = w.heap.size := by rw [hX]
  have T : Turn P K X ⟨upd X.β id l, X.F, upd X.ob id (.rw e g xs ser), w'.heap, X.γ⟩ (fun i => i = id) := by
    refine ⟨fun fr b h => h, H.Fle, H.Ffr, fun b h => .inl h, ?_, fun b hb hno => ?_, fun i h => zh _ _ h, fun i h => zh _ _ h, fun i h => rfl, fun i h => ?_, fun i b h ho => ?_, fun i i' b h h' _ _ => h.trans h'.symm⟩
    · show _ ≤ w'.heap.size
      rcases hS with ⟨_, _, _, h⟩ | ⟨_, _, _, ⟨_, h, _⟩ | ⟨_, h, _⟩⟩ <;> rw [hsz] <;> first | (rw [h]; exact Nat.le_refl _) | omega
    · show w'.heap[b]? = _
      rw [hX]
      rcases hS with ⟨_, _, _, h⟩ | ⟨_, _, _, ⟨hb1, _, h⟩ | ⟨_, _, h⟩⟩
      · rw [h]
      · obtain ⟨q1, q2, _⟩ := hb0 _ hb1
        exact h b fun e => hno id rfl (by rw [e.trans q2.symm]; exact q1.has)
      · exact h b (by omega)
    · subst h
      unfold Keeps
      rcases hst with h | ⟨e0, fr0, xs0, ser0, h, hlt⟩ <;> rw [h]
      · trivial
      · exact .inr (.inr ⟨e, g, xs, ser, .inl (upd_same _ _ _), hlt⟩)
    · subst h
      obtain ⟨how, hb⟩ := Has.one ho (by simp only [upd_same]; rfl)
      clear ho
      subst hb
      simp only [upd_same]
      have hn : l.nil = false := by unfold Own at how; simpa using how
      rcases hS with ⟨h, _⟩ | ⟨_, _, _, ⟨hb1, _, h⟩ | ⟨h, _, _⟩⟩
      · rw [hn] at h; cases h
      · obtain ⟨q1, q2, _⟩ := hb0 _ hb1
        exact ⟨.inr ⟨i, rfl, q1, .inl q2.symm⟩, fun hF => H.nF i _ q1.has (q2 ▸ hF)⟩
      · exact ⟨.inl (by omega), fun hF => by have := H.Fsz _ hF; omega⟩
  refine T.stp H (fun i h => ?_) rfl h1 h2 h3 (fun i cells h hc => ?_)
  · subst h
    have E := T.ext H
    unfold AOok
    simp only [upd_same]
    rcases hS with ⟨q1, q2, q3, _⟩ | ⟨q1, q2, ⟨cs, ty, q3, q4, q5⟩, q6⟩
    · exact .inl ⟨q1, q2, q3⟩
    · refine .inr ⟨q1, q2, fun hg => ?_, cs, ty, q3, q4, q5.mono fun _ _ _ hx => Con.mono (E.F g) (E.h g) hx⟩
      rcases q6 with ⟨hb1, _⟩ | ⟨hb1, _⟩
      · exact (hb0 _ hb1).2.2 hg
      · rw [hb1, ← hsz]; exact H.sz
  · subst h
    rcases hst with h | ⟨e0, fr0, xs0, ser0, h, _⟩ <;> rw [h] at hc <;> cases hc
end
end Go.Eng
end
