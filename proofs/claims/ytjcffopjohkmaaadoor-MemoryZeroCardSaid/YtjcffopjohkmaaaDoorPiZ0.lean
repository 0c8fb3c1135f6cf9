/- What the law rests on, part 1 of 4: a reading of the program's code over told data, and what it comes to. -/
import Derived.Defers
import Derived.Deep.Draws
import Derived.Orders
import Derived.Laws.AppendOwn
import Derived.Laws.StructEq
import Derived.Laws.MakeOwn
import Derived.Laws.Pointers
import Derived.Great.FillDense
import Derived.Laws.BytesArg
import Derived.Recover
import Derived.Below
import Derived.KernelRfl
import Derived.Test.YtjcffopjohkmaaaDoorChecked
import Derived.ChangeSlices
import Derived.SizedLaws
set_option linter.unusedVariables false
set_option linter.unusedSimpArgs false
set_option maxRecDepth 100000
namespace Go.Proofs.YtjcffopjohkmaaaDoor.Pi
inductive PV where
  | int (k : IntKind) (n : Int)
  | bool (b : Bool)
  | str (s : ByteArray)
  | nil
  | ptr (id off : Nat)
  | elem (cs : List PV)
  | slice (own z : Bool) (sz : Nat) (xs : List PV)
  | win (id off sz n : Nat)
  | lit (sz n : Nat) (cs : List PV)
  | lel (cs : List PV)
  | fn (f : FuncId) (first caps : List PV)
  | nilfn
  | iface (t : TypeId) (v : PV)
  | niliface
  | agg (cs : List PV)
  | tup (vs : List PV)
  | aggo (cs : List PV)
  | undef
  deriving Inhabited
inductive Box where
  | cells (cs : List PV)
  | iter (s : ByteArray) (pos : Nat)
  | dead
abbrev Heap := List Box
inductive Out (α : Type) where
  | ok (a : α) (H : Heap)
  | pan (v : PV) (H : Heap)
def M (α : Type) := Heap → Option (Out α)
namespace M
def bind {α β : Type} (m : M α) (f : α → M β) : M β := fun H =>
  match m H with
  | none => none
  | some (.ok a H') => f a H'
  | some (.pan v H') => some (.pan v H')
def pure {α : Type} (a : α) : M α := fun H => some (.ok a H)
def fail {α : Type} : M α := fun _ => none
def pan {α : Type} (v : PV) : M α := fun H => some (.pan v H)
end M
def PV.cells : PV → List PV
  | .agg cs => cs
  | v => [v]
def isCell : PV → Bool
  | .agg _ | .tup _ | .aggo _ | .undef => false
  | _ => true
def stripC : PV → PV
  | .slice _ z sz xs => .slice false z sz xs
  | v => v
def strip : PV → PV
  | .slice _ z sz xs => .slice false z sz xs
  | .tup vs => .tup (vs.map stripC)
  | .aggo cs => .agg (cs.map stripC)
  | v => v
mutual
def PV.low (n : Nat) : PV → Bool
  | .ptr id _ => decide (id < n)
  | .win id _ _ _ => decide (id < n)
  | .lit _ _ cs => lowL n cs
  | .lel cs => lowL n cs
  | .fn _ a b => lowL n a && lowL n b
  | .iface _ v => v.low n
  | .agg cs => lowL n cs
  | .tup vs => lowL n vs
  | .aggo vs => lowL n vs
  | _ => true
def lowL (n : Nat) : List PV → Bool
  | [] => true
  | v :: r => v.low n && lowL n r
end
mutual
def PV.flat : PV → Bool
  | .int .. | .bool _ | .str _ => true
  | .slice o _ _ _ => !o
  | .agg cs => flatL cs
  | .nil | .niliface | .nilfn => true
  | _ => false
def flatL : List PV → Bool
  | [] => true
  | v :: r => v.flat && flatL r
end
def ofVC : Value → Option PV
  | .int k n => some (.int k n)
  | .bool b => some (.bool b)
  | .string s => some (.str s)
  | .pointer none => some .nil
  | .slice none 0 0 => some (.slice false true 0 [])
  | .nilFunc => some .nilfn
  | .nilIface => some .niliface
  | _ => none
def ofVs : List Value → Option (List PV)
  | [] => some []
  | v :: r => match ofVC v, ofVs r with
    | some a, some b => some (a :: b)
    | _, _ => none
def ofV : Value → PV
  | .agg cs => match ofVs cs.toList with
    | some l => .agg l
    | none => .undef
  | .func (.func f) a b => bif a.size == 0 && b.size == 0 then .fn f [] [] else .undef
  | v => (ofVC v).getD .undef
def tsize (P : Program) (t : TypeId) : Nat := ((P.info? t).map (·.size)).getD 0
def tbytes (P : Program) (t : TypeId) : Nat := ((P.info? t).map (·.bytes)).getD 0
def tzero (P : Program) (t : TypeId) : PV := (((P.info? t).bind (·.zero)).map ofV).getD .undef
def tagg (P : Program) (t : TypeId) : Option Nat :=
  match P.underlying t with
  | some (.struct _) | some (.array _ _) => some (tsize P t)
  | _ => none
def nilDeref (P : Program) : PV := .iface P.rt.errorString (.str "invalid memory address or nil pointer dereference".toUTF8)
def u0p {α : Type} : M α := M.fail
def gd (c : PV) (want : Bool) (m : M PV) : M PV :=
  match c with
  | .bool b => bif b == want then m else M.pure (.tup [])
  | .tup [] => M.pure (.tup [])
  | _ => M.fail
def condM {α : Type} (c : PV) (x y : M α) : M α :=
  match c with
  | .bool b => bif b then x else y
  | _ => M.fail
def pick (c a b : PV) : M PV :=
  match c with
  | .bool t => M.pure (bif t then strip a else strip b)
  | _ => M.fail
def al (cs : List PV) : M PV := fun H => bif cs.all isCell then some (.ok (.ptr H.length 0) (H ++ [.cells cs])) else none
def okC (cs : List PV) : List PV := bif cs.all isCell then cs else []
def alZ (P : Program) (t : TypeId) : M PV := fun H =>
  match (P.info? t).bind (·.zero) with
  | some z => some (.ok (.ptr H.length 0) (H ++ [.cells (okC (ofV z).cells)]))
  | none => none
def bx (n : Nat) (v : PV) : M PV := fun H =>
  bif (v.cells.map stripC).length == n && (lowL (H.length + 1) (v.cells.map stripC) && v.cells.all isCell) then some (.ok (.ptr H.length 0) (H ++ [.cells (v.cells.map stripC)])) else none
def fillAt (off : Nat) (vs cs : List PV) : List PV := cs.take off ++ vs ++ cs.drop (off + vs.length)
def u1i : List (Nat × Nat × PV) → List PV → Option (List PV)
  | [], cs => some cs
  | (off, size, v) :: r, cs => bif v.cells.length == size && (decide (off + size ≤ cs.length) && v.cells.all isCell) then u1i r (fillAt off (v.cells.map stripC) cs) else none
def bd (zero : List PV) (parts : List (Nat × Nat × PV)) : M PV :=
  match u1i parts zero with
  | some cs => M.pure (.agg cs)
  | none => M.fail
def bdO (zero : List PV) (off size : Nat) (v : PV) : M PV :=
  match v with
  | .slice true _ _ _ => bif decide (off + 1 ≤ zero.length) && size == 1 then M.pure (.aggo (fillAt off [v] zero)) else M.fail
  | _ => bd zero [(off, size, v)]
def bxO (n : Nat) (v : PV) : M PV :=
  match v with
  | .aggo cs => fun H => bif cs.length == n && (lowL (H.length + 1) cs && cs.all isCell) then some (.ok (.ptr H.length 0) (H ++ [.cells cs])) else none
  | _ => bx n v
def u0a (a : Option Nat) (v : PV) : Bool :=
  v.flat && match a with
  | some n => (match v with | .agg cs => cs.length == n | _ => false)
  | none => (match v with | .agg _ => false | _ => true)
def bs (own : Bool) (a : Option Nat) (vs : List PV) : M PV :=
  bif (vs.map stripC).all (u0a a) then M.pure (.slice own false (a.getD 1) (vs.map stripC)) else M.fail
def fa (off : Nat) : PV → M PV
  | .ptr id o => M.pure (.ptr id (o + off))
  | .elem cs => M.pure (.elem (cs.drop off))
  | .lel cs => M.pure (.lel (cs.drop off))
  | _ => M.fail
def fd (off : Nat) (n : Option Nat) : PV → M PV
  | .agg cs => match n with
    | none => match cs[off]? with
      | some v => M.pure (stripC v)
      | none => M.fail
    | some n => bif decide (off + n ≤ cs.length) then M.pure (.agg ((cs.drop off).take n)) else M.fail
  | _ => M.fail
def ld (n : Option Nat) (mv : Bool) : PV → M PV
  | .ptr id o => fun H => match H[id]? with
    | some (.cells cs) => match n with
      | none => match cs[o]? with
        | some v => bif mv then some (.ok v (H.set id (.cells (cs.set o (stripC v))))) else some (.ok (stripC v) H)
        | none => none
      | some n => bif decide (o + n ≤ cs.length) then some (.ok (.agg (((cs.drop o).take n).map stripC)) H) else none
    | _ => none
  | .elem cs => match n with
    | none => match cs[0]? with
      | some v => M.pure v
      | none => M.fail
    | some n => bif decide (n ≤ cs.length) then M.pure (.agg (cs.take n)) else M.fail
  | .lel cs => match n with
    | none => match cs[0]? with
      | some v => M.pure v
      | none => M.fail
    | some n => bif decide (n ≤ cs.length) then M.pure (.agg (cs.take n)) else M.fail
  | _ => M.fail
def stG (es : Bool) (n : Nat) (mv : Bool) (a v : PV) : M PV :=
  match a with
  | .ptr id o => fun H => match H[id]? with
    | some (.cells cs) =>
      bif v.cells.length == n && (decide (o + n ≤ cs.length) && ((es || lowL (id + 1) v.cells) && v.cells.all isCell)) then
        some (.ok .undef (H.set id (.cells (fillAt o (bif mv then v.cells else v.cells.map stripC) cs))))
      else none
    | _ => none
  | _ => M.fail
def st (n : Nat) (mv : Bool) (a v : PV) : M PV := stG false n mv a v
def iaA (len sz : Nat) (a i : PV) : M PV :=
  match a, i with
  | .ptr id o, .int _ n => bif decide (0 ≤ n) && decide (n < len) then M.pure (.ptr id (o + n.toNat * sz)) else u0p
  | .elem cs, .int _ n => bif decide (0 ≤ n) && decide (n < len) then M.pure (.elem (cs.drop (n.toNat * sz))) else u0p
  | _, _ => M.fail
def iaS (sz : Nat) (a i : PV) : M PV :=
  match a, i with
  | .slice _ _ sx xs, .int _ n => bif decide (0 ≤ n) && sx == sz then (match xs[n.toNat]? with | some x => M.pure (.elem x.cells) | none => u0p) else u0p
  | .win id off sx k, .int _ n => bif decide (0 ≤ n) && (decide (n < k) && sx == sz) then M.pure (.ptr id (off + n.toNat * sz)) else u0p
  | .lit sx k cs, .int _ n => bif decide (0 ≤ n) && (decide (n < k) && sx == sz) then M.pure (.lel (cs.drop (n.toNat * sz))) else u0p
  | _, _ => M.fail
def ixS (s i : PV) : M PV :=
  match s, i with
  | .str s, .int _ n => bif decide (0 ≤ n) then (match s.data.toList[n.toNat]? with | some b => M.pure (.int .u8 b.toNat) | none => u0p) else u0p
  | _, _ => M.fail
def ixA (len sz : Nat) (a : Option Nat) (v i : PV) : M PV :=
  match v, i with
  | .agg cs, .int _ n => bif decide (0 ≤ n) && decide (n < len) then fd (n.toNat * sz) a (.agg cs) else u0p
  | _, _ => M.fail
def bnd (d : Nat) : Option PV → Option Nat
  | none => some d
  | some (.int _ n) => bif decide (0 ≤ n) then some n.toNat else none
  | _ => none
def slL (se : Nat) (x : PV) (lo hi : Option PV) : M PV :=
  match x with
  | .slice _ z sz xs =>
    match bnd xs.length hi, bnd 0 lo with
    | some h, some l => bif (z || sz == se) && (decide (l ≤ h) && decide (h ≤ xs.length)) then M.pure (.slice false z sz ((xs.take h).drop l)) else M.fail
    | _, _ => M.fail
  | .win id off sx n =>
    match bnd n hi, bnd 0 lo with
    | some h, some l => bif sx == se && (decide (l ≤ h) && decide (h ≤ n)) then M.pure (.win id (off + l * sx) sx (h - l)) else M.fail
    | _, _ => M.fail
  | _ => M.fail
def slL3 (se : Nat) (x : PV) (lo : Option PV) (hi mx : PV) : M PV :=
  match x with
  | .slice _ false sz xs =>
    match bnd xs.length (some hi), bnd 0 lo, bnd 0 (some mx) with
    | some h, some l, some m => bif sz == se && (decide (l ≤ h) && (decide (h ≤ m) && decide (m ≤ xs.length))) then M.pure (.slice false false sz ((xs.take h).drop l)) else M.fail
    | _, _, _ => M.fail
  | .win id off sx n =>
    match bnd n (some hi), bnd 0 lo, bnd 0 (some mx) with
    | some h, some l, some m => bif sx == se && (decide (l ≤ h) && (decide (h ≤ m) && decide (m ≤ n))) then M.pure (.win id (off + l * sx) sx (h - l)) else M.fail
    | _, _, _ => M.fail
  | _ => M.fail
def slH (own : Bool) (n id : Nat) (H : Heap) : Option Box → Option Nat → Option (Out PV)
  | some (.cells cs), some h => bif decide (h ≤ n) && (cs.length == n && (cs.map stripC).all (u0a none)) then some (.ok (.slice own false 1 ((cs.map stripC).take h)) (H.set id .dead)) else none
  | _, _ => none
def slA (own : Bool) (n : Nat) (a : PV) (hi : Option PV) : M PV :=
  match a with
  | .ptr id 0 => fun H => slH own n id H H[id]? (bnd n hi)
  | _ => M.fail
def slHL (n id : Nat) (H : Heap) : Option Box → Option Nat → Option Nat → Option (Out PV)
  | some (.cells cs), some h, some l => bif (decide (l ≤ h) && decide (h ≤ n)) && (cs.length == n && (cs.map stripC).all (u0a none)) then some (.ok (.slice false false 1 (((cs.map stripC).take h).drop l)) (H.set id .dead)) else none
  | _, _, _ => none
def slAL (n : Nat) (a : PV) (lo : PV) (hi : Option PV) : M PV :=
  match a with
  | .ptr id 0 => fun H => slHL n id H H[id]? (bnd n hi) (bnd 0 (some lo))
  | _ => M.fail
def slS (x : PV) (lo hi : Option PV) : M PV :=
  match x with
  | .str s =>
    match bnd s.size hi, bnd 0 lo with
    | some h, some l => bif decide (l ≤ h) && decide (h ≤ s.size) then M.pure (.str (s.extract l h)) else M.fail
    | _, _ => M.fail
  | _ => M.fail
def shiftN (k : IntKind) (y : Int) : Nat := min y.toNat k.bits
def intOp (op : BinOp) (k : IntKind) (a b : Int) : M PV :=
  match op with
  | .add => M.pure (.int k (k.wrap (a + b)))
  | .sub => M.pure (.int k (k.wrap (a - b)))
  | .mul => M.pure (.int k (k.wrap (a * b)))
  | .quo => bif b == 0 then M.fail else M.pure (.int k (k.wrap (a.tdiv b)))
  | .rem => bif b == 0 then M.fail else M.pure (.int k (a.tmod b))
  | .and => M.pure (.int k (k.wrap (BitVec.ofInt k.bits a &&& BitVec.ofInt k.bits b).toNat))
  | .or => M.pure (.int k (k.wrap (BitVec.ofInt k.bits a ||| BitVec.ofInt k.bits b).toNat))
  | .xor => M.pure (.int k (k.wrap (BitVec.ofInt k.bits a ^^^ BitVec.ofInt k.bits b).toNat))
  | .andNot => M.pure (.int k (k.wrap (BitVec.ofInt k.bits a &&& ~~~ BitVec.ofInt k.bits b).toNat))
  | .eql => M.pure (.bool (a == b))
  | .neq => M.pure (.bool (a != b))
  | .lss => M.pure (.bool (decide (a < b)))
  | .leq => M.pure (.bool (decide (a ≤ b)))
  | .gtr => M.pure (.bool (decide (a > b)))
  | .geq => M.pure (.bool (decide (a ≥ b)))
  | _ => M.fail
def strOp (op : BinOp) (a b : ByteArray) : M PV :=
  match op with
  | .add => bif decide (((a.size + b.size : Nat) : Int) ≤ IntKind.i64.max) then M.pure (.str (a ++ b)) else M.fail
  | .eql => M.pure (.bool (a.toList == b.toList))
  | .neq => M.pure (.bool (!(a.toList == b.toList)))
  | .lss => M.pure (.bool (Op.bytesLess a.toList b.toList))
  | .leq => M.pure (.bool (Op.bytesLess a.toList b.toList || a.toList == b.toList))
  | .gtr => M.pure (.bool (!(Op.bytesLess a.toList b.toList || a.toList == b.toList)))
  | .geq => M.pure (.bool (!(Op.bytesLess a.toList b.toList)))
  | _ => M.fail
inductive SK where
  | int | bool | str
def skOf (P : Program) (t : TypeId) : Option SK :=
  match P.underlying t with
  | some (.int _) => some .int
  | some .bool => some .bool
  | some .string => some .str
  | _ => none
def u15 : SK → PV → PV → Option Bool
  | .int, .int k a, .int k' b => bif decide (k = k') then some (a == b) else none
  | .bool, .bool a, .bool b => some (a == b)
  | .str, .str a, .str b => some (a == b)
  | _, _, _ => none
def u1b : List SK → List PV → List PV → Option Bool
  | [], [], [] => some true
  | k :: ks, a :: x, b :: y => match u15 k a b with
    | some true => u1b ks x y
    | some false => some false
    | none => none
  | _, _, _ => none
inductive EqK where
  | bool | ptr | slice | func | iface | struct (ks : List SK) | none
def plainL (nest : TypeId → Option (List SK)) (P : Program) : Nat → List Field → Option (List SK)
  | _, [] => some []
  | i, f :: r => bif f.offset == i && f.name != "_" then
      match skOf P f.type with
      | some k => match plainL nest P (i + 1) r with
        | some ks => some (k :: ks)
        | none => none
      | none => match nest f.type with
        | some ks => match plainL nest P (i + ks.length) r with
          | some ks' => some (ks ++ ks')
          | none => none
        | none => none
    else none
def plainN (P : Program) : Nat → TypeId → Option (List SK)
  | 0, _ => none
  | n + 1, t => match P.underlying t with
    | some (.struct fs) => bif !P.stoodInHeld t && !P.eqGuardType P.depth t then
        match plainL (plainN P n) P 0 fs.toList with
        | some ks => bif ks.length == tsize P t then some ks else none
        | none => none
      else none
    | _ => none
def eqKind (P : Program) (t : TypeId) (c : Bool) : EqK :=
  match P.underlying t with
  | some .bool => .bool
  | some (.pointer _) => .ptr
  | some (.slice _) => .slice
  | some (.func ..) => .func
  | some (.interface _) => bif c then .iface else .none
  | some (.struct fs) => bif !P.stoodInHeld t && !P.eqGuardType P.depth t then (match plainL (plainN P 4) P 0 fs.toList with | some ks => .struct ks | none => .none) else .none
  | _ => .none
def eqPV : EqK → PV → PV → Option Bool
  | .bool, .bool a, .bool b => some (a == b)
  | .ptr, .nil, .nil => some true
  | .ptr, .ptr _ _, .nil | .ptr, .nil, .ptr _ _ => some false
  | .slice, .slice _ z _ _, .slice _ true _ _ => some z
  | .slice, .slice _ true _ _, .slice _ z _ _ => some z
  | .slice, .win _ _ _ _, .slice _ true _ _ => some false
  | .slice, .slice _ true _ _, .win _ _ _ _ => some false
  | .slice, .lit _ _ _, .slice _ true _ _ => some false
  | .slice, .slice _ true _ _, .lit _ _ _ => some false
  | .func, .nilfn, .nilfn => some true
  | .func, .fn .., .nilfn | .func, .nilfn, .fn .. => some false
  | .iface, .niliface, .niliface => some true
  | .iface, .iface .., .niliface | .iface, .niliface, .iface .. => some false
  | .struct ks, .agg x, .agg y => u1b ks x y
  | _, _, _ => none
def bi (op : BinOp) (ek : EqK) (x y : PV) : M PV :=
  match op, x, y with
  | .shl, .int k a, .int _ b => bif decide (b < 0) then M.fail else M.pure (.int k (k.wrap (a * 2 ^ shiftN k b)))
  | .shr, .int k a, .int _ b => bif decide (b < 0) then M.fail else M.pure (.int k (a.fdiv (2 ^ shiftN k b)))
  | op, .int k a, .int k' b => bif decide (k = k') then intOp op k a b else M.fail
  | op, .str a, .str b => strOp op a b
  | .eql, x, y => match eqPV ek x y with | some b => M.pure (.bool b) | none => M.fail
  | .neq, x, y => match eqPV ek x y with | some b => M.pure (.bool (!b)) | none => M.fail
  | _, _, _ => M.fail
def un (op : UnOp) (x : PV) : M PV :=
  match op, x with
  | .neg, .int k n => intOp .sub k 0 n
  | .xor, .int k n => intOp .xor k (if k.signed then -1 else k.max) n
  | .not, .bool b => M.pure (.bool (!b))
  | _, _ => M.fail
def nc (P : Program) (x : PV) : M PV :=
  match x with
  | .nil | .niliface | .nilfn => M.pan (nilDeref P)
  | .ptr .. | .elem _ | .lel _ | .fn .. | .iface .. => M.pure x
  | _ => M.fail
inductive Cv where
  | int (k : IntKind) | same | bytesToStr | strToBytes (e : TypeId) | runeToStr | none
def cvKind (P : Program) (src dst : TypeId) : Cv :=
  match P.underlying src, P.underlying dst with
  | some (.int _), some (.int k) => .int k
  | some .string, some .string => .same
  | some (.int _), some .string => .runeToStr
  | some .string, some (.slice e) => match P.underlying e with
    | some (.int .u8) => .strToBytes e
    | _ => .none
  | some (.slice e), some .string => match P.underlying e with
    | some (.int .u8) => .bytesToStr
    | _ => .none
  | _, _ => .none
def u2h : List PV → Option (List UInt8)
  | [] => some []
  | .int .u8 n :: r => (u2h r).map (UInt8.ofNat n.toNat :: ·)
  | _ => none
def cv (k : Cv) (own : Bool) (x : PV) : M PV :=
  match k, x with
  | .int k, .int _ n => M.pure (.int k (k.wrap n))
  | .same, .str s => M.pure (.str s)
  | .bytesToStr, .slice _ _ _ xs => match u2h xs with
    | some l => M.pure (.str ⟨l.toArray⟩)
    | none => M.fail
  | .strToBytes _, .str s => M.pure (.slice false false 1 (s.data.toList.map fun b => .int .u8 b.toNat))
  | .runeToStr, .int _ n => M.pure (.str (Utf8.encode n))
  | _, _ => M.fail
def ex (i : Nat) : PV → M PV
  | .tup vs => match vs[i]? with
    | some v => M.pure v
    | none => M.fail
  | _ => M.fail
def tupDrop (i : Nat) : PV → PV
  | .tup vs => .tup (vs.set i (stripC (vs.getD i .undef)))
  | .aggo cs => .agg (cs.map stripC)
  | v => v
def isVal : PV → Bool
  | .undef | .tup _ | .aggo _ => false
  | _ => true
def mi (t : TypeId) (v : PV) : M PV := bif isVal v then M.pure (.iface t (stripC v)) else M.fail
def mf (f : FuncId) (first caps : List PV) : M PV := bif first.all isVal && caps.all isVal then M.pure (.fn f (first.map stripC) (caps.map stripC)) else M.fail
def ta (asserted : TypeId) (zero : PV) (commaOk : Bool) : PV → M PV
  | .iface t v => bif t == asserted then M.pure (bif commaOk then .tup [v, .bool true] else v) else bif commaOk then M.pure (.tup [zero, .bool false]) else M.fail
  | .niliface => bif commaOk then M.pure (.tup [zero, .bool false]) else M.fail
  | _ => M.fail
def lnS : PV → M PV
  | .str s => M.pure (.int .i64 s.size)
  | _ => M.fail
def lnL : PV → M PV
  | .slice _ _ _ xs => M.pure (.int .i64 xs.length)
  | .win _ _ _ n => M.pure (.int .i64 n)
  | .lit _ n _ => M.pure (.int .i64 n)
  | _ => M.fail
def tail (sz : Nat) : PV → Option (List PV)
  | .slice _ z sy ys => bif z || sy == sz then some ys else none
  | .str s => bif sz == 1 then some (s.data.toList.map fun b => .int .u8 b.toNat) else none
  | _ => none
def growB (b : Nat) (n : Nat) : Bool := decide (n * max b 1 ≤ 140737488355328)
def ap (own : Bool) (sz b : Nat) (x y : PV) : M PV :=
  match x with
  | .slice o z sx xs => match tail sz y with
    | none => M.fail
    | some ys =>
      bif z then
        bif ys.isEmpty then M.pure (.slice false true sx []) else
        bif growB b ys.length then M.pure (.slice own false sz ys) else M.fail
      else bif o && (sx == sz && growB b (xs.length + ys.length)) then M.pure (.slice own false sz (xs ++ ys)) else M.fail
  | _ => M.fail
def u28 (a : Option Nat) (sz : Nat) : Nat → List PV → List PV
  | 0, _ => []
  | n + 1, cs => (match a with | some _ => .agg (cs.take sz) | none => cs.headD .undef) :: u28 a sz n (cs.drop sz)
def u3w (sz : Nat) (y : PV) (H : Heap) : Option (Nat × List PV) :=
  match y with
  | .slice _ z sy ys => bif z || sy == sz then some (ys.length, ys.flatMap PV.cells) else none
  | .str s => bif sz == 1 then some (s.size, s.data.toList.map fun b => .int .u8 b.toNat) else none
  | .lit sy n cs => bif sy == sz then some (n, cs) else none
  | .win id off sy n => match H[id]? with
    | some (.cells cs) => bif sy == sz && decide (off + n * sz ≤ cs.length) then some (n, ((cs.drop off).take (n * sz)).map stripC) else none
    | _ => none
  | _ => none
def pushW (sz b : Nat) (x y : PV) : M PV := fun H =>
  match u3w sz y H with
  | none => none
  | some (k, ys) => match x with
    | .slice _ true sx _ => bif k == 0 then some (.ok (.slice false true sx []) H) else bif growB b k then some (.ok (.win H.length 0 sz k) (H ++ [.cells ys])) else none
    | .win id 0 sx n => match H[id]? with
      | some (.cells cs) => bif sx == sz && (decide (n * sz ≤ cs.length) && growB b (n + k)) then some (.ok (.win H.length 0 sz (n + k)) (H.set id .dead ++ [.cells (cs.take (n * sz) ++ ys)])) else none
      | _ => none
    | _ => none
def u20 (zero : List PV) : Nat → List PV
  | 0 => []
  | n + 1 => zero ++ u20 zero n
def mkW (zero : List PV) (sz b : Nat) (l c : PV) : M PV := fun H =>
  match l, c with
  | .int _ n, .int _ m => bif (decide (0 ≤ n) && (decide (n ≤ m) && growB b m.toNat)) && (zero.length == sz && zero.all isCell) then some (.ok (.win H.length 0 sz n.toNat) (H ++ [.cells (u20 zero n.toNat)])) else none
  | _, _ => none
def bsW (sz : Nat) (vs : List PV) : M PV := fun H =>
  bif vs.all (fun v => v.cells.length == sz && v.cells.all isCell) then some (.ok (.win H.length 0 sz vs.length) (H ++ [.cells ((vs.flatMap PV.cells).map stripC)])) else none
def bsL (sz : Nat) (vs : List PV) : M PV :=
  bif vs.all (fun v => v.cells.length == sz && v.cells.all isCell) then M.pure (.lit sz vs.length ((vs.flatMap PV.cells).map stripC)) else M.fail
def cvW (x : PV) : M PV := fun H =>
  match x with
  | .win id off sz n => match H[id]? with
    | some (.cells cs) => bif sz == 1 && decide (off + n ≤ cs.length) then (match u2h ((cs.drop off).take n) with
      | some l => some (.ok (.str ⟨l.toArray⟩) H)
      | none => none) else none
    | _ => none
  | _ => none
def apW (own : Bool) (a : Option Nat) (sz b : Nat) (x y : PV) : M PV := fun H =>
  match y with
  | .win id off sy n => match H[id]? with
    | some (.cells cs) => bif sy == sz && (decide (off + n * sz ≤ cs.length) && (u28 a sz n ((cs.drop off).take (n * sz))).all (u0a a)) then ap own sz b x (.slice false false sz (u28 a sz n ((cs.drop off).take (n * sz)))) H else none
    | _ => none
  | y => ap own sz b x y H
def apL (own : Bool) (a : Option Nat) (sz b : Nat) (nw : Bool) (x y : PV) : M PV :=
  match x with
  | .win .. => pushW sz b x y
  | .slice _ true _ _ => bif nw then pushW sz b x y else apW own a sz b x y
  | x => apW own a sz b x y
def mn (x y : PV) : M PV :=
  match x, y with
  | .int k a, .int k' b => bif decide (k = k') then M.pure (.int k (if b < a then b else a)) else M.fail
  | _, _ => M.fail
def mx (x y : PV) : M PV :=
  match x, y with
  | .int k a, .int k' b => bif decide (k = k') then M.pure (.int k (if b > a then b else a)) else M.fail
  | _, _ => M.fail
def mk (own : Bool) (sz b : Nat) (l c : PV) : M PV :=
  match l, c with
  | .int _ n, .int _ m => bif decide (n = 0) && (decide (0 ≤ m) && growB b m.toNat) then M.pure (.slice own false sz []) else M.fail
  | _, _ => M.fail
def rg : PV → M PV
  | .str s => fun H => some (.ok (.ptr H.length 0) (H ++ [.iter s 0]))
  | _ => M.fail
def nx : PV → M PV
  | .ptr id 0 => fun H => match H[id]? with
    | some (.iter s pos) =>
      bif decide (pos < s.size) then some (.ok (.tup [.bool true, .int .i64 pos, .int .i32 (Utf8.decode s pos).1]) (H.set id (.iter s (pos + (Utf8.decode s pos).2)))) else some (.ok (.tup [.bool false]) H)
    | _ => none
  | _ => M.fail
def pn : PV → M PV
  | .iface t v => M.pan (.iface t v)
  | _ => M.fail
end Go.Proofs.YtjcffopjohkmaaaDoor.Pi
namespace Go.Proofs.YtjcffopjohkmaaaDoor.Pi
def GT (b : Nat) : PV := .undef
def LO (o : Oper) : Option Bool :=
  match o.op with
  | .call { callee := .builtin .append, argTypes, .. } => bif argTypes[0]? == some 43 then some true else none
  | .buildSlice t _ _ => bif t == 43 then some false else none
  | _ => none
def EF (f : FuncId) : Bool := [3, 4, 5, 8, 12, 18].contains f
theorem ufc (b : Nat) : GT b = .undef ∨ ∃ cs, GT b = .elem cs := .inl rfl
end Go.Proofs.YtjcffopjohkmaaaDoor.Pi
namespace Go.Proofs.YtjcffopjohkmaaaDoor.Pi
abbrev Env := List PV
abbrev CallT := FuncId → List PV → M PV
inductive Ex where
  | normal | exit (id : Nat) | ret
abbrev K := Ex → Env → M PV
def ev (env : Env) : Operand → PV
  | .tmp t => env.getD t .undef
  | .const v => ofV v
  | .func f => .fn f [] []
  | .global b => GT b
def ukm (ops : Array Oper) (t : Tmp) : Bool :=
  ops.any fun o => match o.op with
    | .assign (.tmp s) => s == t
    | .store _ _ (.tmp s) => s == t
    | .extract (.tmp s) _ => s == t
    | .call { callee := .builtin .append, args, .. } => match (args[0]? : Option Operand) with
      | some (.tmp s) => s == t
      | _ => false
    | _ => false
def moves (ops : Array Oper) (o : Oper) : Bool :=
  match o.op, o.dst with
  | .assign _, _ => true
  | .move _, some d | .load _ _, some d => ukm ops d
  | _, _ => false
def guardM {α : Type} (b : Bool) (m : M α) : M α := bif b then m else M.fail
def known (P : Program) (t : TypeId) : Bool := (P.underlying t).isSome
def listOk (P : Program) (e : TypeId) : Bool :=
  known P e && (decide (0 < tsize P e) && ((tagg P e).getD 1 == tsize P e && match P.info? e with
    | some i => (match i.zero with | some z => z.cells.size == tsize P e | none => false)
    | none => false))
def u61 (P : Program) (t : TypeId) : Bool :=
  match P.underlying t with
  | some (.interface _) | none => false
  | _ => true
def callV (P : Program) (C : CallT) (f : PV) (args : List PV) : M PV :=
  match f with
  | .fn f first caps => C f (first ++ args ++ caps)
  | .nilfn => M.pan (nilDeref P)
  | _ => M.fail
def u4w (P : Program) (own : Bool) (b : Builtin) (tys : Array TypeId) (args : List PV) : M PV :=
  match b, args with
  | .len, [x] => match (tys[0]?).bind P.underlying with
    | some (.array n _) => M.pure (.int .i64 n)
    | some .string => lnS x
    | some (.slice _) => lnL x
    | _ => M.fail
  | .append, [x, y] => match (tys[0]?).bind P.underlying, (tys[1]?).bind P.underlying with
    | some (.slice e), some (.slice _) => guardM (listOk P e) (ap own (tsize P e) (tbytes P e) x y)
    | some (.slice e), some .string => guardM (listOk P e) (ap own (tsize P e) (tbytes P e) x y)
    | _, _ => M.fail
  | .min, [x, y] => mn x y
  | .max, [x, y] => mx x y
  | .panic, [x] => pn x
  | _, _ => M.fail
def recV (rc : Option (Option PV)) (env : Env) : PV :=
  match rc with
  | some (some v) => match env.getD (env.length - 1) .undef with
    | .tup [] => .niliface
    | _ => v
  | _ => .niliface
def single (ps : Array (Nat × Operand)) : Option (Nat × Tmp) :=
  match ps.toList with
  | [(i, .tmp s)] => some (i, s)
  | _ => none
def boxedB (ops : Array Oper) : Option Tmp → Bool
  | some d => ops.any fun o => match o.op with
    | .box _ (.tmp s) => s == d
    | _ => false
  | none => false
def handB (ops : Array Oper) (o : Oper) : Option (Nat × Tmp) :=
  match o.op with
  | .build _ ps => bif boxedB ops o.dst then single ps else none
  | _ => none
def fromB (ops : Array Oper) : Operand → Bool
  | .tmp s => ops.any fun o => o.dst == some s && (handB ops o).isSome
  | _ => false
def parts (P : Program) (env : Env) (place : Nat → Option (Nat × Nat)) (ps : Array (Nat × Operand)) : List (Nat × Nat × PV) :=
  ps.toList.map fun (i, x) => match place i with
    | some (a, b) => (a, b, ev env x)
    | none => (0, 0, .tup [])
def op0 (P : Program) (C : CallT) (es : Bool) (rc : Option (Option PV)) (ops : Array Oper) (env : Env) (o : Oper) : M PV :=
  match o.op with
  | .move x | .assign x => M.pure (bif moves ops o then ev env x else strip (ev env x))
  | .pick c a b => pick (ev env c) (ev env a) (ev env b)
  | .alloc t => bif decide (200 < tsize P t) then alZ P t else al (tzero P t).cells
  | .box t x => bif fromB ops x then bxO (tsize P t) (ev env x) else bx (tsize P t) (ev env x)
  | .build t ps => match P.underlying t with
    | some (.struct fs) => guardM (fs.toList.all (fun f => known P f.type) && isVal (tzero P t)) <| match handB ops o with
      | some (i, s) => match fs[i]? with
        | some f => bdO (tzero P t).cells f.offset (tsize P f.type) (env.getD s .undef)
        | none => M.fail
      | none => bd (tzero P t).cells (parts P env (fun i => (fs[i]?).map fun f => (f.offset, tsize P f.type)) ps)
    | some (.array _ e) => guardM (known P e && (isVal (tzero P t) && (handB ops o).isNone)) <| bd (tzero P t).cells (parts P env (fun i => some (i * tsize P e, tsize P e)) ps)
    | _ => M.fail
  | .buildSlice t n ps => match P.underlying t with
    | some (.slice e) => guardM ((ps.toList.map (·.1)) == List.range n && (decide (n * tsize P e ≤ 16777216) && listOk P e)) (bs o.dst.isSome (tagg P e) (ps.toList.map fun p => ev env p.2))
    | _ => M.fail
  | .load t a => guardM (known P t) <| ld (tagg P t) (moves ops o) (ev env a)
  | .store t a x => guardM (known P t) <| stG es (tsize P t) (match x with | .tmp _ => true | _ => false) (ev env a) (ev env x)
  | .nilCheck x => nc P (ev env x)
  | .binOp op t x y _ => bi op (eqKind P t ((match x with | .const _ => true | _ => false) || (match y with | .const _ => true | _ => false))) (ev env x) (ev env y)
  | .unOp op _ x => un op (ev env x)
  | .convert s d x => cv (cvKind P s d) o.dst.isSome (ev env x)
  | .makeInterface t x => guardM (u61 P t) (mi t (ev env x))
  | .makeFunc (.func f) first caps => mf f (first.toList.map (ev env)) (caps.toList.map (ev env))
  | .makeSlice t l c => match P.underlying t with
    | some (.slice e) => guardM (listOk P e) <| mk o.dst.isSome (tsize P e) (tbytes P e) (ev env l) (ev env c)
    | _ => M.fail
  | .slice t x lo hi (some mx) => match P.underlying t, hi with
    | some (.slice e), some hi => guardM (known P e) <| slL3 (tsize P e) (ev env x) (lo.map (ev env)) (ev env hi) (ev env mx)
    | _, _ => M.fail
  | .slice t x lo hi none => match P.underlying t with
    | some .string => slS (ev env x) (lo.map (ev env)) (hi.map (ev env))
    | some (.slice e) => guardM (known P e) <| slL (tsize P e) (ev env x) (lo.map (ev env)) (hi.map (ev env))
    | some (.array n e) => guardM (known P e && tsize P e == 1) <| match lo with | none => slA o.dst.isSome n (ev env x) (hi.map (ev env)) | some q => slAL n (ev env x) (ev env q) (hi.map (ev env))
    | _ => M.fail
  | .fieldAddr s x f => match P.underlying s with
    | some (.struct fs) => match fs[f]? with
      | some fd => guardM (known P fd.type && !(tsize P fd.type == 0)) (fa fd.offset (ev env x))
      | none => M.fail
    | _ => M.fail
  | .field t x f => match P.underlying t with
    | some (.struct fs) => match fs[f]? with
      | some fl => guardM (known P fl.type) <| fd fl.offset (tagg P fl.type) (ev env x)
      | none => M.fail
    | _ => M.fail
  | .indexAddr t x i => match P.underlying t with
    | some (.array n e) => guardM (known P e) <| iaA n (tsize P e) (ev env x) (ev env i)
    | some (.slice e) => guardM (known P e) <| iaS (tsize P e) (ev env x) (ev env i)
    | _ => M.fail
  | .index t x i => match P.underlying t with
    | some .string => ixS (ev env x) (ev env i)
    | some (.array n e) => guardM (known P e) <| ixA n (tsize P e) (tagg P e) (ev env x) (ev env i)
    | _ => M.fail
  | .range t x => match P.underlying t with
    | some .string => rg (ev env x)
    | _ => M.fail
  | .next it true => nx (ev env it)
  | .typeAssert x _ t ok => match P.underlying t with
    | some (.interface _) => M.fail
    | some _ => guardM (isVal (tzero P t)) <| ta t (tzero P t) ok (ev env x)
    | none => M.fail
  | .extract t i => ex i (ev env t)
  | .panic x => pn (ev env x)
  | .call { callee := .value f, args, .. } => callV P C (ev env f) (args.toList.map fun x => strip (ev env x))
  | .call { callee := .builtin .recover, .. } => match rc with
    | none => M.fail
    | some _ => M.pure (recV rc env)
  | .call { callee := .builtin b, args, argTypes } => u4w P o.dst.isSome b argTypes (args.toList.map (ev env))
  | _ => M.fail
def cvX (own : Bool) (x : PV) : M PV :=
  match x with
  | .win id off sz n => cvW (.win id off sz n)
  | v => cv .bytesToStr own v
def opL (P : Program) (nw : Bool) (env : Env) (o : Oper) : M PV :=
  match o.op with
  | .buildSlice t n ps => match P.underlying t with
    | some (.slice e) => guardM ((ps.toList.map (·.1)) == List.range n && (decide (n * tsize P e ≤ 16777216) && listOk P e)) (bif nw then bsW (tsize P e) (ps.toList.map fun p => ev env p.2) else bsL (tsize P e) (ps.toList.map fun p => ev env p.2))
    | _ => M.fail
  | .makeSlice t l c => match P.underlying t with
    | some (.slice e) => guardM (nw && listOk P e) <| mkW (tzero P e).cells (tsize P e) (tbytes P e) (ev env l) (ev env c)
    | _ => M.fail
  | .convert s d x => match cvKind P s d with
    | .bytesToStr => cvX o.dst.isSome (ev env x)
    | _ => M.fail
  | .call { callee := .builtin .append, args, argTypes } => match args.toList.map (ev env), (argTypes[0]?).bind P.underlying, (argTypes[1]?).bind P.underlying with
    | [x, y], some (.slice e), some (.slice _) => guardM (listOk P e) (apL o.dst.isSome (tagg P e) (tsize P e) (tbytes P e) nw x y)
    | [x, y], some (.slice e), some .string => guardM (listOk P e) (apL o.dst.isSome (tagg P e) (tsize P e) (tbytes P e) nw x y)
    | _, _, _ => M.fail
  | _ => M.fail
def opVal (P : Program) (C : CallT) (es : Bool) (rc : Option (Option PV)) (ops : Array Oper) (env : Env) (o : Oper) : M PV :=
  match LO o with
  | none => op0 P C es rc ops env o
  | some nw => opL P nw env o
def gval (P : Program) (C : CallT) (es : Bool) (rc : Option (Option PV)) (ops : Array Oper) (env : Env) (o : Oper) : M PV :=
  match o.guard with
  | none => opVal P C es rc ops env o
  | some (j, want) => match (ops[j]?).bind (·.dst) with
    | some d => gd (env.getD d .undef) want (opVal P C es rc ops env o)
    | none => M.fail
def given (ops : Array Oper) (o : Oper) : Option (Tmp × Option Nat) :=
  match o.op with
  | .move (.tmp s) | .assign (.tmp s) => bif moves ops o then some (s, none) else none
  | .store _ _ (.tmp s) => some (s, none)
  | .extract (.tmp s) i => some (s, some i)
  | .build _ _ => (handB ops o).map fun x => (x.2, none)
  | .box _ (.tmp s) => bif fromB ops (.tmp s) then some (s, none) else none
  | .call { callee := .builtin .append, args, .. } => match (args[0]? : Option Operand) with
    | some (.tmp s) => some (s, none)
    | _ => none
  | _ => none
def giveUp (env : Env) : Option (Tmp × Option Nat) → Env
  | some (s, none) => env.set s (strip (env.getD s .undef))
  | some (s, some i) => env.set s (tupDrop i (env.getD s .undef))
  | none => env
def u05 (o : Oper) : Bool :=
  match o.op with
  | .call { callee := .builtin .recover, .. } => true
  | _ => false
def putDst (env : Env) (d : Option Tmp) (v : PV) : Env :=
  match d with
  | some d => env.set d v
  | none => env
def took (rc : Option (Option PV)) (o : Oper) (env : Env) : Env :=
  bif u05 o && rc.isSome then env.set (env.length - 1) (.tup []) else env
def put (rc : Option (Option PV)) (ops : Array Oper) (env : Env) (o : Oper) (v : PV) : Env := putDst (took rc o (giveUp env (given ops o))) o.dst v
def deferM (CD : Option PV → CallT) (f : PV) (args : List PV) (rest res : M PV) : M PV := fun H =>
  match f with
  | .fn f first caps =>
    match rest H with
    | some (.ok _ H') => M.bind (CD none f (first ++ args ++ caps)) (fun _ => res) H'
    | some (.pan v H') => M.bind (CD (some v) f (first ++ args ++ caps)) (fun r => match r with | .tup [] => res | _ => M.fail) H'
    | none => none
  | _ => none
def u77 : PV → Bool
  | .undef => true
  | _ => false
def okDst (dmode : Bool) (prot : List Tmp) (env : Env) (d : Option Tmp) : Bool :=
  match d with
  | some d => (!(prot.contains d) || u77 (env.getD d .undef)) && (!dmode || decide (d + 1 < env.length))
  | none => true
def isPtr : PV → Bool
  | .ptr _ _ => true
  | _ => false
structure Ctx where
  P : Program
  prot : List Tmp
  es : Bool
  C : CallT
  CD : Option PV → CallT
  rc : Option (Option PV)
  res : Env → M PV
def dOps (c : Ctx) (ops : Array Oper) : List Oper → Env → (Env → M PV) → M PV
  | [], env, k => k env
  | o :: r, env, k => guardM (okDst c.rc.isSome c.prot env o.dst) <| match o.op with
    | .defer { callee := .value f, args, .. } => match o.guard with
      | none => guardM (!c.prot.isEmpty && c.prot.all fun t => isPtr (env.getD t .undef)) <| deferM c.CD (ev env f) (args.toList.map fun x => strip (ev env x)) (dOps c ops r (put c.rc ops env o .undef) k) (c.res env)
      | some _ => M.fail
    | .move x | .assign x => match o.guard with
      | none => dOps c ops r (put c.rc ops env o (bif moves ops o then ev env x else strip (ev env x))) k
      | some _ => M.bind (gval c.P c.C c.es c.rc ops env o) fun v => dOps c ops r (put c.rc ops env o v) k
    | _ => M.bind (gval c.P c.C c.es c.rc ops env o) fun v => dOps c ops r (put c.rc ops env o v) k
theorem u38 (c : Ctx) (ops : Array Oper) (o : Oper) (r : List Oper) (env : Env) (k : Env → M PV) : dOps c ops (o :: r) env k = (guardM (okDst c.rc.isSome c.prot env o.dst) <| match o.op with
    | .defer { callee := .value f, args, .. } => match o.guard with
      | none => guardM (!c.prot.isEmpty && c.prot.all fun t => isPtr (env.getD t .undef)) <| deferM c.CD (ev env f) (args.toList.map fun x => strip (ev env x)) (dOps c ops r (put c.rc ops env o .undef) k) (c.res env)
      | some _ => M.fail
    | _ => M.bind (gval c.P c.C c.es c.rc ops env o) fun v => dOps c ops r (put c.rc ops env o v) k) := by
  obtain ⟨dst, op, ty, pos, after, guard⟩ := o
  cases op with
  | move x => cases guard <;> rfl
  | assign x => cases guard <;> rfl
  | defer cl =>
    obtain ⟨callee, args, tys⟩ := cl
    cases callee <;> first | rfl | (cases guard <;> rfl)
  | _ => rfl
def u4p (ops : Array Oper) (o : Oper) : List Tmp :=
  match given ops o with
  | some (s, _) => [s]
  | none => []
def u2x (ops : Array Oper) (o : Oper) : List Tmp := o.dst.toList ++ u4p ops o
def apartN (ops : Array Oper) (x y : Oper) : Bool :=
  (u2x ops x).all (fun t => !(y.looksAt ops).contains t && !(u2x ops y).contains t) && (u2x ops y).all (fun t => !(x.looksAt ops).contains t)
def noPan (m : M PV) : M PV := fun H =>
  match m H with
  | some (.ok v H') => some (.ok v H')
  | _ => none
def exPair (x y : Oper) : Bool :=
  match x.op, y.op, x.dst, y.dst with
  | .extract (.tmp s) i, .extract (.tmp t) j, some a, some b => s == t && (i != j && (a != b && (a != s && (b != s && (x.guard.isNone && y.guard.isNone)))))
  | _, _, _, _ => false
def apartE (ops : Array Oper) (x y : Oper) : Bool := apartN ops x y || exPair x y
def u0e (o : Oper) : Bool :=
  match o.op with
  | .store .. => true
  | _ => false
inductive Touch where
  | no | ld (id : Nat) | st (id : Nat) | any | al (n : Nat)
def tld : PV → Touch
  | .ptr id _ => .ld id
  | _ => .no
def tst : PV → Touch
  | .ptr id _ => .st id
  | _ => .no
def maskB (acc : List Nat) (o : Oper) : Nat := o.after.toList.foldl (fun s e => bif Region.binds .any e then s ||| (2 ^ e.on ||| acc.getD e.on 0) else s) 0
def befs : List Oper → List Nat → List Nat
  | [], acc => acc
  | o :: r, acc => befs r (acc ++ [maskB acc o])
def ub5 (o : Oper) : Bool :=
  match o.op with
  | .defer _ => true
  | _ => false
def commB (ops : Array Oper) : Bool :=
  let b := befs ops.toList []
  (List.range ops.size).all fun j => match ops[j]? with
    | some y => !u05 y && (!ub5 y && (y.after.toList.all (fun e => !Region.binds .any e || decide (e.on < j)) &&
        (List.range j).all fun i => (b.getD j 0).testBit i || match ops[i]? with | some x => apartE ops x y | none => true))
    | none => true
noncomputable def nb {α β : Type} (m : M α) (f : α → M β) : M β := fun H => by
  classical
  exact match m H with
  | some (.ok v H') => if H' = H then f v H else none
  | _ => none
noncomputable def dOpsN (c : Ctx) (ops : Array Oper) : List Oper → Env → (Env → M PV) → M PV
  | [], env, k => k env
  | o :: r, env, k => guardM (okDst c.rc.isSome c.prot env o.dst) <| match o.op with
    | .move x | .assign x => match o.guard with
      | none => dOpsN c ops r (put c.rc ops env o (bif moves ops o then ev env x else strip (ev env x))) k
      | some _ => nb (gval c.P c.C c.es c.rc ops env o) fun v => dOpsN c ops r (put c.rc ops env o v) k
    | _ => nb (gval c.P c.C c.es c.rc ops env o) fun v => dOpsN c ops r (put c.rc ops env o v) k
theorem ui2 {α β : Type} (v : α) (f : α → M β) : nb (M.pure v) f = f v := by
  funext H
  simp [nb, M.pure]
theorem u3z (c : Ctx) (ops : Array Oper) (o : Oper) (r : List Oper) (env : Env) (k : Env → M PV) : dOpsN c ops (o :: r) env k = (guardM (okDst c.rc.isSome c.prot env o.dst) <| nb (gval c.P c.C c.es c.rc ops env o) fun v => dOpsN c ops r (put c.rc ops env o v) k) := by
  obtain ⟨dst, op, ty, pos, after, guard⟩ := o
  cases op with
  | move x =>
    cases guard with
    | none => exact (congrArg _ (ui2 _ _).symm)
    | some _ => rfl
  | assign x =>
    cases guard with
    | none => exact (congrArg _ (ui2 _ _).symm)
    | some _ => rfl
  | _ => rfl
def pureO (o : Oper) : Bool :=
  (match LO o, o.op with | none, _ => true | some false, .buildSlice .. => true | _, _ => false) && match o.op with
  | .move _ | .assign _ | .pick .. | .extract _ _ | .fieldAddr .. | .field .. | .nilCheck _ | .typeAssert .. | .binOp .. | .unOp .. | .convert .. | .makeInterface .. | .build .. | .buildSlice .. | .makeSlice .. | .indexAddr .. | .index .. => true
  | .call { callee := .builtin .append, .. } | .call { callee := .builtin .len, .. } | .call { callee := .builtin .min, .. } | .call { callee := .builtin .max, .. } => true
  | _ => false
def quietO (o : Oper) : Bool :=
  match o.op with
  | .load .. | .store .. => o.guard.isNone
  | _ => true
def touch (env : Env) (o : Oper) : Touch :=
  match o.op with
  | .load _ a => tld (ev env a)
  | .store _ a _ => tst (ev env a)
  | _ => bif pureO o then .no else .any
def clash (y x : Touch) : Bool :=
  match y with
  | .no => false
  | .ld j => (match x with | .st i => i == j | .al n => decide (n ≤ j) | _ => false)
  | .st j => (match x with | .no => false | .ld i => i == j | .st i => i == j | .any => true | .al n => decide (n ≤ j))
  | .any => (match x with | .st _ => true | .al _ => true | _ => false)
  | .al _ => (match x with | .any => true | .al _ => true | _ => false)
def uik (b : List Nat) (i : Nat) (τ : Touch) (ts : List (Nat × Touch)) : Bool := ts.all fun t => (b.getD i 0).testBit t.1 || !clash τ t.2
noncomputable def dOpsW (c : Ctx) (ops : Array Oper) : Nat → List (Nat × Touch) → List Oper → Env → (Env → M PV) → M PV
  | _, _, [], env, k => k env
  | i, ts, o :: r, env, k => guardM (okDst c.rc.isSome c.prot env o.dst && (quietO o && uik (befs ops.toList []) i (touch env o) ts)) <| bif u0e o
    then M.bind (noPan (gval c.P c.C c.es c.rc ops env o)) fun v => dOpsW c ops (i + 1) ((i, touch env o) :: ts) r (put c.rc ops env o v) k
    else nb (gval c.P c.C c.es c.rc ops env o) fun v => dOpsW c ops (i + 1) ((i, touch env o) :: ts) r (put c.rc ops env o v) k
def isAl (o : Oper) : Bool :=
  match o.op with
  | .alloc _ => o.guard.isNone
  | _ => false
def isLd (o : Oper) : Bool :=
  match o.op with
  | .load .. => o.guard.isNone
  | _ => false
def ula : PV → Touch
  | .ptr n _ => .al n
  | _ => .any
def touchV (env : Env) (o : Oper) (v : PV) : Touch := bif isAl o then ula v else touch env o
def isAlT : Touch → Bool
  | .al _ => true
  | _ => false
def u5v (b : List Nat) (i : Nat) (τ : Touch) (ts : List (Nat × Touch)) : Bool := ts.all fun t => (b.getD i 0).testBit t.1 || (!clash τ t.2 || (isAlT τ && isAlT t.2))
noncomputable def dOpsA {β : Type} (c : Ctx) (ops : Array Oper) : List Nat → List (Nat × Touch) → Env → (Env → M β) → M β
  | [], _, env, k => k env
  | i :: r, ts, env, k => match ops[i]? with
    | some o => guardM (okDst c.rc.isSome c.prot env o.dst && quietO o) <| bif u0e o || isAl o
      then M.bind (noPan (gval c.P c.C c.es c.rc ops env o)) fun v => guardM (u5v (befs ops.toList []) i (touchV env o v) ts) (dOpsA c ops r ((i, touchV env o v) :: ts) (put c.rc ops env o v) k)
      else nb (gval c.P c.C c.es c.rc ops env o) fun v => guardM (u5v (befs ops.toList []) i (touchV env o v) ts) (dOpsA c ops r ((i, touchV env o v) :: ts) (put c.rc ops env o v) k)
    | none => M.fail
def renV (n : Nat) (p q : PV) : Prop := (p = q ∧ p.low n = true) ∨ (∃ o, p = .ptr n o ∧ q = .ptr (n + 1) o) ∨ ∃ o, p = .ptr (n + 1) o ∧ q = .ptr n o
def u99 (n : Nat) (e1 : Env) (H1 : Heap) (e2 : Env) (H2 : Heap) : Prop :=
  ∃ (H0 : Heap) (x1 x2 : List PV), H0.length = n ∧ H1 = H0 ++ [.cells x1, .cells x2] ∧ H2 = H0 ++ [.cells x2, .cells x1] ∧ (∀ c ∈ x1 ++ x2, c.low n = true ∧ stripC c = c) ∧ e1.length = e2.length ∧ ∀ t, renV n (e1.getD t .undef) (e2.getD t .undef)
noncomputable def chkA {β : Type} (m2 m1 : M Env) (x : M β) : M β := fun H => by
  classical
  exact match m2 H, m1 H with
  | some (.ok e2 H2), some (.ok e1 H1) => if u99 H.length e1 H1 e2 H2 then x H else none
  | _, _ => none
def alsOf (ops : Array Oper) : List Nat := (List.range ops.size).filter fun i => match ops[i]? with | some o => isAl o | none => false
def mvL (a1 a2 : Nat) (l : List Nat) : List Nat := l.flatMap fun i => bif i == a1 then [a2, a1] else bif i == a2 then [] else [i]
def consA (b : List Nat) : List Nat → Bool
  | [] => true
  | i :: r => r.all (fun j => !(b.getD i 0).testBit j) && consA b r
def modeA (ops : Array Oper) : Bool :=
  match alsOf ops with
  | [a1, a2] => !((befs ops.toList []).getD a2 0).testBit a1 && (ops.any u0e && ((ops.all fun o => pureO o || (isAl o || (u0e o || isLd o))) && consA (befs ops.toList []) (mvL a1 a2 (List.range ops.size))))
  | _ => false
noncomputable def dOpsAA (c : Ctx) (ops : Array Oper) (env : Env) (k : Env → M PV) : M PV :=
  match alsOf ops with
  | [a1, a2] => chkA (dOpsA c ops (mvL a1 a2 (List.range ops.size)) [] env M.pure) (dOpsA c ops (List.range ops.size) [] env M.pure) (dOpsA c ops (List.range ops.size) [] env k)
  | _ => M.fail
def isCall (o : Oper) : Bool :=
  match o.op with
  | .call { callee := .value _, .. } => true
  | _ => false
def arr : Nat → List Nat → List (List Nat)
  | 0, _ => [[]]
  | n + 1, l => l.flatMap fun i => (arr n (l.erase i)).map (i :: ·)
def consB (b : List Nat) : List Nat → Bool
  | [] => true
  | i :: r => r.all (fun j => !(b.getD i 0).testBit j) && consB b r
def isPure (ops : Array Oper) (i : Nat) : Bool := match ops[i]? with | some o => pureO o | none => true
def isHeap (ops : Array Oper) (i : Nat) : Bool := !isPure ops i
def sched (ops : Array Oper) (b : List Nat) : List Nat → List Nat → List Nat
  | rest, [] => rest
  | rest, h :: r =>
    let early := rest.filter fun i => isPure ops i && rest.all fun j => isPure ops j || !(b.getD i 0).testBit j
    early ++ h :: sched ops b (rest.filter fun i => !early.contains i && i != h) r
def keepO (ops : Array Oper) (o : Oper) : Bool := pureO o || match o.op with | .load _ _ => !moves ops o | _ => false
def keepI (ops : Array Oper) (i : Nat) : Bool := match ops[i]? with | some o => keepO ops o | none => true
def u7l : List Nat → Nat → Nat → Bool
  | [], _, _ => true
  | z :: r, x, y => bif z == x then true else bif z == y then false else u7l r x y
def closeB (ops : Array Oper) : List Nat → List Nat → Bool
  | [], _ => true
  | x :: r, π => r.all (fun y => u7l π x y || (keepI ops x && keepI ops y)) && closeB ops r π
def repsB (ops : Array Oper) : List (List Nat) → List (List Nat) → List (List Nat)
  | acc, [] => acc.reverse
  | acc, π :: r => bif acc.any (fun σ => closeB ops σ π) then repsB ops acc r else repsB ops (π :: acc) r
def ordsN (ops : Array Oper) (n : Nat) : List (List Nat) :=
  let b := befs ops.toList []
  let h := (List.range n).filter (isHeap ops)
  (repsB ops [] ((arr h.length h).filter (consB b))).map (sched ops b (List.range n))
def ordsOf (ops : Array Oper) : List (List Nat) := ordsN ops ops.size
def goodP (ops : Array Oper) (n : Nat) (σs : List (List Nat)) : Bool :=
  let b := befs ops.toList []
  let h := (List.range n).filter (isHeap ops)
  consB b (List.range n) && (σs.all (fun σ => σ.length == n && ((List.range n).all (fun i => σ.contains i) && consB b σ)) &&
    ((arr h.length h).all (fun π => !consB b π || σs.any fun σ => closeB ops (σ.filter (isHeap ops)) π) &&
    (List.range n).all fun j => (List.range j).all fun i => (b.getD j 0).testBit i || match ops[i]?, ops[j]? with | some x, some y => apartE ops x y | _, _ => false))
def lastB (ops : Array Oper) : Bool :=
  match ops[ops.size - 1]? with
  | some o => isCall o && (List.range (ops.size - 1)).all fun i => ((befs ops.toList []).getD (ops.size - 1) 0).testBit i
  | none => false
noncomputable def dOpsL {β : Type} (c : Ctx) (ops : Array Oper) : List Nat → Env → (Env → M β) → M β
  | [], env, k => k env
  | i :: r, env, k => match ops[i]? with
    | some o => guardM (okDst c.rc.isSome c.prot env o.dst) <| M.bind (noPan (gval c.P c.C c.es c.rc ops env o)) fun v => dOpsL c ops r (put c.rc ops env o v) k
    | none => M.fail
noncomputable def chk {α β : Type} (m m' : M α) (x : M β) : M β := fun H => by
  classical
  exact match m H, m' H with
  | some (.ok a Ha), some (.ok b Hb) => if a = b ∧ Ha = Hb then x H else none
  | _, _ => none
noncomputable def chkL (c : Ctx) (ops : Array Oper) (env : Env) (σ0 : List Nat) : List (List Nat) → M PV → M PV
  | [], x => x
  | σ :: r, x => chk (dOpsL c ops σ env M.pure) (dOpsL c ops σ0 env M.pure) (chkL c ops env σ0 r x)
noncomputable def dOpsPN (c : Ctx) (ops : Array Oper) (n : Nat) (env : Env) (k : Env → M PV) : M PV :=
  guardM (goodP ops n (ordsN ops n)) <| match ordsN ops n with
    | [] => M.fail
    | σ0 :: r => chkL c ops env σ0 r (dOpsL c ops σ0 env k)
noncomputable def u3f (c : Ctx) (ops : Array Oper) (n : Nat) (k : Env → M PV) (e : Env) : M PV := match ops[n]? with
  | some o => guardM (okDst c.rc.isSome c.prot e o.dst) <| M.bind (gval c.P c.C c.es c.rc ops e o) fun v => k (put c.rc ops e o v)
  | none => M.fail
noncomputable def dOpsP (c : Ctx) (ops : Array Oper) (env : Env) (k : Env → M PV) : M PV :=
  bif lastB ops then dOpsPN c ops (ops.size - 1) env (u3f c ops (ops.size - 1) k) else dOpsPN c ops ops.size env k
def modeP (ops : Array Oper) : Bool :=
  decide (((List.range ops.size).filter (isHeap ops)).length ≤ 6) && (bif ops.any u0e then decide ((ordsOf ops).length ≤ 12) else ops.any isCall && decide ((ordsOf ops).length ≤ 1))
def ukz (o : Oper) : List Tmp := o.op.operands.toList.filterMap fun | .tmp t => some t | _ => none
def rwOps (ops : Array Oper) : List Tmp × List Tmp :=
  ops.foldl (fun (r, w) o =>
    ((ukz o ++ (match o.guard with | some (j, _) => ((ops[j]?).bind (·.dst)).toList | none => [])).filter (fun t => !w.contains t && !r.contains t) ++ r,
     match o.dst with | some d => (match o.guard with | none => d :: w | some _ => d :: w) | none => w)) ([], [])
def rw : Code → List Tmp × List Tmp × List Tmp
  | .region _ ops _ => let (r, w) := rwOps ops; (r, w, w)
  | .seq a b => let (ra, wa, pa) := rw a; let (rb, wb, pb) := rw b; (ra ++ rb.filter (fun t => !wa.contains t && !ra.contains t), wa ++ wb, pa ++ pb)
  | .cond c a b => let (ra, wa, pa) := rw a; let (rb, wb, pb) := rw b
    ((match c with | .tmp t => [t] | _ => []) ++ ra ++ rb, wa.filter wb.contains, pa ++ pb)
  | .block _ b => let (r, _, p) := rw b; (r, [], p)
  | .loop b => let (r, _, p) := rw b; (r, [], p)
  | .scope b => let (r, _, p) := rw b; (r, [], p)
  | _ => ([], [], [])
def alive (after : List Tmp) (b : Code) : List Tmp := (rw b).1 ++ after
def u2d (l : List Tmp) : Nat → Env → Env
  | _, [] => []
  | i, v :: r => (bif l.contains i then v else .undef) :: u2d l (i + 1) r
def keep (l : List Tmp) (env : Env) : Env := u2d l 0 env
def outs : Code → List (Option Nat)
  | .seq a b => (outs a).filter (·.isSome) ++ (bif (outs a).any (·.isNone) then outs b else [])
  | .cond _ a b => outs a ++ outs b
  | .block id b => (outs b).map fun o => bif o == some id then none else o
  | .loop b => (outs b).filter (·.isSome)
  | .exit id => [some id]
  | .ret => []
  | _ => [none]
def joinB (a : Code) : Bool := decide (1 < ((outs a).filter (·.isNone)).length)
def LoopT := List Tmp → Code → Env → K → M PV
noncomputable def den (c : Ctx) (L : LoopT) : List Tmp → Code → Env → K → M PV
  | _, .skip, env, k => k .normal env
  | _, .region _ ops false, env, k => dOps c ops ops.toList env (k .normal)
  | _, .region _ ops true, env, k => guardM (c.P.follows .mixedOrders && commB ops) (bif modeA ops && (c.rc.isNone && (c.prot.isEmpty && !c.es)) then dOpsAA c ops env (k .normal) else bif modeP ops && c.rc.isNone then dOpsP c ops env (k .normal) else bif ops.any u0e || c.rc.isSome then dOpsW c ops 0 [] ops.toList env (k .normal) else dOpsN c ops ops.toList env (k .normal))
  | af, .seq a b, env, k => den c L ((rw b).1 ++ af) a env fun
    | .normal, env' => bif c.rc.isNone && joinB a then L af b (keep ((rw b).1 ++ af) env') k else den c L af b env' k
    | e, env' => k e env'
  | af, .cond x a b, env, k => condM (ev env x) (den c L af a env k) (den c L af b env k)
  | af, .block id b, env, k => den c L af b env fun
    | .exit i, env' => bif i == id then k .normal env' else k (.exit i) env'
    | e, env' => k e env'
  | af, .loop b, env, k => L af (.loop b) (keep (alive af b) env) k
  | _, .exit id, env, k => k (.exit id) env
  | _, .label _, env, k => k .normal env
  | _, .ret, env, k => k .ret env
  | _, _, _, _ => M.fail
noncomputable def go1 (c : Ctx) (L : LoopT) (af : List Tmp) (co : Code) (env : Env) (k : K) : M PV :=
  match co with
  | .loop b => den c L (alive af b) b env fun
    | .normal, env' => L af (.loop b) (keep (alive af b) env') k
    | e, env' => k e env'
  | co => den c L af co env k
def isTup : PV → Bool
  | .tup _ | .aggo _ => true
  | _ => false
def resV (P : Program) (env : Env) : List ResultVar → List PV → (List PV → M PV) → M PV
  | [], acc, k => k acc.reverse
  | .tmp t :: r, acc, k => bif isTup (env.getD t .undef) then M.fail else resV P (env.set t (strip (env.getD t .undef))) r (env.getD t .undef :: acc) k
  | .cell a t :: r, acc, k => guardM (known P t) <| M.bind (ld (tagg P t) true (env.getD a .undef)) fun v => guardM (!isTup v) <| resV P env r (v :: acc) k
def resM (P : Program) (fn : Func) (env : Env) : M PV :=
  resV P env fn.results.toList [] fun
    | [v] => M.pure v
    | vs => M.pure (.tup vs)
def trunc (m : M PV) : M PV := fun H =>
  match m H with
  | none => none
  | some (.ok v H') => some (.ok v (bif v.low H.length then H'.take H.length else H'))
  | some (.pan v H') => bif v.low H.length then some (.pan v (H'.take H.length)) else none
noncomputable def truncE (m : M PV) : M PV := fun H => by
  classical
  exact match m H with
  | none => none
  | some (.ok v H') => some (.ok v (if v.low H.length = true ∧ H'.take H.length = H then H else H'))
  | some (.pan v H') => some (.pan v (if v.low H.length = true ∧ H'.take H.length = H then H else H'))
noncomputable def trM (es : Bool) (m : M PV) : M PV := bif es then truncE m else trunc m
noncomputable def asWas (m : M PV) : M PV := fun H => by
  classical
  exact match m H with
  | none => none
  | some (.ok v H') => if H' = H then some (.ok v H) else none
  | some (.pan v H') => if H' = H then some (.pan v H) else none
noncomputable def callG (es : Bool) (C : CallT) : CallT := fun f args => bif !es && EF f then asWas (C f args) else C f args
noncomputable def callDG (es : Bool) (CD : Option PV → CallT) : Option PV → CallT := fun r f args => bif EF f == es then CD r f args else M.fail
def protOf (fn : Func) : List Tmp :=
  bif fn.results.toList.all (fun | .cell _ _ => true | _ => false) then fn.results.toList.filterMap (fun | .tmp _ => none | .cell a _ => some a) else []
def u3v (o : Oper) : Bool :=
  (match o.op with | .defer _ => false | _ => true) && (!u05 o || (o.guard.isNone && match o.op with | .call { args, .. } => args.isEmpty | _ => true))
def u1y : Code → Bool
  | .skip | .ret => true
  | .region _ ops false => ops.toList.all u3v
  | .region _ ops true => true
  | .seq a b => u1y a && u1y b
  | .cond _ a b => u1y a && u1y b
  | _ => false
def u57 (fn : Func) : List Tmp := fn.results.toList.map fun | .tmp t => t | .cell a _ => a
noncomputable def fnDen (P : Program) (C : CallT) (CD : Option PV → CallT) (L : Bool → Option (Option PV) → List Tmp → (Env → M PV) → LoopT) (f : FuncId) (args : List PV) : M PV :=
  match P.funcs[f]? with
  | some fn => match fn.body with
    | some b => guardM (fn.name != "runtime.NumGoroutine") <| trM (EF f) (den ⟨P, protOf fn, EF f, callG (EF f) C, callDG (EF f) CD, none, resM P fn⟩ (L (EF f) none (protOf fn) (resM P fn)) (u57 fn) b (args ++ List.replicate (fn.ntmps - args.length) .undef) fun
      | .exit _, _ => M.fail
      | _, env => resM P fn env)
    | none => M.fail
  | none => M.fail
noncomputable def fnDenD (P : Program) (C : CallT) (CD : Option PV → CallT) (L : Bool → Option (Option PV) → List Tmp → (Env → M PV) → LoopT) (rv : Option PV) (f : FuncId) (args : List PV) : M PV :=
  match P.funcs[f]? with
  | some fn => match fn.body with
    | some b => guardM (u1y b && (fn.results.isEmpty && fn.name != "runtime.NumGoroutine")) <| noPan (trM (EF f) (den ⟨P, protOf fn, EF f, callG (EF f) C, callDG (EF f) CD, some rv, resM P fn⟩ (L (EF f) (some rv) (protOf fn) (resM P fn)) (fn.ntmps :: u57 fn) b (args ++ List.replicate (fn.ntmps - args.length) .undef ++ [.undef]) fun
      | .exit _, _ => M.fail
      | _, env => M.pure (env.getD (env.length - 1) .undef)))
    | none => M.fail
  | none => M.fail
structure SemT where
  C : CallT
  CD : Option PV → CallT
  L : Bool → Option (Option PV) → List Tmp → (Env → M PV) → LoopT
abbrev ExtT := FuncId → Option (List PV → M PV)
noncomputable def sem (P : Program) (X : ExtT) : Nat → SemT
  | 0 => ⟨fun _ _ => M.fail, fun _ _ _ => M.fail, fun _ _ _ _ _ _ _ _ => M.fail⟩
  | n + 1 =>
    ⟨fun f args => match X f with
      | some m => m args
      | none => fnDen P (sem P X n).C (sem P X n).CD (sem P X n).L f args,
     fun rv f args => fnDenD P (sem P X n).C (sem P X n).CD (sem P X n).L rv f args,
     fun es rc pr res af co env k => go1 ⟨P, pr, es, callG es (sem P X n).C, callDG es (sem P X n).CD, rc, res⟩ ((sem P X n).L es rc pr res) af co env k⟩
end Go.Proofs.YtjcffopjohkmaaaDoor.Pi
namespace Go.Proofs.YtjcffopjohkmaaaDoor.Pi
def Le {α : Type} (x y : M α) : Prop := ∀ H r, x H = some r → y H = some r
namespace Le
variable {α β : Type}
theorem refl (x : M α) : Le x x := fun _ _ h => h
theorem fail (y : M α) : Le M.fail y := fun _ _ h => by simp [M.fail] at h
theorem bind {x y : M α} {f g : α → M β} (h : Le x y) (hf : ∀ a, Le (f a) (g a)) : Le (M.bind x f) (M.bind y g) := by
  intro H r hr
  unfold M.bind at hr ⊢
  cases hx : x H with
  | none => rw [hx] at hr; simp at hr
  | some o =>
    rw [hx] at hr
    rw [h H o hx]
    cases o with
    | ok a H' => exact hf a H' r hr
    | pan v H' => exact hr
theorem condM {c : PV} {x y x' y' : M α} (h : Le x x') (h' : Le y y') : Le (condM c x y) (condM c x' y') := by
  unfold Pi.condM
  cases c with
  | bool b => cases b <;> assumption
  | _ => exact Le.refl _
theorem gd {c : PV} {w : Bool} {x y : M PV} (h : Le x y) : Le (gd c w x) (gd c w y) := by
  unfold Pi.gd
  cases c with
  | bool b =>
    simp only
    cases (b == w)
    · exact Le.refl _
    · exact h
  | tup vs => cases vs <;> exact Le.refl _
  | _ => exact Le.refl _
theorem trunc {x y : M PV} (h : Le x y) : Le (trunc x) (trunc y) := by
  intro H r hr
  unfold Pi.trunc at hr ⊢
  cases hx : x H with
  | none => rw [hx] at hr; simp at hr
  | some o => rw [hx] at hr; rw [h H o hx]; exact hr
theorem truncE {x y : M PV} (h : Le x y) : Le (truncE x) (truncE y) := by
  intro H r hr
  unfold Pi.truncE at hr ⊢
  cases hx : x H with
  | none => rw [hx] at hr; simp at hr
  | some o => rw [hx] at hr; rw [h H o hx]; exact hr
theorem trM {x y : M PV} (es : Bool) (h : Le x y) : Le (trM es x) (trM es y) := by
  cases es
  · exact Le.trunc h
  · exact Le.truncE h
theorem asWas {x y : M PV} (h : Le x y) : Le (asWas x) (asWas y) := by
  intro H r hr
  unfold Pi.asWas at hr ⊢
  cases hx : x H with
  | none => rw [hx] at hr; simp at hr
  | some o => rw [hx] at hr; rw [h H o hx]; exact hr
end Le
theorem u9v {C D : CallT} (es : Bool) (h : ∀ f a, Le (C f a) (D f a)) (f : FuncId) (a : List PV) : Le (callG es C f a) (callG es D f a) := by
  unfold callG
  cases !es && EF f
  · exact h f a
  · exact Le.asWas (h f a)
theorem u4q {C D : Option PV → CallT} (es : Bool) (h : ∀ r f a, Le (C r f a) (D r f a)) (r : Option PV) (f : FuncId) (a : List PV) : Le (callDG es C r f a) (callDG es D r f a) := by
  unfold callDG
  cases EF f == es
  · exact Le.refl _
  · exact h r f a
structure Ctx.Le (c d : Ctx) : Prop where
  P : c.P = d.P
  pr : c.prot = d.prot
  es : c.es = d.es
  C : ∀ f a, Pi.Le (c.C f a) (d.C f a)
  CD : ∀ r f a, Pi.Le (c.CD r f a) (d.CD r f a)
  rc : c.rc = d.rc
  res : ∀ e, Pi.Le (c.res e) (d.res e)
theorem ujk {P : Program} {C D : CallT} (h : ∀ f a, Le (C f a) (D f a)) (f : PV) (a : List PV) : Le (callV P C f a) (callV P D f a) := by
  unfold callV
  cases f <;> first | exact h _ _ | exact Le.refl _
theorem le_op0 {P : Program} {C D : CallT} (h : ∀ f a, Le (C f a) (D f a)) (es : Bool) (rc : Option (Option PV)) (ops : Array Oper) (env : Env) (o : Oper) :
    Le (op0 P C es rc ops env o) (op0 P D es rc ops env o) := by
  unfold op0
  split <;> first | exact ujk h _ _ | exact Le.refl _
theorem ued {P : Program} {C D : CallT} (h : ∀ f a, Le (C f a) (D f a)) (es : Bool) (rc : Option (Option PV)) (ops : Array Oper) (env : Env) (o : Oper) :
    Le (opVal P C es rc ops env o) (opVal P D es rc ops env o) := by
  unfold opVal
  split
  · exact le_op0 h es rc ops env o
  · exact Le.refl _
theorem u3i {P : Program} {C D : CallT} (h : ∀ f a, Le (C f a) (D f a)) (es : Bool) (rc : Option (Option PV)) (ops : Array Oper) (env : Env) (o : Oper) :
    Le (gval P C es rc ops env o) (gval P D es rc ops env o) := by
  unfold gval
  split
  · exact ued h es rc ops env o
  · split
    · exact Le.gd (ued h es rc ops env o)
    · exact Le.refl _
theorem Le.guardM {α : Type} {b : Bool} {x y : M α} (h : Le x y) : Le (guardM b x) (guardM b y) := by
  unfold Pi.guardM
  cases b
  · exact Le.refl _
  · exact h
theorem Le.noPan {x y : M PV} (h : Le x y) : Le (noPan x) (noPan y) := by
  intro H r hr
  unfold Pi.noPan at hr ⊢
  cases hx : x H with
  | none => rw [hx] at hr; simp at hr
  | some o => rw [hx] at hr; rw [h H o hx]; exact hr
theorem uc2 {CD DD : Option PV → CallT} (h : ∀ r f a, Le (CD r f a) (DD r f a)) {f : PV} {args : List PV} {x y rx ry : M PV} (hx : Le x y) (hr : Le rx ry) :
    Le (deferM CD f args x rx) (deferM DD f args y ry) := by
  intro H r hh
  unfold deferM at hh ⊢
  cases f with
  | fn f first caps =>
    simp only at hh ⊢
    cases hxx : x H with
    | none => rw [hxx] at hh; simp at hh
    | some o =>
      rw [hxx] at hh
      rw [hx H o hxx]
      cases o with
      | ok a H' => exact Le.bind (h _ _ _) (fun _ => hr) H' r hh
      | pan v H' =>
        refine Le.bind (h _ _ _) (fun q => ?_) H' r hh
        split
        · exact hr
        · exact Le.refl _
  | _ => simp at hh
theorem ud9 {c d : Ctx} (h : c.Le d) (ops : Array Oper) : ∀ (l : List Oper) (env : Env) {k k' : Env → M PV}, (∀ e, Le (k e) (k' e)) → Le (dOps c ops l env k) (dOps d ops l env k')
  | [], env, k, k', hk => hk env
  | o :: r, env, k, k', hk => by
    rw [u38, u38]
    rw [← h.rc, ← h.P, ← h.pr, ← h.es]
    refine Le.guardM ?_
    split
    · split
      · exact Le.guardM (uc2 h.CD (ud9 h ops r _ hk) (h.res _))
      · exact Le.refl _
    · exact Le.bind (u3i h.C _ _ _ _ _) (fun v => ud9 h ops r _ hk)
theorem nb_some {α β : Type} {m : M α} {f : α → M β} {H : Heap} {o : Out β} : nb m f H = some o ↔ ∃ v, m H = some (.ok v H) ∧ f v H = some o := by
  unfold nb
  cases hm : m H with
  | none => simp
  | some q =>
    cases q with
    | pan v H' => simp
    | ok v H' =>
      by_cases hh : H' = H
      · subst hh
        simp
      · simp only [if_neg hh]
        constructor
        · intro h; cases h
        · rintro ⟨u, hu, _⟩
          simp only [Option.some.injEq, Out.ok.injEq] at hu
          exact absurd hu.2 hh
theorem Le.nb {α β : Type} {x y : M α} {f g : α → M β} (h : Le x y) (hf : ∀ a, Le (f a) (g a)) : Le (nb x f) (nb y g) := by
  intro H o ho
  obtain ⟨v, h1, h2⟩ := nb_some.mp ho
  exact nb_some.mpr ⟨v, h H _ h1, hf v H o h2⟩
theorem udk {c d : Ctx} (h : c.Le d) (ops : Array Oper) : ∀ (l : List Oper) (env : Env) {k k' : Env → M PV}, (∀ e, Le (k e) (k' e)) → Le (dOpsN c ops l env k) (dOpsN d ops l env k')
  | [], env, k, k', hk => hk env
  | o :: r, env, k, k', hk => by
    rw [u3z, u3z]
    rw [← h.rc, ← h.P, ← h.pr, ← h.es]
    exact Le.guardM (Le.nb (u3i h.C _ _ _ _ _) (fun v => udk h ops r _ hk))
theorem u9o {c d : Ctx} (h : c.Le d) (ops : Array Oper) : ∀ (l : List Oper) (i : Nat) (ts : List (Nat × Touch)) (env : Env) {k k' : Env → M PV}, (∀ e, Le (k e) (k' e)) → Le (dOpsW c ops i ts l env k) (dOpsW d ops i ts l env k')
  | [], i, ts, env, k, k', hk => hk env
  | o :: r, i, ts, env, k, k', hk => by
    unfold dOpsW
    rw [← h.rc, ← h.P, ← h.pr, ← h.es]
    refine Le.guardM ?_
    cases u0e o
    · exact Le.nb (u3i h.C _ _ _ _ _) (fun v => u9o h ops r _ _ _ hk)
    · exact Le.bind (Le.noPan (u3i h.C _ _ _ _ _)) (fun v => u9o h ops r _ _ _ hk)
theorem u5r {β : Type} {c d : Ctx} (h : c.Le d) (ops : Array Oper) : ∀ (l : List Nat) (env : Env) {k k' : Env → M β}, (∀ e, Le (k e) (k' e)) → Le (dOpsL c ops l env k) (dOpsL d ops l env k')
  | [], env, k, k', hk => hk env
  | i :: r, env, k, k', hk => by
    unfold dOpsL
    cases ops[i]? with
    | none => exact Le.refl _
    | some o =>
      dsimp only
      rw [← h.rc, ← h.P, ← h.pr, ← h.es]
      exact Le.guardM (Le.bind (Le.noPan (u3i h.C _ _ _ _ _)) (fun v => u5r h ops r _ hk))
theorem chk_some {α β : Type} {m m' : M α} {x : M β} {H : Heap} {o : Out β} : chk m m' x H = some o ↔ ∃ a K, m H = some (.ok a K) ∧ m' H = some (.ok a K) ∧ x H = some o := by
  unfold chk
  cases hm : m H with
  | none => simp
  | some q =>
    cases q with
    | pan v H' => simp
    | ok a Ha =>
      cases hm' : m' H with
      | none => simp
      | some q =>
        cases q with
        | pan v H' => simp
        | ok b Hb =>
          by_cases hh : a = b ∧ Ha = Hb
          · obtain ⟨rfl, rfl⟩ := hh
            simp
          · dsimp only
            rw [if_neg hh]
            constructor
            · intro h; cases h
            · rintro ⟨a', K, h1, h2, _⟩
              simp only [Option.some.injEq, Out.ok.injEq] at h1 h2
              exact absurd ⟨h1.1.trans h2.1.symm, h1.2.trans h2.2.symm⟩ hh
theorem Le.chk {α β : Type} {m m' n n' : M α} {x y : M β} (h : Le m n) (h' : Le m' n') (hx : Le x y) : Le (chk m m' x) (chk n n' y) := by
  intro H o ho
  obtain ⟨a, K, h1, h2, h3⟩ := chk_some.mp ho
  exact chk_some.mpr ⟨a, K, h H _ h1, h' H _ h2, hx H _ h3⟩
theorem ug2 {c d : Ctx} (h : c.Le d) (ops : Array Oper) (env : Env) (σ0 : List Nat) : ∀ (l : List (List Nat)) {x y : M PV}, Le x y → Le (chkL c ops env σ0 l x) (chkL d ops env σ0 l y)
  | [], x, y, hx => hx
  | σ :: r, x, y, hx => Le.chk (u5r h ops σ env (fun _ => Le.refl _)) (u5r h ops σ0 env (fun _ => Le.refl _)) (ug2 h ops env σ0 r hx)
theorem u4j {β : Type} {c d : Ctx} (h : c.Le d) (ops : Array Oper) : ∀ (l : List Nat) (ts : List (Nat × Touch)) (env : Env) {k k' : Env → M β}, (∀ e, Le (k e) (k' e)) → Le (dOpsA c ops l ts env k) (dOpsA d ops l ts env k')
  | [], ts, env, k, k', hk => hk env
  | i :: r, ts, env, k, k', hk => by
    simp only [dOpsA]
    cases ops[i]? with
    | none => exact Le.refl _
    | some o =>
      dsimp only
      rw [← h.rc, ← h.P, ← h.pr, ← h.es]
      refine Le.guardM ?_
      cases u0e o || isAl o
      · exact Le.nb (u3i h.C _ _ _ _ _) (fun v => Le.guardM (u4j h ops r _ _ hk))
      · exact Le.bind (Le.noPan (u3i h.C _ _ _ _ _)) (fun v => Le.guardM (u4j h ops r _ _ hk))
theorem chkA_some {β : Type} {m2 m1 : M Env} {x : M β} {H : Heap} {o : Out β} : chkA m2 m1 x H = some o ↔ ∃ e2 H2 e1 H1, m2 H = some (.ok e2 H2) ∧ m1 H = some (.ok e1 H1) ∧ u99 H.length e1 H1 e2 H2 ∧ x H = some o := by
  unfold chkA
  cases hm : m2 H with
  | none => simp
  | some q =>
    cases q with
    | pan v H' => simp
    | ok a Ha =>
      cases hm' : m1 H with
      | none => simp
      | some q =>
        cases q with
        | pan v H' => simp
        | ok b Hb =>
          by_cases hh : u99 H.length b Hb a Ha
          · dsimp only
            rw [if_pos hh]
            constructor
            · intro h; exact ⟨a, Ha, b, Hb, rfl, rfl, hh, h⟩
            · rintro ⟨_, _, _, _, _, _, _, h⟩; exact h
          · dsimp only
            rw [if_neg hh]
            constructor
            · intro h; cases h
            · rintro ⟨e2, H2, e1, H1, h1, h2, h3, _⟩
              simp only [Option.some.injEq, Out.ok.injEq] at h1 h2
              obtain ⟨rfl, rfl⟩ := h1
              obtain ⟨rfl, rfl⟩ := h2
              exact absurd h3 hh
theorem Le.chkA {β : Type} {m m' n n' : M Env} {x y : M β} (h : Le m n) (h' : Le m' n') (hx : Le x y) : Le (chkA m m' x) (chkA n n' y) := by
  intro H o ho
  obtain ⟨e2, H2, e1, H1, h1, h2, h3, h4⟩ := chkA_some.mp ho
  exact chkA_some.mpr ⟨e2, H2, e1, H1, h H _ h1, h' H _ h2, h3, hx H _ h4⟩
theorem uhh {c d : Ctx} (h : c.Le d) (ops : Array Oper) (env : Env) {k k' : Env → M PV} (hk : ∀ e, Le (k e) (k' e)) : Le (dOpsAA c ops env k) (dOpsAA d ops env k') := by
  unfold dOpsAA
  split
  · exact Le.chkA (u4j h ops _ _ env fun _ => Le.refl _) (u4j h ops _ _ env fun _ => Le.refl _) (u4j h ops _ _ env hk)
  · exact Le.refl _
theorem uc1 {c d : Ctx} (h : c.Le d) (ops : Array Oper) (n : Nat) (env : Env) {k k' : Env → M PV} (hk : ∀ e, Le (k e) (k' e)) : Le (dOpsPN c ops n env k) (dOpsPN d ops n env k') := by
  unfold dOpsPN
  refine Le.guardM ?_
  cases ordsN ops n with
  | nil => exact Le.refl _
  | cons σ0 r => exact ug2 h ops env σ0 r (u5r h ops σ0 env hk)
theorem ufw {c d : Ctx} (h : c.Le d) (ops : Array Oper) (n : Nat) {k k' : Env → M PV} (hk : ∀ e, Le (k e) (k' e)) (e : Env) : Le (u3f c ops n k e) (u3f d ops n k' e) := by
  unfold u3f
  cases ops[n]? with
  | none => exact Le.refl _
  | some o =>
    dsimp only
    rw [← h.rc, ← h.P, ← h.pr, ← h.es]
    exact Le.guardM (Le.bind (u3i h.C _ _ _ _ _) (fun v => hk _))
theorem uji {c d : Ctx} (h : c.Le d) (ops : Array Oper) (env : Env) {k k' : Env → M PV} (hk : ∀ e, Le (k e) (k' e)) : Le (dOpsP c ops env k) (dOpsP d ops env k') := by
  unfold dOpsP
  cases lastB ops
  · exact uc1 h ops _ env hk
  · exact uc1 h ops _ env (ufw h ops _ hk)
theorem le_den {c d : Ctx} (h : c.Le d) {L L' : LoopT} (hL : ∀ af b env (k k' : K), (∀ e en, Le (k e en) (k' e en)) → Le (L af b env k) (L' af b env k')) :
    ∀ (co : Code) (af : List Tmp) (env : Env) (k k' : K), (∀ e en, Le (k e en) (k' e en)) → Le (den c L af co env k) (den d L' af co env k')
  | .skip, af, env, k, k', hk => hk _ _
  | .region _ ops false, af, env, k, k', hk => ud9 h ops _ _ (hk _)
  | .region _ ops true, af, env, k, k', hk => by
    show Le (guardM (c.P.follows .mixedOrders && commB ops) (bif modeA ops && (c.rc.isNone && (c.prot.isEmpty && !c.es)) then _ else bif modeP ops && c.rc.isNone then _ else bif ops.any u0e || c.rc.isSome then _ else _)) (guardM (d.P.follows .mixedOrders && commB ops) (bif modeA ops && (d.rc.isNone && (d.prot.isEmpty && !d.es)) then _ else bif modeP ops && d.rc.isNone then _ else bif ops.any u0e || d.rc.isSome then _ else _))
    rw [h.rc, h.P, h.pr, h.es]
    refine Le.guardM ?_
    cases modeA ops && (d.rc.isNone && (d.prot.isEmpty && !d.es))
    case true => exact uhh h ops _ (hk _)
    cases modeP ops && d.rc.isNone
    · cases ops.any u0e || d.rc.isSome
      · exact udk h ops _ _ (hk _)
      · exact u9o h ops _ _ _ _ (hk _)
    · exact uji h ops _ (hk _)
  | .seq a b, af, env, k, k', hk => by
    refine le_den h hL a _ env _ _ fun e en => ?_
    cases e with
    | normal =>
      show Le (bif c.rc.isNone && joinB a then _ else _) (bif d.rc.isNone && joinB a then _ else _)
      rw [h.rc]
      cases d.rc.isNone && joinB a
      · exact le_den h hL b _ _ _ _ hk
      · exact hL _ _ _ _ _ hk
    | exit i => exact hk _ _
    | ret => exact hk _ _
  | .cond x a b, af, env, k, k', hk => Le.condM (le_den h hL a _ env _ _ hk) (le_den h hL b _ env _ _ hk)
  | .block id b, af, env, k, k', hk => by
    refine le_den h hL b _ env _ _ fun e en => ?_
    cases e with
    | normal => exact hk _ _
    | exit i => show Le (bif i == id then _ else _) (bif i == id then _ else _); cases (i == id) <;> exact hk _ _
    | ret => exact hk _ _
  | .loop b, af, env, k, k', hk => hL _ _ _ _ _ hk
  | .exit id, af, env, k, k', hk => hk _ _
  | .label _, af, env, k, k', hk => hk _ _
  | .ret, af, env, k, k', hk => hk _ _
  | .rangeFunc .., af, env, k, k', hk => Le.refl _
  | .scope _, af, env, k, k', hk => Le.refl _
  | .goto _, af, env, k, k', hk => Le.refl _
  | .refuse _, af, env, k, k', hk => Le.refl _
theorem le_go1 {c d : Ctx} (h : c.Le d) {L L' : LoopT} (hL : ∀ af b env (k k' : K), (∀ e en, Le (k e en) (k' e en)) → Le (L af b env k) (L' af b env k'))
    (af : List Tmp) (co : Code) (env : Env) (k k' : K) (hk : ∀ e en, Le (k e en) (k' e en)) : Le (go1 c L af co env k) (go1 d L' af co env k') := by
  cases co with
  | loop b =>
    refine le_den h hL b _ env _ _ fun e en => ?_
    cases e with
    | normal => exact hL _ _ _ _ _ hk
    | exit i => exact hk _ _
    | ret => exact hk _ _
  | _ => exact le_den h hL _ _ _ _ _ hk
structure SemT.Le (s t : SemT) : Prop where
  C : ∀ f a, Pi.Le (s.C f a) (t.C f a)
  CD : ∀ r f a, Pi.Le (s.CD r f a) (t.CD r f a)
  L : ∀ es rc pr res res', (∀ e, Pi.Le (res e) (res' e)) → ∀ af b env (k k' : K), (∀ e en, Pi.Le (k e en) (k' e en)) → Pi.Le (s.L es rc pr res af b env k) (t.L es rc pr res' af b env k')
theorem ujy {P : Program} {s t : SemT} (h : s.Le t) (f : FuncId) (a : List PV) : Le (fnDen P s.C s.CD s.L f a) (fnDen P t.C t.CD t.L f a) := by
  unfold fnDen
  split
  · rename_i fn hfn
    split
    · refine Le.guardM (Le.trM _ (le_den (c := ⟨P, protOf fn, EF f, callG (EF f) s.C, callDG (EF f) s.CD, none, _⟩) (d := ⟨P, protOf fn, EF f, callG (EF f) t.C, callDG (EF f) t.CD, none, _⟩) ⟨rfl, rfl, rfl, u9v (EF f) h.C, u4q (EF f) h.CD, rfl, fun e => Le.refl _⟩ (h.L _ _ _ _ _ (fun _ => Le.refl _)) _ _ _ _ _ fun e en => ?_))
      exact Le.refl _
    · exact Le.refl _
  · exact Le.refl _
theorem uhn {P : Program} {s t : SemT} (h : s.Le t) (rv : Option PV) (f : FuncId) (a : List PV) : Le (fnDenD P s.C s.CD s.L rv f a) (fnDenD P t.C t.CD t.L rv f a) := by
  unfold fnDenD
  split
  · rename_i fn hfn
    split
    · refine Le.guardM (Le.noPan (Le.trM _ (le_den (c := ⟨P, protOf fn, EF f, callG (EF f) s.C, callDG (EF f) s.CD, some rv, _⟩) (d := ⟨P, protOf fn, EF f, callG (EF f) t.C, callDG (EF f) t.CD, some rv, _⟩) ⟨rfl, rfl, rfl, u9v (EF f) h.C, u4q (EF f) h.CD, rfl, fun e => Le.refl _⟩ (h.L _ _ _ _ _ (fun _ => Le.refl _)) _ _ _ _ _ fun e en => ?_)))
      exact Le.refl _
    · exact Le.refl _
  · exact Le.refl _
variable (P : Program) (X : ExtT)
theorem u31 : ∀ n, (sem P X n).Le (sem P X (n + 1))
  | 0 => ⟨fun _ _ => Le.fail _, fun _ _ _ => Le.fail _, fun _ _ _ _ _ _ _ _ _ _ _ _ => Le.fail _⟩
  | n + 1 => by
    have ih := u31 n
    refine ⟨fun f a => ?_, fun r f a => uhn ih r f a, fun es rc pr res res' hres af b env k k' hk => ?_⟩
    · show Le (match X f with | some m => m a | none => _) (match X f with | some m => m a | none => _)
      split
      · exact Le.refl _
      · exact ujy ih f a
    · exact le_go1 (c := ⟨P, pr, es, _, _, rc, res⟩) (d := ⟨P, pr, es, _, _, rc, res'⟩) ⟨rfl, rfl, rfl, u9v es ih.C, u4q es ih.CD, rfl, hres⟩ (ih.L _ _ _ _ _ hres) _ _ _ _ _ hk
structure Conv {α : Type} (x : Nat → M α) (y : M α) : Prop where
  up : ∀ n, Le (x n) (x (n + 1))
  lim : ∀ H r, y H = some r ↔ ∃ n, x n H = some r
namespace Conv
variable {α β : Type}
theorem le {x : Nat → M α} {y : M α} (h : Conv x y) {n m : Nat} (hnm : n ≤ m) : Le (x n) (x m) := by
  induction hnm with
  | refl => exact Le.refl _
  | step _ ih => exact fun H r hr => h.up _ H r (ih H r hr)
theorem const (x : M α) : Conv (fun _ => x) x := ⟨fun _ => Le.refl _, fun H r => ⟨fun h => ⟨0, h⟩, fun ⟨_, h⟩ => h⟩⟩
theorem bind {x : Nat → M α} {y : M α} {f : Nat → α → M β} {g : α → M β} (h : Conv x y) (hf : ∀ a, Conv (fun n => f n a) (g a)) : Conv (fun n => M.bind (x n) (f n)) (M.bind y g) := by
  refine ⟨fun n => Le.bind (h.up n) (fun a => (hf a).up n), fun H r => ⟨fun hr => ?_, fun ⟨n, hr⟩ => ?_⟩⟩
  · unfold M.bind at hr
    cases hy : y H with
    | none => rw [hy] at hr; simp at hr
    | some o =>
      rw [hy] at hr
      obtain ⟨n, hn⟩ := (h.lim H o).mp hy
      cases o with
      | ok a H' =>
        obtain ⟨m, hm⟩ := ((hf a).lim H' r).mp hr
        refine ⟨max n m, ?_⟩
        show M.bind (x (max n m)) (f (max n m)) H = some r
        unfold M.bind
        rw [h.le (Nat.le_max_left n m) H _ hn]
        exact (hf a).le (Nat.le_max_right n m) H' r hm
      | pan v H' => exact ⟨n, by show M.bind (x n) (f n) H = some r; unfold M.bind; rw [hn]; exact hr⟩
  · have hr' : M.bind (x n) (f n) H = some r := hr
    unfold M.bind at hr' ⊢
    cases hx : x n H with
    | none => rw [hx] at hr'; simp at hr'
    | some o =>
      rw [hx] at hr'
      rw [(h.lim H o).mpr ⟨n, hx⟩]
      cases o with
      | ok a H' => exact ((hf a).lim H' r).mpr ⟨n, hr'⟩
      | pan v H' => exact hr'
theorem condM {c : PV} {x x' : Nat → M α} {y y' : M α} (h : Conv x y) (h' : Conv x' y') : Conv (fun n => condM c (x n) (x' n)) (condM c y y') := by
  unfold Pi.condM
  cases c with
  | bool b => cases b <;> assumption
  | _ => exact Conv.const _
theorem gd {c : PV} {w : Bool} {x : Nat → M PV} {y : M PV} (h : Conv x y) : Conv (fun n => gd c w (x n)) (gd c w y) := by
  unfold Pi.gd
  cases c with
  | bool b =>
    simp only
    cases (b == w)
    · exact Conv.const _
    · exact h
  | tup vs => cases vs <;> exact Conv.const _
  | _ => exact Conv.const _
theorem trunc {x : Nat → M PV} {y : M PV} (h : Conv x y) : Conv (fun n => trunc (x n)) (trunc y) := by
  refine ⟨fun n => Le.trunc (h.up n), fun H r => ⟨fun hr => ?_, fun ⟨n, hr⟩ => ?_⟩⟩
  · unfold Pi.trunc at hr
    cases hy : y H with
    | none => rw [hy] at hr; simp at hr
    | some o =>
      rw [hy] at hr
      obtain ⟨n, hn⟩ := (h.lim H o).mp hy
      exact ⟨n, by show Pi.trunc (x n) H = some r; unfold Pi.trunc; rw [hn]; exact hr⟩
  · have hr' : Pi.trunc (x n) H = some r := hr
    unfold Pi.trunc at hr' ⊢
    cases hx : x n H with
    | none => rw [hx] at hr'; simp at hr'
    | some o =>
      rw [hx] at hr'
      rw [(h.lim H o).mpr ⟨n, hx⟩]
      exact hr'
theorem truncE {x : Nat → M PV} {y : M PV} (h : Conv x y) : Conv (fun n => truncE (x n)) (truncE y) := by
  refine ⟨fun n => Le.truncE (h.up n), fun H r => ⟨fun hr => ?_, fun ⟨n, hr⟩ => ?_⟩⟩
  · unfold Pi.truncE at hr
    cases hy : y H with
    | none => rw [hy] at hr; simp at hr
    | some o =>
      rw [hy] at hr
      obtain ⟨n, hn⟩ := (h.lim H o).mp hy
      exact ⟨n, by show Pi.truncE (x n) H = some r; unfold Pi.truncE; rw [hn]; exact hr⟩
  · have hr' : Pi.truncE (x n) H = some r := hr
    unfold Pi.truncE at hr' ⊢
    cases hx : x n H with
    | none => rw [hx] at hr'; simp at hr'
    | some o =>
      rw [hx] at hr'
      rw [(h.lim H o).mpr ⟨n, hx⟩]
      exact hr'
theorem asWas {x : Nat → M PV} {y : M PV} (h : Conv x y) : Conv (fun n => asWas (x n)) (asWas y) := by
  refine ⟨fun n => Le.asWas (h.up n), fun H r => ⟨fun hr => ?_, fun ⟨n, hr⟩ => ?_⟩⟩
  · unfold Pi.asWas at hr
    cases hy : y H with
    | none => rw [hy] at hr; simp at hr
    | some o =>
      rw [hy] at hr
      obtain ⟨n, hn⟩ := (h.lim H o).mp hy
      exact ⟨n, by show Pi.asWas (x n) H = some r; unfold Pi.asWas; rw [hn]; exact hr⟩
  · have hr' : Pi.asWas (x n) H = some r := hr
    unfold Pi.asWas at hr' ⊢
    cases hx : x n H with
    | none => rw [hx] at hr'; simp at hr'
    | some o =>
      rw [hx] at hr'
      rw [(h.lim H o).mpr ⟨n, hx⟩]
      exact hr'
theorem trM {x : Nat → M PV} {y : M PV} (es : Bool) (h : Conv x y) : Conv (fun n => trM es (x n)) (trM es y) := by
  cases es
  · exact Conv.trunc h
  · exact Conv.truncE h
end Conv
theorem ueu {C : Nat → CallT} {D : CallT} (es : Bool) (h : ∀ f a, Conv (fun n => C n f a) (D f a)) (f : FuncId) (a : List PV) : Conv (fun n => callG es (C n) f a) (callG es D f a) := by
  unfold callG
  cases !es && EF f
  · exact h f a
  · exact Conv.asWas (h f a)
theorem ucb {C : Nat → Option PV → CallT} {D : Option PV → CallT} (es : Bool) (h : ∀ r f a, Conv (fun n => C n r f a) (D r f a)) (r : Option PV) (f : FuncId) (a : List PV) : Conv (fun n => callDG es (C n) r f a) (callDG es D r f a) := by
  unfold callDG
  cases EF f == es
  · exact Conv.const _
  · exact h r f a
structure Ctx.Conv (c : Nat → Ctx) (d : Ctx) : Prop where
  P : ∀ n, (c n).P = d.P
  pr : ∀ n, (c n).prot = d.prot
  es : ∀ n, (c n).es = d.es
  C : ∀ f a, Pi.Conv (fun n => (c n).C f a) (d.C f a)
  CD : ∀ r f a, Pi.Conv (fun n => (c n).CD r f a) (d.CD r f a)
  rc : ∀ n, (c n).rc = d.rc
  res : ∀ n e, (c n).res e = d.res e
theorem ujh {P : Program} {C : Nat → CallT} {D : CallT} (h : ∀ f a, Conv (fun n => C n f a) (D f a)) (f : PV) (a : List PV) : Conv (fun n => callV P (C n) f a) (callV P D f a) := by
  unfold callV
  cases f <;> first | exact h _ _ | exact Conv.const _
theorem cv_op0 {P : Program} {C : Nat → CallT} {D : CallT} (h : ∀ f a, Conv (fun n => C n f a) (D f a)) (es : Bool) (rc : Option (Option PV)) (ops : Array Oper) (env : Env) (o : Oper) :
    Conv (fun n => op0 P (C n) es rc ops env o) (op0 P D es rc ops env o) := by
  unfold op0
  split <;> first | exact ujh h _ _ | exact Conv.const _
theorem udh {P : Program} {C : Nat → CallT} {D : CallT} (h : ∀ f a, Conv (fun n => C n f a) (D f a)) (es : Bool) (rc : Option (Option PV)) (ops : Array Oper) (env : Env) (o : Oper) :
    Conv (fun n => opVal P (C n) es rc ops env o) (opVal P D es rc ops env o) := by
  unfold opVal
  split
  · exact cv_op0 h es rc ops env o
  · exact Conv.const _
theorem u3q {P : Program} {C : Nat → CallT} {D : CallT} (h : ∀ f a, Conv (fun n => C n f a) (D f a)) (es : Bool) (rc : Option (Option PV)) (ops : Array Oper) (env : Env) (o : Oper) :
    Conv (fun n => gval P (C n) es rc ops env o) (gval P D es rc ops env o) := by
  unfold gval
  split
  · exact udh h es rc ops env o
  · split
    · exact Conv.gd (udh h es rc ops env o)
    · exact Conv.const _
theorem Conv.guardM {α : Type} {b : Bool} {x : Nat → M α} {y : M α} (h : Conv x y) : Conv (fun n => guardM b (x n)) (guardM b y) := by
  unfold Pi.guardM
  cases b
  · exact Conv.const _
  · exact h
theorem Conv.noPan {x : Nat → M PV} {y : M PV} (h : Conv x y) : Conv (fun n => noPan (x n)) (noPan y) := by
  refine ⟨fun n => Le.noPan (h.up n), fun H r => ⟨fun hr => ?_, fun ⟨n, hr⟩ => ?_⟩⟩
  · unfold Pi.noPan at hr
    cases hy : y H with
    | none => rw [hy] at hr; simp at hr
    | some o =>
      rw [hy] at hr
      obtain ⟨n, hn⟩ := (h.lim H o).mp hy
      exact ⟨n, by show Pi.noPan (x n) H = some r; unfold Pi.noPan; rw [hn]; exact hr⟩
  · have hr' : Pi.noPan (x n) H = some r := hr
    unfold Pi.noPan at hr' ⊢
    cases hx : x n H with
    | none => rw [hx] at hr'; simp at hr'
    | some o =>
      rw [hx] at hr'
      rw [(h.lim H o).mpr ⟨n, hx⟩]
      exact hr'
theorem ui9 {CD : Nat → Option PV → CallT} {DD : Option PV → CallT} (h : ∀ r f a, Conv (fun n => CD n r f a) (DD r f a)) {f : PV} {args : List PV} {x : Nat → M PV} {y rx : M PV} (hx : Conv x y) :
    Conv (fun n => deferM (CD n) f args (x n) rx) (deferM DD f args y rx) := by
  cases f with
  | fn f first caps =>
    have hok := fun (a : PV) => Conv.bind (h none f (first ++ args ++ caps)) (fun (_ : PV) => Conv.const rx)
    have hpan := fun (v : PV) => Conv.bind (h (some v) f (first ++ args ++ caps)) (fun (q : PV) => Conv.const (match q with | .tup [] => rx | _ => M.fail))
    refine ⟨fun n => uc2 (fun r g a => (h r g a).up n) (hx.up n) (Le.refl _), fun H r => ⟨fun hr => ?_, fun ⟨n, hr⟩ => ?_⟩⟩
    · unfold deferM at hr
      simp only at hr
      cases hy : y H with
      | none => rw [hy] at hr; simp at hr
      | some o =>
        rw [hy] at hr
        obtain ⟨n, hn⟩ := (hx.lim H o).mp hy
        cases o with
        | ok a H' =>
          obtain ⟨m, hm⟩ := ((hok a).lim H' r).mp hr
          refine ⟨max n m, ?_⟩
          show deferM _ _ _ _ _ H = some r
          unfold deferM
          simp only
          rw [hx.le (Nat.le_max_left n m) H _ hn]
          exact (hok a).le (Nat.le_max_right n m) H' r hm
        | pan v H' =>
          obtain ⟨m, hm⟩ := ((hpan v).lim H' r).mp hr
          refine ⟨max n m, ?_⟩
          show deferM _ _ _ _ _ H = some r
          unfold deferM
          simp only
          rw [hx.le (Nat.le_max_left n m) H _ hn]
          exact (hpan v).le (Nat.le_max_right n m) H' r hm
    · have hr' : deferM (CD n) (.fn f first caps) args (x n) rx H = some r := hr
      unfold deferM at hr' ⊢
      simp only at hr' ⊢
      cases hxx : x n H with
      | none => rw [hxx] at hr'; simp at hr'
      | some o =>
        rw [hxx] at hr'
        rw [(hx.lim H o).mpr ⟨n, hxx⟩]
        cases o with
        | ok a H' => exact ((hok a).lim H' r).mpr ⟨n, hr'⟩
        | pan v H' => exact ((hpan v).lim H' r).mpr ⟨n, hr'⟩
  | _ => exact Conv.const (fun _ => none)
theorem ucw {c : Nat → Ctx} {d : Ctx} (h : Ctx.Conv c d) (ops : Array Oper) : ∀ (l : List Oper) (env : Env) {k : Nat → Env → M PV} {k' : Env → M PV}, (∀ e, Conv (fun n => k n e) (k' e)) →
    Conv (fun n => dOps (c n) ops l env (k n)) (dOps d ops l env k')
  | [], env, k, k', hk => hk env
  | o :: r, env, k, k', hk => by
    simp only [u38]
    simp only [h.rc, h.P, h.res, h.pr, h.es]
    refine Conv.guardM ?_
    split
    · split
      · exact Conv.guardM (ui9 h.CD (ucw h ops r _ hk))
      · exact Conv.const _
    · exact Conv.bind (u3q h.C _ _ _ _ _) (fun v => ucw h ops r _ hk)
theorem Conv.nb {α β : Type} {x : Nat → M α} {y : M α} {f : Nat → α → M β} {g : α → M β} (h : Conv x y) (hf : ∀ a, Conv (fun n => f n a) (g a)) : Conv (fun n => nb (x n) (f n)) (nb y g) := by
  refine ⟨fun n => Le.nb (h.up n) (fun a => (hf a).up n), fun H r => ⟨fun hr => ?_, fun ⟨n, hr⟩ => ?_⟩⟩
  · obtain ⟨v, h1, h2⟩ := nb_some.mp hr
    obtain ⟨n, hn⟩ := (h.lim H _).mp h1
    obtain ⟨m, hm⟩ := ((hf v).lim H r).mp h2
    exact ⟨max n m, nb_some.mpr ⟨v, h.le (Nat.le_max_left n m) H _ hn, (hf v).le (Nat.le_max_right n m) H r hm⟩⟩
  · obtain ⟨v, h1, h2⟩ := nb_some.mp hr
    exact nb_some.mpr ⟨v, (h.lim H _).mpr ⟨n, h1⟩, ((hf v).lim H r).mpr ⟨n, h2⟩⟩
theorem udt {c : Nat → Ctx} {d : Ctx} (h : Ctx.Conv c d) (ops : Array Oper) : ∀ (l : List Oper) (env : Env) {k : Nat → Env → M PV} {k' : Env → M PV}, (∀ e, Conv (fun n => k n e) (k' e)) →
    Conv (fun n => dOpsN (c n) ops l env (k n)) (dOpsN d ops l env k')
  | [], env, k, k', hk => hk env
  | o :: r, env, k, k', hk => by
    simp only [u3z]
    simp only [h.rc, h.P, h.pr, h.es]
    exact Conv.guardM (Conv.nb (u3q h.C _ _ _ _ _) (fun v => udt h ops r _ hk))
theorem u9c {c : Nat → Ctx} {d : Ctx} (h : Ctx.Conv c d) (ops : Array Oper) : ∀ (l : List Oper) (i : Nat) (ts : List (Nat × Touch)) (env : Env) {k : Nat → Env → M PV} {k' : Env → M PV}, (∀ e, Conv (fun n => k n e) (k' e)) →
    Conv (fun n => dOpsW (c n) ops i ts l env (k n)) (dOpsW d ops i ts l env k')
  | [], i, ts, env, k, k', hk => hk env
  | o :: r, i, ts, env, k, k', hk => by
    simp only [dOpsW]
    simp only [h.rc, h.P, h.pr, h.es]
    refine Conv.guardM ?_
    cases u0e o
    · exact Conv.nb (u3q h.C _ _ _ _ _) (fun v => u9c h ops r _ _ _ hk)
    · exact Conv.bind (Conv.noPan (u3q h.C _ _ _ _ _)) (fun v => u9c h ops r _ _ _ hk)
theorem u5x {β : Type} {c : Nat → Ctx} {d : Ctx} (h : Ctx.Conv c d) (ops : Array Oper) : ∀ (l : List Nat) (env : Env) {k : Nat → Env → M β} {k' : Env → M β}, (∀ e, Conv (fun n => k n e) (k' e)) →
    Conv (fun n => dOpsL (c n) ops l env (k n)) (dOpsL d ops l env k')
  | [], env, k, k', hk => hk env
  | i :: r, env, k, k', hk => by
    simp only [dOpsL]
    cases ops[i]? with
    | none => exact Conv.const _
    | some o =>
      dsimp only
      simp only [h.rc, h.P, h.pr, h.es]
      exact Conv.guardM (Conv.bind (Conv.noPan (u3q h.C _ _ _ _ _)) (fun v => u5x h ops r _ hk))
theorem Conv.chk {α β : Type} {m m' : Nat → M α} {n n' : M α} {x : Nat → M β} {y : M β} (h : Conv m n) (h' : Conv m' n') (hx : Conv x y) : Conv (fun i => chk (m i) (m' i) (x i)) (chk n n' y) := by
  refine ⟨fun i => Le.chk (h.up i) (h'.up i) (hx.up i), fun H r => ⟨fun hr => ?_, fun ⟨i, hr⟩ => ?_⟩⟩
  · obtain ⟨a, K, h1, h2, h3⟩ := chk_some.mp hr
    obtain ⟨i1, j1⟩ := (h.lim H _).mp h1
    obtain ⟨i2, j2⟩ := (h'.lim H _).mp h2
    obtain ⟨i3, j3⟩ := (hx.lim H _).mp h3
    exact ⟨max i1 (max i2 i3), chk_some.mpr ⟨a, K, h.le (by omega) H _ j1, h'.le (by omega) H _ j2, hx.le (by omega) H _ j3⟩⟩
  · obtain ⟨a, K, h1, h2, h3⟩ := chk_some.mp hr
    exact chk_some.mpr ⟨a, K, (h.lim H _).mpr ⟨i, h1⟩, (h'.lim H _).mpr ⟨i, h2⟩, (hx.lim H _).mpr ⟨i, h3⟩⟩
theorem ugo {c : Nat → Ctx} {d : Ctx} (h : Ctx.Conv c d) (ops : Array Oper) (env : Env) (σ0 : List Nat) : ∀ (l : List (List Nat)) {x : Nat → M PV} {y : M PV}, Conv x y → Conv (fun n => chkL (c n) ops env σ0 l (x n)) (chkL d ops env σ0 l y)
  | [], x, y, hx => hx
  | σ :: r, x, y, hx => Conv.chk (u5x h ops σ env (fun _ => Conv.const _)) (u5x h ops σ0 env (fun _ => Conv.const _)) (ugo h ops env σ0 r hx)
theorem u4i {β : Type} {c : Nat → Ctx} {d : Ctx} (h : Ctx.Conv c d) (ops : Array Oper) : ∀ (l : List Nat) (ts : List (Nat × Touch)) (env : Env) {k : Nat → Env → M β} {k' : Env → M β}, (∀ e, Conv (fun n => k n e) (k' e)) →
    Conv (fun n => dOpsA (c n) ops l ts env (k n)) (dOpsA d ops l ts env k')
  | [], ts, env, k, k', hk => hk env
  | i :: r, ts, env, k, k', hk => by
    simp only [dOpsA]
    cases ops[i]? with
    | none => exact Conv.const _
    | some o =>
      dsimp only
      simp only [h.rc, h.P, h.pr, h.es]
      refine Conv.guardM ?_
      cases u0e o || isAl o
      · exact Conv.nb (u3q h.C _ _ _ _ _) (fun v => Conv.guardM (u4i h ops r _ _ hk))
      · exact Conv.bind (Conv.noPan (u3q h.C _ _ _ _ _)) (fun v => Conv.guardM (u4i h ops r _ _ hk))
theorem Conv.chkA {β : Type} {m m' : Nat → M Env} {n n' : M Env} {x : Nat → M β} {y : M β} (h : Conv m n) (h' : Conv m' n') (hx : Conv x y) : Conv (fun i => chkA (m i) (m' i) (x i)) (chkA n n' y) := by
  refine ⟨fun i => Le.chkA (h.up i) (h'.up i) (hx.up i), fun H r => ⟨fun hr => ?_, fun ⟨i, hr⟩ => ?_⟩⟩
  · obtain ⟨e2, H2, e1, H1, h1, h2, h3, h4⟩ := chkA_some.mp hr
    obtain ⟨i1, j1⟩ := (h.lim H _).mp h1
    obtain ⟨i2, j2⟩ := (h'.lim H _).mp h2
    obtain ⟨i3, j3⟩ := (hx.lim H _).mp h4
    exact ⟨max i1 (max i2 i3), chkA_some.mpr ⟨e2, H2, e1, H1, h.le (by omega) H _ j1, h'.le (by omega) H _ j2, h3, hx.le (by omega) H _ j3⟩⟩
  · obtain ⟨e2, H2, e1, H1, h1, h2, h3, h4⟩ := chkA_some.mp hr
    exact chkA_some.mpr ⟨e2, H2, e1, H1, (h.lim H _).mpr ⟨i, h1⟩, (h'.lim H _).mpr ⟨i, h2⟩, h3, (hx.lim H _).mpr ⟨i, h4⟩⟩
theorem uia {c : Nat → Ctx} {d : Ctx} (h : Ctx.Conv c d) (ops : Array Oper) (env : Env) {k : Nat → Env → M PV} {k' : Env → M PV} (hk : ∀ e, Conv (fun n => k n e) (k' e)) : Conv (fun n => dOpsAA (c n) ops env (k n)) (dOpsAA d ops env k') := by
  unfold dOpsAA
  split
  · exact Conv.chkA (u4i h ops _ _ env fun _ => Conv.const _) (u4i h ops _ _ env fun _ => Conv.const _) (u4i h ops _ _ env hk)
  · exact Conv.const _
theorem ubh {c : Nat → Ctx} {d : Ctx} (h : Ctx.Conv c d) (ops : Array Oper) (m : Nat) (env : Env) {k : Nat → Env → M PV} {k' : Env → M PV} (hk : ∀ e, Conv (fun n => k n e) (k' e)) : Conv (fun n => dOpsPN (c n) ops m env (k n)) (dOpsPN d ops m env k') := by
  unfold dOpsPN
  refine Conv.guardM ?_
  cases ordsN ops m with
  | nil => exact Conv.const _
  | cons σ0 r => exact ugo h ops env σ0 r (u5x h ops σ0 env hk)
theorem ufu {c : Nat → Ctx} {d : Ctx} (h : Ctx.Conv c d) (ops : Array Oper) (m : Nat) {k : Nat → Env → M PV} {k' : Env → M PV} (hk : ∀ e, Conv (fun n => k n e) (k' e)) (e : Env) : Conv (fun n => u3f (c n) ops m (k n) e) (u3f d ops m k' e) := by
  unfold u3f
  cases ops[m]? with
  | none => exact Conv.const _
  | some o =>
    dsimp only
    simp only [h.rc, h.P, h.pr, h.es]
    exact Conv.guardM (Conv.bind (u3q h.C _ _ _ _ _) (fun v => hk _))
theorem ukh {c : Nat → Ctx} {d : Ctx} (h : Ctx.Conv c d) (ops : Array Oper) (env : Env) {k : Nat → Env → M PV} {k' : Env → M PV} (hk : ∀ e, Conv (fun n => k n e) (k' e)) : Conv (fun n => dOpsP (c n) ops env (k n)) (dOpsP d ops env k') := by
  unfold dOpsP
  cases lastB ops
  · exact ubh h ops _ env hk
  · exact ubh h ops _ env (ufu h ops _ hk)
theorem cv_den {c : Nat → Ctx} {d : Ctx} (h : Ctx.Conv c d) {L : Nat → LoopT} {L' : LoopT}
    (hL : ∀ af b env (k : Nat → K) (k' : K), (∀ e en, Conv (fun n => k n e en) (k' e en)) → Conv (fun n => L n af b env (k n)) (L' af b env k')) :
    ∀ (co : Code) (af : List Tmp) (env : Env) (k : Nat → K) (k' : K), (∀ e en, Conv (fun n => k n e en) (k' e en)) → Conv (fun n => den (c n) (L n) af co env (k n)) (den d L' af co env k')
  | .skip, af, env, k, k', hk => hk _ _
  | .region _ ops false, af, env, k, k', hk => ucw h ops _ _ (hk _)
  | .region _ ops true, af, env, k, k', hk => by
    show Conv (fun n => guardM ((c n).P.follows .mixedOrders && commB ops) (bif modeA ops && ((c n).rc.isNone && ((c n).prot.isEmpty && !(c n).es)) then dOpsAA (c n) ops env (k n .normal) else bif modeP ops && (c n).rc.isNone then dOpsP (c n) ops env (k n .normal) else bif ops.any u0e || (c n).rc.isSome then dOpsW (c n) ops 0 [] ops.toList env (k n .normal) else dOpsN (c n) ops ops.toList env (k n .normal))) (guardM (d.P.follows .mixedOrders && commB ops) (bif modeA ops && (d.rc.isNone && (d.prot.isEmpty && !d.es)) then _ else bif modeP ops && d.rc.isNone then _ else bif ops.any u0e || d.rc.isSome then _ else _))
    simp only [h.rc, h.P, h.pr, h.es]
    refine Conv.guardM ?_
    cases modeA ops && (d.rc.isNone && (d.prot.isEmpty && !d.es))
    case true => exact uia h ops _ (hk _)
    cases modeP ops && d.rc.isNone
    · cases ops.any u0e || d.rc.isSome
      · exact udt h ops _ _ (hk _)
      · exact u9c h ops _ _ _ _ (hk _)
    · exact ukh h ops _ (hk _)
  | .seq a b, af, env, k, k', hk => by
    refine cv_den h hL a _ env (fun n => fun | .normal, env' => bif (c n).rc.isNone && joinB a then L n af b (keep ((rw b).1 ++ af) env') (k n) else den (c n) (L n) af b env' (k n) | e, env' => k n e env') (fun | .normal, env' => bif d.rc.isNone && joinB a then L' af b (keep ((rw b).1 ++ af) env') k' else den d L' af b env' k' | e, env' => k' e env') fun e en => ?_
    cases e with
    | normal =>
      show Conv (fun n => bif (c n).rc.isNone && joinB a then L n af b (keep ((rw b).1 ++ af) en) (k n) else den (c n) (L n) af b en (k n)) (bif d.rc.isNone && joinB a then _ else _)
      simp only [h.rc]
      cases d.rc.isNone && joinB a
      · exact cv_den h hL b _ _ _ _ hk
      · exact hL _ _ _ _ _ hk
    | exit i => exact hk _ _
    | ret => exact hk _ _
  | .cond x a b, af, env, k, k', hk => Conv.condM (cv_den h hL a _ env _ _ hk) (cv_den h hL b _ env _ _ hk)
  | .block id b, af, env, k, k', hk => by
    refine cv_den h hL b _ env (fun n => fun | .exit i, env' => bif i == id then k n .normal env' else k n (.exit i) env' | e, env' => k n e env') (fun | .exit i, env' => bif i == id then k' .normal env' else k' (.exit i) env' | e, env' => k' e env') fun e en => ?_
    cases e with
    | normal => exact hk _ _
    | exit i => cases hi : (i == id) <;> simp only [hi, cond_true, cond_false] <;> exact hk _ _
    | ret => exact hk _ _
  | .loop b, af, env, k, k', hk => hL _ _ _ _ _ hk
  | .exit id, af, env, k, k', hk => hk _ _
  | .label _, af, env, k, k', hk => hk _ _
  | .ret, af, env, k, k', hk => hk _ _
  | .rangeFunc .., af, env, k, k', hk => Conv.const _
  | .scope _, af, env, k, k', hk => Conv.const _
  | .goto _, af, env, k, k', hk => Conv.const _
  | .refuse _, af, env, k, k', hk => Conv.const _
theorem cv_go1 {c : Nat → Ctx} {d : Ctx} (h : Ctx.Conv c d) {L : Nat → LoopT} {L' : LoopT}
    (hL : ∀ af b env (k : Nat → K) (k' : K), (∀ e en, Conv (fun n => k n e en) (k' e en)) → Conv (fun n => L n af b env (k n)) (L' af b env k'))
    (af : List Tmp) (co : Code) (env : Env) (k : Nat → K) (k' : K) (hk : ∀ e en, Conv (fun n => k n e en) (k' e en)) : Conv (fun n => go1 (c n) (L n) af co env (k n)) (go1 d L' af co env k') := by
  cases co with
  | loop b =>
    refine cv_den h hL b _ env (fun n => fun | .normal, env' => L n af (.loop b) (keep (alive af b) env') (k n) | e, env' => k n e env') (fun | .normal, env' => L' af (.loop b) (keep (alive af b) env') k' | e, env' => k' e env') fun e en => ?_
    cases e with
    | normal => exact hL _ _ _ _ _ hk
    | exit i => exact hk _ _
    | ret => exact hk _ _
  | _ => exact cv_den h hL _ _ _ _ _ hk
noncomputable def limM {α : Type} (x : Nat → M α) : M α := fun H => by
  classical
  exact if h : ∃ r n, x n H = some r then some (Classical.choose h) else none
theorem Conv.limM {α : Type} {x : Nat → M α} (up : ∀ n, Le (x n) (x (n + 1))) : Conv x (limM x) := by
  refine ⟨up, fun H r => ?_⟩
  have le : ∀ {n m : Nat}, n ≤ m → Le (x n) (x m) := by
    intro n m hnm
    induction hnm with
    | refl => exact Le.refl _
    | step _ ih => exact fun H r hr => up _ H r (ih H r hr)
  unfold Pi.limM
  constructor
  · intro h
    split at h
    · rename_i hh
      obtain ⟨n, hn⟩ := Classical.choose_spec hh
      simp only [Option.some.injEq] at h
      exact ⟨n, h ▸ hn⟩
    · simp at h
  · rintro ⟨n, hn⟩
    have hh : ∃ r n, x n H = some r := ⟨r, n, hn⟩
    rw [dif_pos hh]
    obtain ⟨m, hm⟩ := Classical.choose_spec hh
    have h1 := le (Nat.le_max_left n m) H _ hn
    have h2 := le (Nat.le_max_right n m) H _ hm
    rw [h1] at h2
    exact h2.symm
noncomputable def callW (f : FuncId) (a : List PV) : M PV := limM fun n => (sem P X n).C f a
noncomputable def callDW (r : Option PV) (f : FuncId) (a : List PV) : M PV := limM fun n => (sem P X n).CD r f a
noncomputable def loopW (es : Bool) (rc : Option (Option PV)) (pr : List Tmp) (res : Env → M PV) : LoopT := fun af b env k => limM fun n => (sem P X n).L es rc pr res af b env k
noncomputable def ctxW (es : Bool) (rc : Option (Option PV)) (pr : List Tmp) (res : Env → M PV) : Ctx := ⟨P, pr, es, callG es (callW P X), callDG es (callDW P X), rc, res⟩
theorem u9r (f : FuncId) (a : List PV) : Conv (fun n => (sem P X n).C f a) (callW P X f a) := Conv.limM fun n => (u31 P X n).C f a
theorem udw (r : Option PV) (f : FuncId) (a : List PV) : Conv (fun n => (sem P X n).CD r f a) (callDW P X r f a) := Conv.limM fun n => (u31 P X n).CD r f a
theorem ucf (es : Bool) (rc : Option (Option PV)) (pr : List Tmp) (res : Env → M PV) : ∀ (af : List Tmp) (b : Code) (env : Env) (k : Nat → K) (k' : K), (∀ e en, Conv (fun n => k n e en) (k' e en)) →
    Conv (fun n => (sem P X n).L es rc pr res af b env (k n)) (loopW P X es rc pr res af b env k') := by
  intro af b env k k' hk
  have up1 : ∀ n, Le ((sem P X n).L es rc pr res af b env k') ((sem P X (n + 1)).L es rc pr res af b env k') := fun n => (u31 P X n).L es rc pr res res (fun _ => Le.refl _) _ _ _ _ _ (fun _ _ => Le.refl _)
  have up2 : ∀ n, Le ((sem P X n).L es rc pr res af b env (k n)) ((sem P X (n + 1)).L es rc pr res af b env (k (n + 1))) := fun n => (u31 P X n).L es rc pr res res (fun _ => Le.refl _) _ _ _ _ _ (fun e en => (hk e en).up n)
  have hlim := Conv.limM up1
  -- at one depth: what is behind grows
  have key : ∀ n af b env, (k : Nat → K) → (k' : K) → (∀ e en, Conv (fun n => k n e en) (k' e en)) → Conv (fun m => (sem P X n).L es rc pr res af b env (k m)) ((sem P X n).L es rc pr res af b env k') := by
    intro n
    induction n with
    | zero => exact fun _ _ _ _ _ _ => Conv.const _
    | succ n ih =>
      intro af b env k k' hk
      exact cv_go1 (c := fun _ => ⟨P, pr, es, callG es (sem P X n).C, callDG es (sem P X n).CD, rc, res⟩) ⟨fun _ => rfl, fun _ => rfl, fun _ => rfl, fun _ _ => Conv.const _, fun _ _ _ => Conv.const _, fun _ => rfl, fun _ _ => rfl⟩
        (L := fun _ => (sem P X n).L es rc pr res) (fun af b env k k' hk => ih af b env k k' hk) _ _ _ _ _ hk
  refine ⟨up2, fun H r => ⟨fun hr => ?_, fun ⟨n, hr⟩ => ?_⟩⟩
  · obtain ⟨n, hn⟩ := (hlim.lim H r).mp hr
    obtain ⟨m, hm⟩ := ((key n af b env k k' hk).lim H r).mp hn
    refine ⟨max n m, ?_⟩
    have h1 := (key n af b env k k' hk).le (Nat.le_max_right n m) H r hm
    have h2 : ∀ {a b' : Nat}, a ≤ b' → Le ((sem P X a).L es rc pr res af b env (k (max n m))) ((sem P X b').L es rc pr res af b env (k (max n m))) := by
      intro a b' hab
      induction hab with
      | refl => exact Le.refl _
      | step _ ih => exact fun H r hr => (u31 P X _).L es rc pr res res (fun _ => Le.refl _) _ _ _ _ _ (fun _ _ => Le.refl _) H r (ih H r hr)
    exact h2 (Nat.le_max_left n m) H r h1
  · exact (hlim.lim H r).mpr ⟨n, ((key n af b env k k' hk).lim H r).mpr ⟨n, hr⟩⟩
theorem ui1 {α : Type} {x : Nat → M α} {y z : M α} (h : Conv x y) (h' : Conv (fun n => x (n + 1)) z) : y = z := by
  funext H
  cases hz : z H with
  | some r =>
    obtain ⟨n, hn⟩ := (h'.lim H r).mp hz
    exact (h.lim H r).mpr ⟨n + 1, hn⟩
  | none =>
    cases hy : y H with
    | none => rfl
    | some r =>
      obtain ⟨n, hn⟩ := (h.lim H r).mp hy
      have := (h'.lim H r).mpr ⟨n, h.up n H r hn⟩
      rw [hz] at this
      cases this
theorem ujx (f : FuncId) (a : List PV) : Conv (fun n => fnDen P (sem P X n).C (sem P X n).CD (sem P X n).L f a) (fnDen P (callW P X) (callDW P X) (loopW P X) f a) := by
  unfold fnDen
  split
  · rename_i fn hfn
    split
    · refine Conv.guardM (Conv.trM _ (cv_den (c := fun n => ⟨P, protOf fn, EF f, callG (EF f) (sem P X n).C, callDG (EF f) (sem P X n).CD, none, resM P fn⟩) (d := ⟨P, protOf fn, EF f, callG (EF f) (callW P X), callDG (EF f) (callDW P X), none, resM P fn⟩) ⟨fun _ => rfl, fun _ => rfl, fun _ => rfl, ueu (EF f) (u9r P X), ucb (EF f) (udw P X), fun _ => rfl, fun _ _ => rfl⟩ (L := fun n => (sem P X n).L (EF f) none (protOf fn) _) (ucf P X (EF f) none _ _) _ _ _ _ _ fun e en => ?_))
      exact Conv.const _
    · exact Conv.const _
  · exact Conv.const _
theorem u12 {f : FuncId} (h : X f = none) (a : List PV) : callW P X f a = fnDen P (callW P X) (callDW P X) (loopW P X) f a := by
  refine ui1 (u9r P X f a) ?_
  show Conv (fun n => match X f with | some m => m a | none => fnDen P (sem P X n).C (sem P X n).CD (sem P X n).L f a) _
  rw [h]
  exact ujx P X f a
theorem ujf (es : Bool) (rc : Option (Option PV)) (pr : List Tmp) (res : Env → M PV) (af : List Tmp) (b : Code) (env : Env) (k : K) :
    loopW P X es rc pr res af b env k = go1 (ctxW P X es rc pr res) (loopW P X es rc pr res) af b env k := by
  refine ui1 (ucf P X es rc pr res af b env (fun _ => k) k (fun _ _ => Conv.const _)) ?_
  exact cv_go1 (c := fun n => ⟨P, pr, es, callG es (sem P X n).C, callDG es (sem P X n).CD, rc, res⟩) (d := ctxW P X es rc pr res) ⟨fun _ => rfl, fun _ => rfl, fun _ => rfl, ueu es (u9r P X), ucb es (udw P X), fun _ => rfl, fun _ _ => rfl⟩ (L := fun n => (sem P X n).L es rc pr res) (ucf P X es rc pr res) _ _ _ _ _ (fun _ _ => Conv.const _)
end Go.Proofs.YtjcffopjohkmaaaDoor.Pi
namespace Go.Proofs.YtjcffopjohkmaaaDoor.Pi
inductive Owner where
  | tmp (t : Nat) | cell (id o : Nat) | res | sub (L : Owner) (j : Nat) | up (L : Owner) | dead
  deriving DecidableEq
structure Io where
  l : List Nat
  z : Nat → Option Nat
structure G where
  io : Io
  im : Nat → Nat → Option Value
  ow : Nat → Option (Owner × Nat)
  N : Option Nat
abbrev G.ι (g : G) : List Nat := g.io.l
structure IoLe (a b : Io) : Prop where
  l : ∀ (i x : Nat), a.l[i]? = some x → b.l[i]? = some x
  z : ∀ (x s : Nat), a.z x = some s → b.z x = some s
theorem IoLe.refl (a : Io) : IoLe a a := ⟨fun _ _ h => h, fun _ _ h => h⟩
theorem IoLe.trans {a b c : Io} (h : IoLe a b) (k : IoLe b c) : IoLe a c := ⟨fun i x hx => k.l i x (h.l i x hx), fun x s hx => k.z x s (h.z x s hx)⟩
inductive RepF (im : Nat → Nat → Option Value) : PV → Value → Prop
  | int (k n) : RepF im (.int k n) (.int k n)
  | bool (b) : RepF im (.bool b) (.bool b)
  | str (s) : RepF im (.str s) (.string s)
  | nil : RepF im .nil (.pointer none)
  | nilfn : RepF im .nilfn .nilFunc
  | niliface : RepF im .niliface .nilIface
  | snil (sz) : RepF im (.slice false true sz []) (.slice none 0 0)
  | slice {g o cap sz : Nat} {sp : Option Nat} {xs : List PV} (vs : Nat → Nat → Value) (hsp : sp = none ∨ cap = 0) (hc : xs.length ≤ cap) (hsz : ∀ (i : Nat) (x : PV), xs[i]? = some x → x.cells.length = sz)
      (him : ∀ (i : Nat) (x : PV) (j : Nat) (c : PV), xs[i]? = some x → x.cells[j]? = some c → im g (o + i * sz + j) = some (vs i j))
      (hr : ∀ (i : Nat) (x : PV) (j : Nat) (c : PV), xs[i]? = some x → x.cells[j]? = some c → RepF im c (vs i j)) :
      RepF im (.slice false false sz xs) (.slice (some ⟨g, o, sp⟩) xs.length cap)
inductive Rep (ι : Io) (im : Nat → Nat → Option Value) : PV → Value → Prop
  | flat {p v} (h : RepF im p v) : Rep ι im p v
  | ptr {id off g : Nat} (h : ι.l[id]? = some g) : Rep ι im (.ptr id off) (.pointer (some ⟨g, off, none⟩))
  | win {id off off' sz n cap g s : Nat} (h : ι.l[id]? = some g) (hz : ι.z g = some s) (hoff : cap = 0 ∨ off' = off) (hn : n ≤ cap) (hs : off' + cap * sz ≤ s) : Rep ι im (.win id off sz n) (.slice (some ⟨g, off', none⟩) n cap)
  | elem {g o : Nat} {cs : List PV} (vs : Nat → Value) (him : ∀ (j : Nat) (c : PV), cs[j]? = some c → im g (o + j) = some (vs j)) (hr : ∀ (j : Nat) (c : PV), cs[j]? = some c → RepF im c (vs j)) :
      Rep ι im (.elem cs) (.pointer (some ⟨g, o, none⟩))
  | fn {f : FuncId} {first caps : List PV} {fv cv : Array Value} (h1 : fv.size = first.length) (h2 : cv.size = caps.length)
      (r1 : ∀ (j : Nat) (c : PV) (v : Value), first[j]? = some c → fv[j]? = some v → Rep ι im c v) (r2 : ∀ (j : Nat) (c : PV) (v : Value), caps[j]? = some c → cv[j]? = some v → Rep ι im c v) :
      Rep ι im (.fn f first caps) (.func (.func f) fv cv)
  | lit {sz n g o cap : Nat} {cs : List PV} (vs : Nat → Value) (hn : n ≤ cap) (hl : cs.length = n * sz) (hc : ∀ (j : Nat) (c : PV), cs[j]? = some c → isCell c = true) (him : ∀ (j : Nat) (c : PV), cs[j]? = some c → im g (o + j) = some (vs j)) (hr : ∀ (j : Nat) (c : PV), cs[j]? = some c → Rep ι im c (vs j)) :
      Rep ι im (.lit sz n cs) (.slice (some ⟨g, o, none⟩) n cap)
  | lel {g o : Nat} {cs : List PV} (vs : Nat → Value) (hc : ∀ (j : Nat) (c : PV), cs[j]? = some c → isCell c = true) (him : ∀ (j : Nat) (c : PV), cs[j]? = some c → im g (o + j) = some (vs j)) (hr : ∀ (j : Nat) (c : PV), cs[j]? = some c → Rep ι im c (vs j)) :
      Rep ι im (.lel cs) (.pointer (some ⟨g, o, none⟩))
  | iface {t p v} (h : Rep ι im p v) : Rep ι im (.iface t p) (.iface t v)
  | agg {cs : List PV} {vs : Array Value} (h1 : vs.size = cs.length) (hc : ∀ (j : Nat) (c : PV), cs[j]? = some c → isCell c = true)
      (r : ∀ (j : Nat) (c : PV) (v : Value), cs[j]? = some c → vs[j]? = some v → Rep ι im c v) : Rep ι im (.agg cs) (.agg vs)
inductive RepS (g : G) (L : Owner) : PV → Value → Prop
  | undef (v) : RepS g L .undef v
  | pure {p v} (h : Rep g.io g.im p v) : RepS g L p v
  | own {b o cap sz : Nat} {xs : List PV} {s : Nat} (vs : Nat → Nat → Value) (hc : xs.length ≤ cap) (hsz : ∀ (i : Nat) (x : PV), xs[i]? = some x → x.cells.length = sz)
      (him : ∀ (i : Nat) (x : PV) (j : Nat) (c : PV), xs[i]? = some x → x.cells[j]? = some c → g.im b (o + i * sz + j) = some (vs i j))
      (hr : ∀ (i : Nat) (x : PV) (j : Nat) (c : PV), xs[i]? = some x → x.cells[j]? = some c → RepF g.im c (vs i j))
      (how : g.ow b = some (L, s)) (hs : o + cap * sz ≤ s) (hroom : ∀ off, o + xs.length * sz ≤ off → g.im b off = none) :
      RepS g L (.slice true false sz xs) (.slice (some ⟨b, o, none⟩) xs.length cap)
inductive RepT (g : G) (L : Owner) : PV → Value → Prop
  | one {p v} (h : RepS g L p v) : RepT g L p v
  | tup {ps : List PV} {vs : Array Value} (h1 : vs.size = ps.length) (r : ∀ (j : Nat) (p : PV) (v : Value), ps[j]? = some p → vs[j]? = some v → RepS g (.sub L j) p v) : RepT g L (.tup ps) (.tuple vs)
  | aggo {ps : List PV} {vs : Array Value} (h1 : vs.size = ps.length) (hc : ∀ (j : Nat) (c : PV), ps[j]? = some c → isCell c = true) (r : ∀ (j : Nat) (p : PV) (v : Value), ps[j]? = some p → vs[j]? = some v → RepS g (.sub L j) p v) : RepT g L (.aggo ps) (.agg vs)
def lowB (N : Option Nat) (id : Nat) (c : PV) : Bool :=
  match N with
  | none => true
  | some n => c.low (max n (id + 1))
def BoxOk (g : G) (w : World) (id b : Nat) : Box → Prop
  | .cells cs => g.ow b = none ∧ (∀ o, g.im b o = none) ∧ ∃ vs T, w.heap[b]? = some (.cells vs T (0, 0)) ∧ (cs.length ≤ vs.size ∧ g.io.z b = some vs.size) ∧
      ∀ (o : Nat) (c : PV) (v : Value), cs[o]? = some c → vs[o]? = some v → RepS g (.cell id o) c v ∧ isCell c = true ∧ lowB g.N id c = true
  | .iter s pos => g.ow b = none ∧ (∀ o, g.im b o = none) ∧ w.heap[b]? = some (.stringIter s pos)
  | .dead => b < w.heap.size
def GlobOk (im : Nat → Nat → Option Value) : Prop := ∀ b, GT b = .undef ∨ Rep ⟨[], fun _ => none⟩ im (GT b) (.pointer (some ⟨b, 0, none⟩))
def liveB (H : Heap) (i : Nat) : Bool :=
  match H[i]? with
  | some .dead => false
  | _ => true
theorem u1c {H : Heap} {i : Nat} {y : Box} (h : H[i]? = some y) (hd : y ≠ .dead) : liveB H i = true := by
  unfold liveB
  rw [h]
  cases y <;> first | rfl | exact absurd rfl hd
structure Inv (g : G) (H : Heap) (w : World) : Prop where
  len : g.ι.length = H.length
  nd : ∀ (i j b : Nat), g.ι[i]? = some b → g.ι[j]? = some b → liveB H i = true → liveB H j = true → i = j
  im : ∀ b o v, g.im b o = some v → w.cell? ⟨b, o, none⟩ = some v
  ow : ∀ (b : Nat) (L : Owner) (s : Nat), g.ow b = some (L, s) → ∃ cs T, w.heap[b]? = some (.cells cs T (0, 0)) ∧ cs.size = s
  box : ∀ (id b : Nat) (x : Box), g.ι[id]? = some b → H[id]? = some x → BoxOk g w id b x
  gl : GlobOk g.im
  zl : ∀ (b s : Nat), g.io.z b = some s → b < w.heap.size
  nn : ∀ n, g.N = some n → n ≤ H.length
structure Grow (S : Owner → Prop) (g g' : G) : Prop where
  ι : IoLe g.io g'.io
  im : ∀ b o v, g.im b o = some v → g'.im b o = some v
  ow : ∀ (b : Nat) (L : Owner) (s : Nat), S L → g.ow b = some (L, s) → g'.ow b = some (L, s) ∧ ∀ o, g.im b o = none → g'.im b o = none
  N : g'.N = g.N
theorem Grow.refl (S : Owner → Prop) (g : G) : Grow S g g := ⟨IoLe.refl _, fun _ _ _ h => h, fun _ _ _ _ h => ⟨h, fun _ h => h⟩, rfl⟩
theorem Grow.trans {S : Owner → Prop} {a b c : G} (h : Grow S a b) (k : Grow S b c) : Grow S a c :=
  ⟨h.ι.trans k.ι, fun x o v hv => k.im x o v (h.im x o v hv), fun x L s hL hx =>
    let ⟨h1, h2⟩ := h.ow x L s hL hx
    let ⟨k1, k2⟩ := k.ow x L s hL h1
    ⟨k1, fun o ho => k2 o (h2 o ho)⟩, k.N.trans h.N⟩
theorem Grow.sub {S S' : Owner → Prop} {a b : G} (h : Grow S a b) (hs : ∀ L, S' L → S L) : Grow S' a b := ⟨h.ι, h.im, fun x L s hL hx => h.ow x L s (hs L hL) hx, h.N⟩
theorem RepF.mono {im im' : Nat → Nat → Option Value} (him : ∀ b o v, im b o = some v → im' b o = some v) {p : PV} {v : Value} (h : RepF im p v) : RepF im' p v := by
  induction h with
  | int k n => exact .int k n
  | bool b => exact .bool b
  | str s => exact .str s
  | nil => exact .nil
  | nilfn => exact .nilfn
  | niliface => exact .niliface
  | snil sz => exact .snil sz
  | slice vs hsp hc hsz hm _ ih => exact .slice vs hsp hc hsz (fun i x j c h1 h2 => him _ _ _ (hm i x j c h1 h2)) ih
theorem Rep.mono {ι ι' : Io} {im im' : Nat → Nat → Option Value} (hι : IoLe ι ι') (him : ∀ b o v, im b o = some v → im' b o = some v) {p : PV} {v : Value} (h : Rep ι im p v) : Rep ι' im' p v := by
  induction h with
  | flat h => exact .flat (h.mono him)
  | ptr h => exact .ptr (hι.l _ _ h)
  | win h hz ho hn hs => exact .win (hι.l _ _ h) (hι.z _ _ hz) ho hn hs
  | lit vs hn hl hc hm _ ih => exact .lit vs hn hl hc (fun j c h => him _ _ _ (hm j c h)) ih
  | lel vs hc hm _ ih => exact .lel vs hc (fun j c h => him _ _ _ (hm j c h)) ih
  | elem vs hm hr => exact .elem vs (fun j c h => him _ _ _ (hm j c h)) (fun j c h => (hr j c h).mono him)
  | fn h1 h2 _ _ ih1 ih2 => exact .fn h1 h2 ih1 ih2
  | iface _ ih => exact .iface ih
  | agg h1 hc _ ih => exact .agg h1 hc ih
theorem GlobOk.mono {im im' : Nat → Nat → Option Value} (him : ∀ b o v, im b o = some v → im' b o = some v) (h : GlobOk im) : GlobOk im' := fun b => (h b).imp id fun h => h.mono (IoLe.refl _) him
theorem RepS.mono {S : Owner → Prop} {g g' : G} (hg : Grow S g g') {L : Owner} (hL : S L) {p : PV} {v : Value} (h : RepS g L p v) : RepS g' L p v := by
  cases h with
  | undef => exact .undef v
  | pure h => exact .pure (h.mono hg.ι hg.im)
  | own vs hc hsz him hr how hs hroom =>
    obtain ⟨h1, h2⟩ := hg.ow _ _ _ hL how
    exact .own vs hc hsz (fun i x j c a b => hg.im _ _ _ (him i x j c a b)) (fun i x j c a b => (hr i x j c a b).mono hg.im) h1 hs (fun off ho => h2 _ (hroom off ho))
theorem RepT.mono {S : Owner → Prop} {g g' : G} (hg : Grow S g g') {L : Owner} (hL : S L) (hsub : ∀ j, S (.sub L j)) {p : PV} {v : Value} (h : RepT g L p v) : RepT g' L p v := by
  cases h with
  | one h => exact .one (h.mono hg hL)
  | tup h1 r => exact .tup h1 fun j p v a b => (r j p v a b).mono hg (hsub j)
  | aggo h1 hc r => exact .aggo h1 hc fun j p v a b => (r j p v a b).mono hg (hsub j)
theorem RepS.strip {g : G} {L L' : Owner} {p : PV} {v : Value} (h : RepS g L p v) : RepS g L' (stripC p) v := by
  cases h with
  | undef => exact .undef v
  | pure h =>
    cases h with
    | flat h => cases h <;> (simp only [stripC]; first | exact .pure (.flat (.int _ _)) | exact .pure (.flat (.bool _)) | exact .pure (.flat (.str _)) | exact .pure (.flat .nil) | exact .pure (.flat .nilfn) | exact .pure (.flat .niliface) | exact .pure (.flat (.snil _)) | skip)
                case slice vs hsp hc hsz him hr => exact .pure (.flat (.slice vs hsp hc hsz him hr))
    | ptr h => exact .pure (.ptr h)
    | win a b c d e => exact .pure (.win a b c d e)
    | lit a b c d e f => exact .pure (.lit a b c d e f)
    | lel a b c d => exact .pure (.lel a b c d)
    | elem vs a b => exact .pure (.elem vs a b)
    | fn a b c d => exact .pure (.fn a b c d)
    | iface a => exact .pure (.iface a)
    | agg a b c => exact .pure (.agg a b c)
  | own vs hc hsz him hr how hs hroom => exact .pure (.flat (.slice vs (.inl rfl) hc hsz him hr))
theorem RepS.toRep {g : G} {L : Owner} {p : PV} {v : Value} (h : RepS g L p v) (hu : u77 p = false) : Rep g.io g.im (stripC p) v := by
  have h2 := h.strip (L' := L)
  generalize hq : stripC p = q at h2
  cases h2 with
  | undef =>
    cases p <;> simp [stripC] at hq
    simp [u77] at hu
  | pure h => exact h
  | own => cases p <;> simp [stripC] at hq
theorem Rep.stripC {ι : Io} {im : Nat → Nat → Option Value} {p : PV} {v : Value} (h : Rep ι im p v) : Pi.stripC p = p := by
  cases h with
  | flat h => cases h <;> rfl
  | _ => rfl
theorem RepT.strip {g : G} {L L' : Owner} {p : PV} {v : Value} (h : RepT g L p v) : RepT g L' (strip p) v := by
  cases h with
  | one h =>
    cases p with
    | tup vs =>
      cases h with
      | pure h => cases h with
        | flat h => cases h
    | aggo vs =>
      cases h with
      | pure h => cases h with
        | flat h => cases h
    | slice o z sz xs => exact .one h.strip
    | _ => exact .one (h.strip (L' := L'))
  | tup h1 r =>
    refine .tup (by simpa using h1) fun j p v hp hv => ?_
    simp only [List.getElem?_map, Option.map_eq_some_iff] at hp
    obtain ⟨q, hq, rfl⟩ := hp
    exact (r j q v hq hv).strip
  | aggo h1 hc r =>
    refine .one (.pure (.agg (by simpa using h1) (fun j c hj => ?_) fun j p v hp hv => ?_))
    · simp only [List.getElem?_map, Option.map_eq_some_iff] at hj
      obtain ⟨q, hq, rfl⟩ := hj
      have := hc j q hq
      cases q <;> first | rfl | simp [isCell] at this
    · simp only [List.getElem?_map, Option.map_eq_some_iff] at hp
      obtain ⟨q, hq, rfl⟩ := hp
      have := hc j q hq
      exact (r j q v hq hv).toRep (by cases q <;> first | rfl | simp [isCell] at this)
def IsTmp : Owner → Prop
  | .tmp _ => True
  | .sub L _ => IsTmp L
  | _ => False
def IsUp : Owner → Prop
  | .up _ => True
  | _ => False
def u1z : Owner → Prop
  | .cell _ _ => False
  | _ => True
def IsCell : Owner → Prop
  | .cell _ _ => True
  | _ => False
structure Glob (g : G) (w : World) (g' : G) (w' : World) : Prop where
  os : w'.os = w.os
  tape : w'.tape = w.tape
  output : w'.output = w.output
  size : w.heap.size ≤ w'.heap.size
  old : ∀ (b : Nat), b < w.heap.size → g.ow b = none → b ∉ g.ι → g'.ow b = none ∧ b ∉ g'.ι ∧ w'.heap[b]? = w.heap[b]?
  up : Grow IsUp g g'
theorem Glob.refl (g : G) (w : World) : Glob g w g w := ⟨rfl, rfl, rfl, Nat.le_refl _, fun _ _ h k => ⟨h, k, rfl⟩, Grow.refl _ _⟩
theorem Glob.trans {g g' g'' : G} {w w' w'' : World} (h : Glob g w g' w') (k : Glob g' w' g'' w'') : Glob g w g'' w'' :=
  ⟨k.os.trans h.os, k.tape.trans h.tape, k.output.trans h.output, Nat.le_trans h.size k.size, fun b hb h1 h2 =>
    let ⟨a1, a2, a3⟩ := h.old b hb h1 h2
    let ⟨c1, c2, c3⟩ := k.old b (Nat.lt_of_lt_of_le hb h.size) a1 a2
    ⟨c1, c2, c3.trans a3⟩, h.up.trans k.up⟩
theorem BoxOk.mono {g g' : G} {w w' : World} {id b : Nat} {x : Box} (h : BoxOk g w id b x) (hg : Grow IsCell g g')
    (ho : g.ow b = none → g'.ow b = none) (hi : (∀ o, g.im b o = none) → ∀ o, g'.im b o = none) (hb : w'.heap[b]? = w.heap[b]?) (hs : w.heap.size ≤ w'.heap.size) : BoxOk g' w' id b x := by
  cases x with
  | cells cs =>
    obtain ⟨h1, h2, vs, T, h3, h4, h5⟩ := h
    exact ⟨ho h1, hi h2, vs, T, hb.trans h3, ⟨h4.1, hg.ι.z _ _ h4.2⟩, fun o c v hc hv => let ⟨a, r1, r2⟩ := h5 o c v hc hv; ⟨a.mono hg (L := .cell id o) True.intro, r1, by rw [hg.N]; exact r2⟩⟩
  | iter s pos =>
    obtain ⟨h1, h2, h3⟩ := h
    exact ⟨ho h1, hi h2, hb.trans h3⟩
  | dead => exact Nat.lt_of_lt_of_le h hs
theorem Inv.lt_im {g : G} {H : Heap} {w : World} (h : Inv g H w) {b o : Nat} {v : Value} (hv : g.im b o = some v) : b < w.heap.size := by
  have := h.im b o v hv
  unfold World.cell? at this
  split at this
  · rename_i hb
    exact (Array.getElem?_eq_some_iff.mp hb).1
  · simp at this
theorem Inv.lt_ow {g : G} {H : Heap} {w : World} (h : Inv g H w) {b : Nat} {L : Owner} {s : Nat} (hv : g.ow b = some (L, s)) : b < w.heap.size := by
  obtain ⟨cs, T, hb, _⟩ := h.ow b L s hv
  exact (Array.getElem?_eq_some_iff.mp hb).1
theorem Inv.lt_ι {g : G} {H : Heap} {w : World} (h : Inv g H w) {i b : Nat} (hv : g.ι[i]? = some b) : b < w.heap.size := by
  have hi : i < g.ι.length := (List.getElem?_eq_some_iff.mp hv).1
  rw [h.len] at hi
  have hx : H[i]? = some H[i] := List.getElem?_eq_getElem hi
  have := h.box i b H[i] hv hx
  generalize H[i] = x at this
  cases x with
  | cells cs => obtain ⟨_, _, vs, T, h3, _⟩ := this; exact (Array.getElem?_eq_some_iff.mp h3).1
  | iter s p => obtain ⟨_, _, h3⟩ := this; exact (Array.getElem?_eq_some_iff.mp h3).1
  | dead => exact this
end Go.Proofs.YtjcffopjohkmaaaDoor.Pi
namespace Go.Proofs.YtjcffopjohkmaaaDoor.Pi
variable {P : Program} {g : G} {L : Owner} {w : World}
theorem RepS.int {k : IntKind} {n : Int} {v : Value} (h : RepS g L (.int k n) v) : v = .int k n := by
  cases h with
  | pure h => cases h with
    | flat h => cases h; rfl
theorem RepS.bool {b : Bool} {v : Value} (h : RepS g L (.bool b) v) : v = .bool b := by
  cases h with
  | pure h => cases h with
    | flat h => cases h; rfl
theorem RepS.str {s : ByteArray} {v : Value} (h : RepS g L (.str s) v) : v = .string s := by
  cases h with
  | pure h => cases h with
    | flat h => cases h; rfl
theorem RepT.int {k : IntKind} {n : Int} {v : Value} (h : RepT g L (.int k n) v) : v = .int k n := by cases h with | one h => exact h.int
theorem RepT.bool {b : Bool} {v : Value} (h : RepT g L (.bool b) v) : v = .bool b := by cases h with | one h => exact h.bool
theorem RepT.str {s : ByteArray} {v : Value} (h : RepT g L (.str s) v) : v = .string s := by cases h with | one h => exact h.str
theorem RepT.nil {v : Value} (h : RepT g L .nil v) : v = .pointer none := by
  cases h with
  | one h => cases h with
    | pure h => cases h with
      | flat h => cases h; rfl
theorem RepT.nilfn {v : Value} (h : RepT g L .nilfn v) : v = .nilFunc := by
  cases h with
  | one h => cases h with
    | pure h => cases h with
      | flat h => cases h; rfl
theorem RepT.niliface {v : Value} (h : RepT g L .niliface v) : v = .nilIface := by
  cases h with
  | one h => cases h with
    | pure h => cases h with
      | flat h => cases h; rfl
theorem RepT.ptr {id off : Nat} {v : Value} (h : RepT g L (.ptr id off) v) : ∃ b, g.ι[id]? = some b ∧ v = .pointer (some ⟨b, off, none⟩) := by
  cases h with
  | one h => cases h with
    | pure h => cases h with
      | flat h => cases h
      | ptr h => exact ⟨_, h, rfl⟩
theorem RepT.elem {cs : List PV} {v : Value} (h : RepT g L (.elem cs) v) : ∃ b o, ∃ vs : Nat → Value, v = .pointer (some ⟨b, o, none⟩) ∧
    (∀ (j : Nat) (c : PV), cs[j]? = some c → g.im b (o + j) = some (vs j)) ∧ ∀ (j : Nat) (c : PV), cs[j]? = some c → RepF g.im c (vs j) := by
  cases h with
  | one h => cases h with
    | pure h => cases h with
      | flat h => cases h
      | elem vs a b => exact ⟨_, _, vs, rfl, a, b⟩
theorem RepT.win {id off sz n : Nat} {v : Value} (h : RepT g L (.win id off sz n) v) : ∃ b off' cap s, g.ι[id]? = some b ∧ g.io.z b = some s ∧ v = .slice (some ⟨b, off', none⟩) n cap ∧ (cap = 0 ∨ off' = off) ∧ n ≤ cap ∧ off' + cap * sz ≤ s := by
  cases h with
  | one h => cases h with
    | pure h => cases h with
      | flat h => cases h
      | win a b c d e => exact ⟨_, _, _, _, a, b, rfl, c, d, e⟩
theorem RepT.lit {sz n : Nat} {cs : List PV} {v : Value} (h : RepT g L (.lit sz n cs) v) : ∃ b o cap, ∃ vs : Nat → Value, v = .slice (some ⟨b, o, none⟩) n cap ∧ n ≤ cap ∧ cs.length = n * sz ∧ (∀ (j : Nat) (c : PV), cs[j]? = some c → isCell c = true) ∧
    (∀ (j : Nat) (c : PV), cs[j]? = some c → g.im b (o + j) = some (vs j)) ∧ ∀ (j : Nat) (c : PV), cs[j]? = some c → Rep g.io g.im c (vs j) := by
  cases h with
  | one h => cases h with
    | pure h => cases h with
      | flat h => cases h
      | lit vs a b c d e => exact ⟨_, _, _, vs, rfl, a, b, c, d, e⟩
theorem RepT.lel {cs : List PV} {v : Value} (h : RepT g L (.lel cs) v) : ∃ b o, ∃ vs : Nat → Value, v = .pointer (some ⟨b, o, none⟩) ∧ (∀ (j : Nat) (c : PV), cs[j]? = some c → isCell c = true) ∧
    (∀ (j : Nat) (c : PV), cs[j]? = some c → g.im b (o + j) = some (vs j)) ∧ ∀ (j : Nat) (c : PV), cs[j]? = some c → Rep g.io g.im c (vs j) := by
  cases h with
  | one h => cases h with
    | pure h => cases h with
      | flat h => cases h
      | lel vs a b c => exact ⟨_, _, vs, rfl, a, b, c⟩
theorem RepT.agg {cs : List PV} {v : Value} (h : RepT g L (.agg cs) v) : ∃ vs : Array Value, v = .agg vs ∧ vs.size = cs.length ∧ (∀ (j : Nat) (c : PV), cs[j]? = some c → isCell c = true) ∧
    ∀ (j : Nat) (c : PV) (u : Value), cs[j]? = some c → vs[j]? = some u → Rep g.io g.im c u := by
  cases h with
  | one h => cases h with
    | pure h => cases h with
      | flat h => cases h
      | agg a b c => exact ⟨_, rfl, a, b, c⟩
theorem RepT.fn {f : FuncId} {first caps : List PV} {v : Value} (h : RepT g L (.fn f first caps) v) : ∃ fv cv : Array Value, v = .func (.func f) fv cv ∧ fv.size = first.length ∧ cv.size = caps.length ∧
    (∀ (j : Nat) (c : PV) (u : Value), first[j]? = some c → fv[j]? = some u → Rep g.io g.im c u) ∧ ∀ (j : Nat) (c : PV) (u : Value), caps[j]? = some c → cv[j]? = some u → Rep g.io g.im c u := by
  cases h with
  | one h => cases h with
    | pure h => cases h with
      | flat h => cases h
      | fn a b c d => exact ⟨_, _, rfl, a, b, c, d⟩
theorem RepT.iface {t : TypeId} {p : PV} {v : Value} (h : RepT g L (.iface t p) v) : ∃ u, v = .iface t u ∧ Rep g.io g.im p u := by
  cases h with
  | one h => cases h with
    | pure h => cases h with
      | flat h => cases h
      | iface h => exact ⟨_, rfl, h⟩
theorem RepT.tupI {ps : List PV} {v : Value} (h : RepT g L (.tup ps) v) : ∃ vs : Array Value, v = .tuple vs ∧ vs.size = ps.length ∧ ∀ (j : Nat) (p : PV) (u : Value), ps[j]? = some p → vs[j]? = some u → RepS g (.sub L j) p u := by
  cases h with
  | one h => cases h with
    | pure h => cases h with
      | flat h => cases h
  | tup a b => exact ⟨_, rfl, a, b⟩
theorem RepT.slice {o z : Bool} {sz : Nat} {xs : List PV} {v : Value} (h : RepT g L (.slice o z sz xs) v) :
    (z = true ∧ o = false ∧ xs = [] ∧ v = .slice none 0 0) ∨ (z = false ∧ ∃ b off cap sp, ∃ vs : Nat → Nat → Value, v = .slice (some ⟨b, off, sp⟩) xs.length cap ∧ (sp = none ∨ cap = 0) ∧ xs.length ≤ cap ∧
      (∀ (i : Nat) (x : PV), xs[i]? = some x → x.cells.length = sz) ∧
      (∀ (i : Nat) (x : PV) (j : Nat) (c : PV), xs[i]? = some x → x.cells[j]? = some c → g.im b (off + i * sz + j) = some (vs i j)) ∧
      (∀ (i : Nat) (x : PV) (j : Nat) (c : PV), xs[i]? = some x → x.cells[j]? = some c → RepF g.im c (vs i j)) ∧
      (o = true → sp = none ∧ ∃ s, g.ow b = some (L, s) ∧ off + cap * sz ≤ s ∧ ∀ k, off + xs.length * sz ≤ k → g.im b k = none)) := by
  cases h with
  | one h => cases h with
    | pure h => cases h with
      | flat h => cases h with
        | snil => exact .inl ⟨rfl, rfl, rfl, rfl⟩
        | slice vs hsp hc hsz him hr => exact .inr ⟨rfl, _, _, _, _, vs, rfl, hsp, hc, hsz, him, hr, fun h => by cases h⟩
    | own vs hc hsz him hr how hs hroom => exact .inr ⟨rfl, _, _, _, _, vs, rfl, .inl rfl, hc, hsz, him, hr, fun _ => ⟨rfl, _, how, hs, hroom⟩⟩
theorem rT {p : PV} {v : Value} (h : Rep g.io g.im p v) (L : Owner) : RepT g L p v := .one (.pure h)
theorem rF {p : PV} {v : Value} (h : RepF g.im p v) (L : Owner) : RepT g L p v := .one (.pure (.flat h))
theorem rInt (k : IntKind) (n : Int) (L : Owner) : RepT g L (.int k n) (.int k n) := rF (.int k n) L
theorem rBool (b : Bool) (L : Owner) : RepT g L (.bool b) (.bool b) := rF (.bool b) L
theorem rStr (s : ByteArray) (L : Owner) : RepT g L (.str s) (.string s) := rF (.str s) L
theorem udu {v : Value} {p : PV} (h : ofVC v = some p) : RepF g.im p v := by
  unfold ofVC at h
  split at h <;> simp only [Option.some.injEq, reduceCtorEq] at h <;> subst h
  · exact .int _ _
  · exact .bool _
  · exact .str _
  · exact .nil
  · exact .snil _
  · exact .nilfn
  · exact .niliface
theorem u4r {v : Value} {p : PV} (h : ofVC v = some p) : isCell p = true := by
  unfold ofVC at h
  split at h <;> simp only [Option.some.injEq, reduceCtorEq] at h <;> subst h <;> rfl
theorem u40 : ∀ {vs : List Value} {ps : List PV}, ofVs vs = some ps → ps.length = vs.length ∧ (∀ (j : Nat) (c : PV), ps[j]? = some c → isCell c = true) ∧ ∀ (j : Nat) (c : PV) (u : Value), ps[j]? = some c → vs[j]? = some u → RepF g.im c u
  | [], ps, h => by
    simp only [ofVs, Option.some.injEq] at h
    subst h
    exact ⟨rfl, fun j c h => by simp at h, fun j c u h => by simp at h⟩
  | v :: r, ps, h => by
    simp only [ofVs] at h
    split at h
    · rename_i a b ha hb
      simp only [Option.some.injEq] at h
      subst h
      obtain ⟨h1, h2, h3⟩ := u40 hb
      refine ⟨by simp [h1], fun j c hc => ?_, fun j c u hc hu => ?_⟩
      · cases j with
        | zero => simp at hc; subst hc; exact u4r ha
        | succ j => exact h2 j c (by simpa using hc)
      · cases j with
        | zero => simp at hc hu; subst hc; subst hu; exact udu ha
        | succ j => exact h3 j c u (by simpa using hc) (by simpa using hu)
    · simp at h
theorem u51 (v : Value) (L : Owner) : RepT g L (ofV v) v := by
  unfold ofV
  split
  · rename_i cs
    split
    · rename_i l hl
      obtain ⟨h1, h2, h3⟩ := u40 (g := g) hl
      exact rT (.agg (by simpa using h1.symm) h2 (fun j c u a b => .flat (h3 j c u a (by simpa using b)))) L
    · exact .one (.undef _)
  · rename_i f a b
    cases h : (a.size == 0 && b.size == 0)
    · exact .one (.undef _)
    · simp only [Bool.and_eq_true, beq_iff_eq] at h
      exact rT (.fn h.1 h.2 (fun j c v h => by simp at h) (fun j c v h => by simp at h)) L
  · cases h : ofVC v with
    | none => exact .one (.undef _)
    | some p => exact rF (udu h) L
structure TOk (x : Nat) (g : G) (env : Env) (tm : Array Value) : Prop where
  one : x ≤ 1
  len : env.length = tm.size + x
  val : ∀ (t : Nat) (v : Value) (p : PV), tm[t]? = some v → env[t]? = some p → RepT g (.tmp t) p v
  slot : ∀ (t : Nat) (p : PV), tm.size ≤ t → env[t]? = some p → p = .undef ∨ p = .tup []
variable {x : Nat} {env : Env} {a : Act}
def whose : Operand → Owner
  | .tmp t => .tmp t
  | _ => .res
theorem ev_tmp {tm : Array Value} (h : TOk x g env tm) (t : Nat) : RepT g (.tmp t) (env.getD t .undef) (tm.getD t undef) := by
  simp only [List.getD_eq_getElem?_getD, Array.getD_eq_getD_getElem?]
  cases hv : tm[t]? with
  | some v =>
    have ht : t < tm.size := (Array.getElem?_eq_some_iff.mp hv).1
    have hl := h.len
    have hlt : t < env.length := by omega
    have hp : env[t]? = some env[t] := List.getElem?_eq_getElem hlt
    rw [hp]
    exact h.val t v _ hv hp
  | none =>
    have ht : tm.size ≤ t := by simpa using hv
    cases hp : env[t]? with
    | none => exact .one (.undef _)
    | some p =>
      rcases h.slot t p ht hp with rfl | rfl
      · exact .one (.undef _)
      · exact .tup rfl (fun j p v h => by simp at h)
theorem ev_rep {H : Heap} {w : World} (hi : Inv g H w) (h : TOk x g env a.tmps) (o : Operand) : RepT g (whose o) (ev env o) (a.eval o) := by
  cases o with
  | tmp t => exact ev_tmp h t
  | const v => exact u51 v _
  | global b =>
    show RepT g _ (GT b) _
    rcases hi.gl b with e | e
    · rw [e]; exact .one (.undef _)
    · exact .one (.pure (e.mono ⟨fun i b h => by simp at h, fun b s h => by cases h⟩ (fun _ _ _ h => h)))
  | func f => exact rT (.fn rfl rfl (fun j c v h => by simp at h) (fun j c v h => by simp at h)) _
theorem TOk.mono {S : Owner → Prop} {g' : G} (hg : Grow S g g') (hS : ∀ L, IsTmp L → S L) {tm : Array Value} (h : TOk x g env tm) : TOk x g' env tm :=
  ⟨h.one, h.len, fun t v p hv hp => (h.val t v p hv hp).mono hg (hS (.tmp t) True.intro) (fun j => hS (.sub (.tmp t) j) True.intro), h.slot⟩
theorem TOk.put {tm : Array Value} (h : TOk x g env tm) {d : Nat} {p : PV} {v : Value} (hd : x = 0 ∨ d + 1 < env.length) (hr : RepT g (.tmp d) p v) : TOk x g (env.set d p) (tm.setIfInBounds d v) := by
  have hl := h.len
  have hx1 := h.one
  refine ⟨h.one, by simp [h.len], fun t u q hu hq => ?_, fun t q ht hq => ?_⟩
  · by_cases e : d = t
    · subst e
      have h1 : d < tm.size := by have := (Array.getElem?_eq_some_iff.mp hu).1; simpa using this
      have h2 : d < env.length := by omega
      rw [List.getElem?_set_self h2] at hq
      rw [Array.getElem?_setIfInBounds_self_of_lt h1] at hu
      simp only [Option.some.injEq] at hq hu
      subst hq; subst hu
      exact hr
    · rw [List.getElem?_set_ne e] at hq
      rw [Array.getElem?_setIfInBounds_ne e] at hu
      exact h.val t u q hu hq
  · simp only [Array.size_setIfInBounds] at ht
    by_cases e : d = t
    · subst e
      have h2 : d < env.length := by
        have := (List.getElem?_eq_some_iff.mp hq).1
        simpa using this
      rcases hd with hd | hd
      · omega
      · omega
    · rw [List.getElem?_set_ne e] at hq
      exact h.slot t q ht hq
theorem u54 {p : PV} (h : p = .undef ∨ p = .tup []) : strip p = p := by rcases h with rfl | rfl <;> rfl
theorem u3a {p : PV} (i : Nat) (h : p = .undef ∨ p = .tup []) : tupDrop i p = p := by rcases h with rfl | rfl <;> rfl
theorem RepT.tupDrop {p : PV} {v : Value} (h : RepT g L p v) (i : Nat) : RepT g L (tupDrop i p) v := by
  cases p with
  | tup ps =>
    obtain ⟨vs, rfl, h1, h2⟩ := h.tupI
    refine .tup (by simpa using h1) fun j q u hq hu => ?_
    by_cases e : i = j
    · subst e
      have hi : i < ps.length := by
        have := (List.getElem?_eq_some_iff.mp hq).1
        simpa using this
      rw [List.getElem?_set_self hi] at hq
      simp only [Option.some.injEq] at hq
      subst hq
      have : ps.getD i .undef = ps[i] := by simp [List.getD, List.getElem?_eq_getElem hi]
      rw [this]
      exact (h2 i ps[i] u (List.getElem?_eq_getElem hi) hu).strip
    · rw [List.getElem?_set_ne e] at hq
      exact h2 j q u hq hu
  | aggo ps => exact h.strip
  | _ => exact h
theorem TOk.change {tm : Array Value} (h : TOk x g env tm) (s : Nat) (f : PV → PV) (hf : ∀ p v, RepT g (.tmp s) p v → RepT g (.tmp s) (f p) v) (hs : ∀ p, p = .undef ∨ p = .tup [] → f p = p) :
    TOk x g (env.set s (f (env.getD s .undef))) tm := by
  have hl := h.len
  have hx1 := h.one
  refine ⟨h.one, by simp [h.len], fun t u q hu hq => ?_, fun t q ht hq => ?_⟩
  · by_cases e : s = t
    · subst e
      have h2 : s < env.length := by
        have := (List.getElem?_eq_some_iff.mp hq).1
        simpa using this
      rw [List.getElem?_set_self h2] at hq
      simp only [Option.some.injEq] at hq
      subst hq
      have : env.getD s .undef = env[s] := by simp [List.getD, List.getElem?_eq_getElem h2]
      rw [this]
      exact hf _ _ (h.val s u _ hu (List.getElem?_eq_getElem h2))
    · rw [List.getElem?_set_ne e] at hq
      exact h.val t u q hu hq
  · by_cases e : s = t
    · subst e
      have h2 : s < env.length := by
        have := (List.getElem?_eq_some_iff.mp hq).1
        simpa using this
      rw [List.getElem?_set_self h2] at hq
      simp only [Option.some.injEq] at hq
      subst hq
      have : env.getD s .undef = env[s] := by simp [List.getD, List.getElem?_eq_getElem h2]
      rw [this]
      have := h.slot s _ ht (List.getElem?_eq_getElem h2)
      rw [hs _ this]
      exact this
    · rw [List.getElem?_set_ne e] at hq
      exact h.slot t q ht hq
theorem TOk.giveUp {tm : Array Value} (h : TOk x g env tm) (s : Option (Tmp × Option Nat)) : TOk x g (giveUp env s) tm := by
  unfold Pi.giveUp
  split
  · exact h.change _ strip (fun p v hp => hp.strip) (fun p => u54)
  · exact h.change _ (tupDrop _) (fun p v hp => hp.tupDrop _) (fun p => u3a _)
  · exact h
theorem u1h (s : Option (Tmp × Option Nat)) : (giveUp env s).length = env.length := by
  unfold Pi.giveUp
  split <;> simp
end Go.Proofs.YtjcffopjohkmaaaDoor.Pi
namespace Go.Proofs.YtjcffopjohkmaaaDoor.Pi
variable {P : Program} {g : G} {L L' : Owner} {w : World} {H : Heap}
def PureRes (P : Program) (g : G) (w : World) (H : Heap) (s : Sem Value) (out : Out PV) : Prop :=
  ∃ v cv, out = .ok v H ∧ s.run P w = .ok cv w ∧ ∀ L, RepT g L v cv
theorem u06 {s : Sem Value} {v : PV} {cv : Value} {out : Out PV} (h : M.pure v H = some out) (hr : s.run P w = .ok cv w) (hv : ∀ L, RepT g L v cv) : PureRes P g w H s out := by
  simp only [M.pure, Option.some.injEq] at h
  exact ⟨v, cv, h.symm, hr, hv⟩
theorem u9n {op : BinOp} {k : IntKind} {a b : Int} {out : Out PV} (h : intOp op k a b H = some out) (hs : op ≠ .shl) (hs' : op ≠ .shr) :
    PureRes P g w H (match op with
      | .add | .sub | .mul => Op.intArith op k a b
      | .quo | .rem => Op.intDiv op k a b
      | .and | .or | .xor | .andNot => Op.intBits op k a b
      | _ => Op.intCmp op a b) out := by
  cases op <;> simp only [intOp] at h
  case quo =>
    by_cases hb : b = 0
    · simp [hb, M.fail] at h
    · have : (b == 0) = false := by simpa using hb
      rw [this] at h
      exact u06 h (by simp [Op.intDiv, hb]) (fun L => rInt _ _ L)
  case rem =>
    by_cases hb : b = 0
    · simp [hb, M.fail] at h
    · have : (b == 0) = false := by simpa using hb
      rw [this] at h
      exact u06 h (by simp [Op.intDiv, hb]) (fun L => rInt _ _ L)
  case shl => exact absurd rfl hs
  case shr => exact absurd rfl hs'
  all_goals first
    | exact u06 h rfl (fun L => rInt _ _ L)
    | exact u06 h (by simp [Op.intArith]) (fun L => rInt _ _ L)
    | exact u06 h (by simp [Op.intBits]) (fun L => rInt _ _ L)
    | exact u06 h (by simp [Op.intCmp]) (fun L => rBool _ L)
theorem ukd {op : BinOp} {a b : ByteArray} {out : Out PV} (h : strOp op a b H = some out) : PureRes P g w H (Op.stringOp op a b) out := by
  cases op <;> simp only [strOp] at h
  case add =>
    by_cases hb : ((a.size + b.size : Nat) : Int) ≤ IntKind.i64.max
    · rw [decide_eq_true hb] at h
      have hn : ¬ ((a.size + b.size : Nat) : Int) > IntKind.i64.max := by omega
      exact u06 h (by simp only [Op.stringOp]; rw [if_neg hn]; rfl) (fun L => rStr _ L)
    · rw [decide_eq_false hb] at h
      simp [M.fail] at h
  all_goals first
    | (simp [M.fail] at h; done)
    | exact u06 h (by simp [Op.stringOp]) (fun L => rBool _ L)
theorem uet {op : BinOp} {ek : EqK} {k k' : IntKind} {a b : Int} {out : Out PV} (ho : op = .shl ∨ op = .shr) (h : bi op ek (.int k a) (.int k' b) H = some out) : PureRes P g w H (Op.shift op k a k' b) out := by
  rcases ho with rfl | rfl <;> simp only [bi] at h
  all_goals
    by_cases hb : b < 0
    · rw [decide_eq_true hb] at h
      simp [M.fail] at h
    · rw [decide_eq_false hb] at h
      exact u06 h (by simp only [Op.shift]; rw [if_neg hb]; rfl) (fun L => rInt _ _ L)
theorem un_ok {op : UnOp} {p : PV} {u : Value} {out : Out PV} (h : un op p H = some out) (hp : RepT g L p u) : PureRes P g w H (Op.unary op u) out := by
  unfold un at h
  split at h
  · obtain rfl := hp.int
    exact u9n (op := .sub) h (by simp) (by simp)
  · obtain rfl := hp.int
    exact u9n (op := .xor) h (by simp) (by simp)
  · obtain rfl := hp.bool
    exact u06 h (by simp [Op.unary]) (fun L => rBool _ L)
  · simp [M.fail] at h
theorem uks {c a b : PV} {u v : Value} {uc : Value} {out : Out PV} (h : pick c a b H = some out) (hc : RepT g L c uc) {La Lb : Owner} (ha : RepT g La a u) (hb : RepT g Lb b v) :
    PureRes P g w H (do pure (if ← asBool uc then u else v)) out := by
  unfold pick at h
  split at h
  · rename_i t
    obtain rfl := hc.bool
    cases t
    · exact u06 h (by simp [asBool]) (fun L => hb.strip)
    · exact u06 h (by simp [asBool]) (fun L => ha.strip)
  · simp [M.fail] at h
theorem u6c {t : TypeId} {k : SK} {vs : Array Value} {i : Nat} {v : Value} (ht : skOf P t = some k) (hv : vs[i]? = some v) : (part t vs i).run P w = .ok v w := by
  unfold skOf at ht
  split at ht
  all_goals first
    | (rename_i hu; simp [part, isAgg, run_underlying hu, hv]; done)
    | (rename_i k hu; simp [part, isAgg, run_underlying hu, hv]; done)
    | simp at ht
theorem uda {d : Nat} {t : TypeId} {k : SK} {p q : PV} {u v : Value} {b : Bool} (h : u15 k p q = some b) (hp : RepT g L p u) (hq : RepT g L' q v)
    (ht : skOf P t = some k) : (Op.equalIn (d + 1) t u v).run P w = .ok b w := by
  unfold skOf at ht
  split at ht
  · rename_i kk hu
    simp only [Option.some.injEq] at ht
    subst ht
    cases p <;> first | (simp only [u15, reduceCtorEq] at h; done) | skip
    cases q <;> first | (simp only [u15, reduceCtorEq] at h; done) | skip
    rename_i k a k' c
    obtain rfl := hp.int
    obtain rfl := hq.int
    simp only [u15] at h
    by_cases hk : k = k'
    · rw [decide_eq_true hk] at h
      simp only [cond_true, Option.some.injEq] at h
      subst h
      simp [Op.equalIn, run_underlying hu, hk]
    · rw [decide_eq_false hk] at h
      simp at h
  · rename_i hu
    simp only [Option.some.injEq] at ht
    subst ht
    cases p <;> first | (simp only [u15, reduceCtorEq] at h; done) | skip
    cases q <;> first | (simp only [u15, reduceCtorEq] at h; done) | skip
    obtain rfl := hp.bool
    obtain rfl := hq.bool
    simp only [u15, Option.some.injEq] at h
    subst h
    simp [Op.equalIn, run_underlying hu]
  · rename_i hu
    simp only [Option.some.injEq] at ht
    subst ht
    cases p <;> first | (simp only [u15, reduceCtorEq] at h; done) | skip
    cases q <;> first | (simp only [u15, reduceCtorEq] at h; done) | skip
    obtain rfl := hp.str
    obtain rfl := hq.str
    simp only [u15, Option.some.injEq] at h
    subst h
    simp [Op.equalIn, run_underlying hu]
  · simp at ht
theorem u6j : ∀ (k1 k2 : List SK) (x y : List PV) (b : Bool), u1b (k1 ++ k2) x y = some b →
    ∃ b1, u1b k1 (x.take k1.length) (y.take k1.length) = some b1 ∧ (b1 = false → b = false) ∧ (b1 = true → u1b k2 (x.drop k1.length) (y.drop k1.length) = some b)
  | [], k2, x, y, b, h => ⟨true, rfl, (fun h => by cases h), fun _ => h⟩
  | k :: k1, k2, [], y, b, h => by simp [u1b] at h
  | k :: k1, k2, a :: x, [], b, h => by simp [u1b] at h
  | k :: k1, k2, a :: x, c :: y, b, h => by
    simp only [List.cons_append, u1b] at h
    simp only [List.length_cons, List.take_succ_cons, List.drop_succ_cons, u1b]
    cases he : u15 k a c with
    | none => rw [he] at h; simp at h
    | some e =>
      rw [he] at h
      cases e with
      | false =>
        simp only [Option.some.injEq] at h
        exact ⟨false, rfl, fun _ => h.symm, fun h => by cases h⟩
      | true =>
        simp only at h ⊢
        exact u6j k1 k2 x y b h
def u3j (g : G) (i : Nat) (x : List PV) (xs : Array Value) : Prop := ∀ (j : Nat) (c : PV), x[j]? = some c → ∃ u, xs[i + j]? = some u ∧ Rep g.io g.im c u
def NestOk (P : Program) (g : G) (w : World) (n : Nat) (nest : TypeId → Option (List SK)) : Prop :=
  ∀ t ks, nest t = some ks → ks.length = tsize P t ∧ (∃ fs, P.underlying t = some (.struct fs)) ∧ ∀ d x y (xs ys : Array Value) b, n ≤ d → u1b ks x y = some b → u3j g 0 x xs → u3j g 0 y ys → (Op.equalIn (d + 1) t (.agg xs) (.agg ys)).run P w = .ok b w
theorem ucm {t : TypeId} {fs : Array Field} {vs : Array Value} {i : Nat} (hu : P.underlying t = some (.struct fs)) (hs : ∃ n, P.info? t = some n) : (part t vs i).run P w = .ok (.agg (vs.extract i (i + tsize P t))) w := by
  obtain ⟨info, hi⟩ := hs
  have h1 : (isAgg t).run P w = .ok true w := by simp [isAgg, run_underlying hu]
  have h2 : (sizeOf t).run P w = .ok (tsize P t) w := by simp [sizeOf, typeInfo, hi, tsize]
  unfold part
  simp only [Sem.run_bind, h1, h2, Result.andThen_ok, if_true, Sem.run_pure]
theorem eqL_ok {n : Nat} {nest : TypeId → Option (List SK)} (hn : NestOk P g w n nest) {d : Nat} (hd : n ≤ d) : ∀ (fs : List Field) (i : Nat) (ks : List SK) (x y : List PV) (xs ys : Array Value) (b : Bool), plainL nest P i fs = some ks → u1b ks x y = some b →
    u3j g i x xs → u3j g i y ys → (Op.eqFields (d + 1) xs ys fs).run P w = .ok b w
  | [], i, ks, x, y, xs, ys, b, hf, h, hx, hy => by
    simp only [plainL, Option.some.injEq] at hf
    subst hf
    cases x <;> cases y <;> simp [u1b] at h
    subst h
    simp [Op.eqFields]
  | f :: r, i, ks, x, y, xs, ys, b, hf, h, hx, hy => by
    simp only [plainL] at hf
    cases hc : (f.offset == i && f.name != "_") with
    | false => rw [hc] at hf; simp at hf
    | true =>
      rw [hc] at hf
      simp only [Bool.and_eq_true, beq_iff_eq, bne_iff_ne] at hc
      obtain ⟨ho, hnm⟩ := hc
      simp only [cond_true] at hf
      cases hk : skOf P f.type with
      | some k =>
        rw [hk] at hf
        dsimp only at hf
        cases hks : plainL nest P (i + 1) r with
        | none => rw [hks] at hf; cases hf
        | some ks' =>
          rw [hks] at hf
          simp only [Option.some.injEq] at hf
          subst hf
          cases x with
          | nil => simp [u1b] at h
          | cons a x =>
            cases y with
            | nil => simp [u1b] at h
            | cons c y =>
              obtain ⟨u, hu, ru⟩ := hx 0 a rfl
              obtain ⟨v, hv, rv⟩ := hy 0 c rfl
              simp only [Nat.add_zero] at hu hv
              have ih := fun b' hb' => eqL_ok hn hd r (i + 1) ks' x y xs ys b' hks hb'
                (fun j e he => by have := hx (j + 1) e (by simpa using he); simpa [Nat.add_assoc, Nat.add_comm 1 j] using this)
                (fun j e he => by have := hy (j + 1) e (by simpa using he); simpa [Nat.add_assoc, Nat.add_comm 1 j] using this)
              simp only [u1b] at h
              simp only [Op.eqFields]
              rw [if_pos hnm, ho]
              simp only [Sem.run_bind, u6c hk hu, u6c hk hv, Result.andThen_ok]
              cases he : u15 k a c with
              | none => rw [he] at h; simp at h
              | some e =>
                rw [he] at h
                rw [uda he (rT ru .res) (rT rv .res) hk]
                cases e
                · simp only [Option.some.injEq] at h
                  subst h
                  simp
                · simp only at h
                  simp only [Result.andThen_ok, Bool.not_true, Bool.false_eq_true, if_false]
                  exact ih b h
      | none =>
        rw [hk] at hf
        dsimp only at hf
        cases hne : nest f.type with
        | none => rw [hne] at hf; cases hf
        | some k1 =>
          rw [hne] at hf
          dsimp only at hf
          cases hks : plainL nest P (i + k1.length) r with
          | none => rw [hks] at hf; cases hf
          | some k2 =>
            rw [hks] at hf
            simp only [Option.some.injEq] at hf
            subst hf
            obtain ⟨hsz, ⟨fs', hu'⟩, heq⟩ := hn _ _ hne
            obtain ⟨b1, e1, e2, e3⟩ := u6j k1 k2 x y b h
            have hinfo : ∃ n, P.info? f.type = some n := by
              cases hi : P.info? f.type with
              | some n => exact ⟨n, rfl⟩
              | none => simp [Program.underlying, hi] at hu'
            have cut : ∀ (x : List PV) (xs : Array Value), u3j g i x xs → u3j g 0 (x.take k1.length) (xs.extract i (i + tsize P f.type)) := by
              intro x xs hx j c hj
              have hjl : j < k1.length := by
                have := (List.getElem?_eq_some_iff.mp hj).1
                simp only [List.length_take] at this
                omega
              rw [List.getElem?_take, if_pos hjl] at hj
              obtain ⟨u, h1, h2⟩ := hx j c hj
              refine ⟨u, ?_, h2⟩
              have hlt := (Array.getElem?_eq_some_iff.mp h1).1
              rw [Array.getElem?_extract, if_pos (by omega), Nat.zero_add]
              exact h1
            have rest : ∀ (x : List PV) (xs : Array Value), u3j g i x xs → u3j g (i + k1.length) (x.drop k1.length) xs := by
              intro x xs hx j c hj
              rw [List.getElem?_drop] at hj
              obtain ⟨u, h1, h2⟩ := hx _ c hj
              exact ⟨u, by rw [Nat.add_assoc]; exact h1, h2⟩
            have hone := heq d _ _ _ _ b1 hd e1 (cut x xs hx) (cut y ys hy)
            simp only [Op.eqFields]
            rw [if_pos hnm, ho]
            simp only [Sem.run_bind, ucm hu' hinfo, Result.andThen_ok]
            rw [hone]
            cases b1
            · have := e2 rfl
              subst this
              simp
            · simp only [Result.andThen_ok, Bool.not_true, Bool.false_eq_true, if_false]
              exact eqL_ok hn hd r (i + k1.length) k2 _ _ xs ys b hks (e3 rfl) (rest x xs hx) (rest y ys hy)
theorem ubb : ∀ n, NestOk P g w n (plainN P n)
  | 0 => fun t ks h => by cases h
  | n + 1 => fun t ks h => by
    unfold plainN at h
    cases hu : P.underlying t with
    | none => rw [hu] at h; cases h
    | some u =>
      rw [hu] at h
      cases u with
      | struct fs =>
        dsimp only at h
        cases hs : (!P.stoodInHeld t && !P.eqGuardType P.depth t) with
        | false => rw [hs] at h; cases h
        | true =>
          rw [hs] at h
          simp only [cond_true] at h
          simp only [Bool.and_eq_true, Bool.not_eq_true'] at hs
          cases hp : plainL (plainN P n) P 0 fs.toList with
          | none => rw [hp] at h; cases h
          | some k1 =>
            rw [hp] at h
            dsimp only at h
            cases hl : (k1.length == tsize P t) with
            | false => rw [hl] at h; cases h
            | true =>
              rw [hl] at h
              simp only [cond_true, Option.some.injEq] at h
              subst h
              refine ⟨by simpa using hl, ⟨fs, rfl⟩, fun d x y xs ys b hd he hx hy => ?_⟩
              obtain ⟨d', rfl⟩ : ∃ d', d = d' + 1 := ⟨d - 1, by omega⟩
              have hfo : P.fieldsOf t = fs := by simp [Program.fieldsOf, hu]
              rw [run_equalIn_struct w (d' + 1) t xs ys (by rw [hfo]; exact hu) hs.1, hfo]
              exact eqL_ok (ubb n) (by omega) fs.toList 0 k1 x y xs ys b hp he hx hy
      | _ => cases h
set_option maxHeartbeats 2000000 in
theorem ufj {t : TypeId} {c : Bool} {p q : PV} {u v : Value} {b : Bool} (h : eqPV (eqKind P t c) p q = some b) (hp : RepT g L p u) (hq : RepT g L' q v) (m : Nat) (hm : 4 ≤ m) : (Op.equalIn (m + 2) t u v).run P w = .ok b w := by
  unfold eqKind at h
  split at h
  · rename_i hu
    cases p <;> cases q <;> simp [eqPV] at h
    obtain rfl := hp.bool
    obtain rfl := hq.bool
    subst h
    simp [Op.equalIn, run_underlying hu]
  · rename_i e hu
    cases p <;> cases q <;> simp [eqPV] at h <;> subst h
    · obtain rfl := hp.nil
      obtain rfl := hq.nil
      simp [Op.equalIn, run_underlying hu]
    · obtain rfl := hp.nil
      obtain ⟨_, _, rfl⟩ := hq.ptr
      simp [Op.equalIn, run_underlying hu]
    · obtain ⟨_, _, rfl⟩ := hp.ptr
      obtain rfl := hq.nil
      simp [Op.equalIn, run_underlying hu]
  · rename_i e hu
    cases p <;> cases q <;> first | (simp only [eqPV, reduceCtorEq] at h; done) | skip
    case slice.slice o z sz xs o' z' sz' xs' =>
      rcases hp.slice with ⟨rfl, rfl, rfl, rfl⟩ | ⟨rfl, _, _, _, _, _, rfl, _⟩ <;> rcases hq.slice with ⟨rfl, rfl, rfl, rfl⟩ | ⟨rfl, _, _, _, _, _, rfl, _⟩ <;>
        (simp only [eqPV, Option.some.injEq, reduceCtorEq] at h; try subst h) <;> first | (simp [Op.equalIn, run_underlying hu]; done) | skip
    case win.slice =>
      obtain ⟨_, _, _, _, _, _, rfl, _⟩ := hp.win
      rcases hq.slice with ⟨rfl, rfl, rfl, rfl⟩ | ⟨rfl, _, _, _, _, _, rfl, _⟩ <;> (simp only [eqPV, Option.some.injEq, reduceCtorEq] at h; try subst h) <;> first | (simp [Op.equalIn, run_underlying hu]; done) | skip
    case slice.win =>
      obtain ⟨_, _, _, _, _, _, rfl, _⟩ := hq.win
      rcases hp.slice with ⟨rfl, rfl, rfl, rfl⟩ | ⟨rfl, _, _, _, _, _, rfl, _⟩ <;> (simp only [eqPV, Option.some.injEq, reduceCtorEq] at h; try subst h) <;> first | (simp [Op.equalIn, run_underlying hu]; done) | skip
    case lit.slice =>
      obtain ⟨_, _, _, _, rfl, _⟩ := hp.lit
      rcases hq.slice with ⟨rfl, rfl, rfl, rfl⟩ | ⟨rfl, _, _, _, _, _, rfl, _⟩ <;> (simp only [eqPV, Option.some.injEq, reduceCtorEq] at h; try subst h) <;> first | (simp [Op.equalIn, run_underlying hu]; done) | skip
    case slice.lit =>
      obtain ⟨_, _, _, _, rfl, _⟩ := hq.lit
      rcases hp.slice with ⟨rfl, rfl, rfl, rfl⟩ | ⟨rfl, _, _, _, _, _, rfl, _⟩ <;> (simp only [eqPV, Option.some.injEq, reduceCtorEq] at h; try subst h) <;> first | (simp [Op.equalIn, run_underlying hu]; done) | skip
  · rename_i hu
    cases p <;> cases q <;> simp [eqPV] at h <;> subst h
    · obtain ⟨_, _, rfl, _⟩ := hp.fn
      obtain rfl := hq.nilfn
      simp [Op.equalIn, run_underlying hu]
    · obtain rfl := hp.nilfn
      obtain ⟨_, _, rfl, _⟩ := hq.fn
      simp [Op.equalIn, run_underlying hu]
    · obtain rfl := hp.nilfn
      obtain rfl := hq.nilfn
      simp [Op.equalIn, run_underlying hu]
  · rename_i hu
    cases c
    · simp [eqPV] at h
    simp only [cond_true] at h
    cases p <;> cases q <;> simp [eqPV] at h <;> subst h
    · obtain ⟨_, rfl, _⟩ := hp.iface
      obtain rfl := hq.niliface
      simp [Op.equalIn, run_underlying hu]
    · obtain rfl := hp.niliface
      obtain ⟨_, rfl, _⟩ := hq.iface
      simp [Op.equalIn, run_underlying hu]
    · obtain rfl := hp.niliface
      obtain rfl := hq.niliface
      simp [Op.equalIn, run_underlying hu]
  · rename_i fs hu
    cases hs : (!P.stoodInHeld t && !P.eqGuardType P.depth t) with
    | false => rw [hs] at h; simp [eqPV] at h
    | true =>
      rw [hs] at h
      simp only [cond_true] at h
      simp only [Bool.and_eq_true, Bool.not_eq_true'] at hs
      cases hf : plainL (plainN P 4) P 0 fs.toList with
      | none => rw [hf] at h; simp [eqPV] at h
      | some ks =>
        rw [hf] at h
        cases p <;> cases q <;> simp only [eqPV, reduceCtorEq] at h
        obtain ⟨xs, rfl, hx1, hx2, hx3⟩ := hp.agg
        obtain ⟨ys, rfl, hy1, hy2, hy3⟩ := hq.agg
        have hfo : P.fieldsOf t = fs := by simp [Program.fieldsOf, hu]
        rw [run_equalIn_struct w (m + 1) t xs ys (by rw [hfo]; exact hu) hs.1, hfo]
        rename_i x y
        refine eqL_ok (g := g) (d := m) (ubb 4) hm fs.toList 0 ks x y xs ys b hf h (fun j e he => ?_) (fun j e he => ?_)
        · have hj : j < xs.size := by rw [hx1]; exact (List.getElem?_eq_some_iff.mp he).1
          exact ⟨xs[j], by simp [hj], hx3 j e _ he (by simp [hj])⟩
        · have hj : j < ys.size := by rw [hy1]; exact (List.getElem?_eq_some_iff.mp he).1
          exact ⟨ys[j], by simp [hj], hy3 j e _ he (by simp [hj])⟩
  · simp [eqPV] at h
theorem ues {t : TypeId} {c : Bool} {p q : PV} {u v : Value} {b : Bool} (h : eqPV (eqKind P t c) p q = some b) (hp : RepT g L p u) (hq : RepT g L' q v) : (Op.equal t u v).run P w = .ok b w :=
  ufj h hp hq 9998 (by omega)
end Go.Proofs.YtjcffopjohkmaaaDoor.Pi
namespace Go.Proofs.YtjcffopjohkmaaaDoor.Pi
variable {P : Program} {g : G} {L L' : Owner} {w : World} {H : Heap}
def u0b : Operand → Bool
  | .const _ => true
  | _ => false
theorem RepT.of_nilIface {p : PV} (h : RepT g L p .nilIface) : p = .niliface ∨ p = .undef := by
  cases h with
  | one h => cases h with
    | undef => exact .inr rfl
    | pure h => cases h with
      | flat h => cases h; exact .inl rfl
theorem RepT.of_agg {p : PV} {cs : Array Value} (h : RepT g L p (.agg cs)) : (∃ l, p = .agg l ∨ p = .aggo l) ∨ p = .undef := by
  cases h with
  | one h => cases h with
    | undef => exact .inr rfl
    | pure h => cases h with
      | flat h => cases h
      | agg => exact .inl ⟨_, .inl rfl⟩
  | aggo => exact .inl ⟨_, .inr rfl⟩
theorem uao {t : TypeId} {c : Bool} (h : eqKind P t c = .iface) : c = true := by
  unfold eqKind at h
  split at h <;> first | (simp at h; done) | skip
  · cases c
    · simp at h
    · rfl
  · cases hs : (!P.stoodInHeld t && !P.eqGuardType P.depth t) <;> rw [hs] at h <;> simp only [cond_true, cond_false, reduceCtorEq] at h
    split at h <;> simp at h
theorem u93 {t : TypeId} {c : Bool} {ks : List SK} (h : eqKind P t c = .struct ks) : P.eqGuardType P.depth t = false := by
  unfold eqKind at h
  split at h <;> first | (simp at h; done) | skip
  · cases c <;> simp at h
  · cases hs : (!P.stoodInHeld t && !P.eqGuardType P.depth t) <;> rw [hs] at h <;> simp only [cond_true, cond_false, reduceCtorEq] at h
    simp only [Bool.and_eq_true, Bool.not_eq_true'] at hs
    exact hs.2
theorem u8k {op : BinOp} {t : TypeId} {X Y : Operand} {p q : PV} {u v : Value} {b : Bool} (h : eqPV (eqKind P t (u0b X || u0b Y)) p q = some b) (hp : RepT g L p u) (hq : RepT g L' q v) :
    (eqGuard op t X Y u v).run P w = .ok () w := by
  have key : ∀ o : BinOp, o = .eql ∨ o = .neq → (eqGuard o t X Y u v).run P w = .ok () w := by
    intro o ho
    have : eqGuard o t X Y u v = eqGuard .eql t X Y u v := by rcases ho with rfl | rfl <;> rfl
    rw [this]
    unfold eqGuard
    simp only [Bool.not_true, Bool.false_eq_true, if_false]
    split
    · have h1 : p = .niliface := by
        rcases hp.of_nilIface with rfl | rfl
        · rfl
        · generalize eqKind P t (u0b X || u0b Y) = k at h
          cases k <;> simp [eqPV] at h
      subst h1
      have hk : eqKind P t (u0b X || u0b Y) = .iface := by
        generalize eqKind P t (u0b X || u0b Y) = k at h
        cases k <;> simp [eqPV] at h
        rfl
      have := uao hk
      cases X <;> cases Y <;> simp_all [u0b]
    · have h1 : ∃ l, p = .agg l := by
        rcases hp.of_agg with ⟨l, h1 | rfl⟩ | rfl
        · exact ⟨l, h1⟩
        · generalize eqKind P t (u0b X || u0b Y) = k at h
          cases k <;> simp [eqPV] at h
        · generalize eqKind P t (u0b X || u0b Y) = k at h
          cases k <;> simp [eqPV] at h
      obtain ⟨l, rfl⟩ := h1
      have hk : ∃ ks, eqKind P t (u0b X || u0b Y) = .struct ks := by
        generalize eqKind P t (u0b X || u0b Y) = k at h
        cases k <;> simp [eqPV] at h
        exact ⟨_, rfl⟩
      obtain ⟨ks, hk⟩ := hk
      simp [u93 hk]
    · rfl
  cases op <;> first | exact key _ (.inl rfl) | exact key _ (.inr rfl) | rfl
theorem u4b {op : BinOp} {t : TypeId} {X Y : Operand} {k k' : IntKind} {a b : Int} : (eqGuard op t X Y (.int k a) (.int k' b)).run P w = .ok () w := by cases op <;> rfl
theorem ucr {op : BinOp} {t : TypeId} {X Y : Operand} {a b : ByteArray} : (eqGuard op t X Y (.string a) (.string b)).run P w = .ok () w := by cases op <;> rfl
theorem bi_ok {op : BinOp} {t : TypeId} {X Y : Operand} {p q : PV} {u v : Value} {out : Out PV} (h : bi op (eqKind P t (u0b X || u0b Y)) p q H = some out) (hp : RepT g L p u) (hq : RepT g L' q v) :
    PureRes P g w H (do eqGuard op t X Y u v; binOp op t u v) out := by
  unfold bi at h
  split at h
  · obtain rfl := hp.int
    obtain rfl := hq.int
    rename_i k a k' b
    obtain ⟨v, cv, h1, h2, h3⟩ := uet (P := P) (g := g) (w := w) (op := .shl) (ek := .none) (k := k) (k' := k') (.inl rfl) (by simpa only [bi] using h)
    exact ⟨v, cv, h1, by rw [Sem.run_bind, u4b]; exact h2, h3⟩
  · obtain rfl := hp.int
    obtain rfl := hq.int
    rename_i k a k' b
    obtain ⟨v, cv, h1, h2, h3⟩ := uet (P := P) (g := g) (w := w) (op := .shr) (ek := .none) (k := k) (k' := k') (.inr rfl) (by simpa only [bi] using h)
    exact ⟨v, cv, h1, by rw [Sem.run_bind, u4b]; exact h2, h3⟩
  · obtain rfl := hp.int
    obtain rfl := hq.int
    rename_i k a k' b n1 n2
    by_cases hk : k = k'
    · subst hk
      rw [decide_eq_true rfl] at h
      have hs : op ≠ .shl := fun e => n1 e
      have hs' : op ≠ .shr := fun e => n2 e
      obtain ⟨v, cv, h1, h2, h3⟩ := u9n (P := P) (g := g) (w := w) h hs hs'
      refine ⟨v, cv, h1, ?_, h3⟩
      rw [Sem.run_bind, u4b]
      simp only [Result.andThen_ok]
      rw [← h2]
      cases op <;> first | (exact absurd rfl hs) | (exact absurd rfl hs') | (simp [binOp]; done)
    · rw [decide_eq_false hk] at h
      simp [M.fail] at h
  · obtain rfl := hp.str
    obtain rfl := hq.str
    obtain ⟨v, cv, h1, h2, h3⟩ := ukd (P := P) (g := g) (w := w) h
    refine ⟨v, cv, h1, ?_, h3⟩
    rw [Sem.run_bind, ucr]
    simp only [Result.andThen_ok]
    rw [← h2]
    cases op <;> rfl
  · rename_i n1 n2
    cases hb : eqPV (eqKind P t (u0b X || u0b Y)) p q with
    | some b =>
      rw [hb] at h
      have he := ues (w := w) hb hp hq
      have hg := u8k (op := .eql) (w := w) hb hp hq
      refine u06 h ?_ (fun L => rBool _ L)
      rw [Sem.run_bind, hg]
      simp only [Result.andThen_ok]
      have : binOp .eql t u v = (do pure (.bool (← Op.equal t u v))) := by
        generalize eqKind P t (u0b X || u0b Y) = k at hb
        cases k <;> cases p <;> simp only [eqPV, reduceCtorEq] at hb <;> first
          | (obtain rfl := hp.bool; cases v <;> rfl) | (obtain rfl := hp.nil; cases v <;> rfl) | (obtain rfl := hp.nilfn; cases v <;> rfl) | (obtain rfl := hp.niliface; cases v <;> rfl)
          | (obtain ⟨_, _, rfl⟩ := hp.ptr; cases v <;> rfl) | (obtain ⟨_, _, rfl, _⟩ := hp.fn; cases v <;> rfl) | (obtain ⟨_, rfl, _⟩ := hp.iface; cases v <;> rfl) | (obtain ⟨_, rfl, _⟩ := hp.agg; cases v <;> rfl)
          | (obtain ⟨_, _, _, _, _, _, rfl, _⟩ := hp.win; cases v <;> rfl) | (obtain ⟨_, _, _, _, rfl, _⟩ := hp.lit; cases v <;> rfl)
          | (rcases hp.slice with ⟨_, _, _, rfl⟩ | ⟨_, _, _, _, _, _, rfl, _⟩ <;> cases v <;> rfl)
      rw [this]
      simp [he]
    | none =>
      rw [hb] at h
      simp [M.fail] at h
  · rename_i n1 n2
    cases hb : eqPV (eqKind P t (u0b X || u0b Y)) p q with
    | some b =>
      rw [hb] at h
      have he := ues (w := w) hb hp hq
      have hg := u8k (op := .neq) (w := w) hb hp hq
      refine u06 h ?_ (fun L => rBool _ L)
      rw [Sem.run_bind, hg]
      simp only [Result.andThen_ok]
      have : binOp .neq t u v = (do pure (.bool (!(← Op.equal t u v)))) := by
        generalize eqKind P t (u0b X || u0b Y) = k at hb
        cases k <;> cases p <;> simp only [eqPV, reduceCtorEq] at hb <;> first
          | (obtain rfl := hp.bool; cases v <;> rfl) | (obtain rfl := hp.nil; cases v <;> rfl) | (obtain rfl := hp.nilfn; cases v <;> rfl) | (obtain rfl := hp.niliface; cases v <;> rfl)
          | (obtain ⟨_, _, rfl⟩ := hp.ptr; cases v <;> rfl) | (obtain ⟨_, _, rfl, _⟩ := hp.fn; cases v <;> rfl) | (obtain ⟨_, rfl, _⟩ := hp.iface; cases v <;> rfl) | (obtain ⟨_, rfl, _⟩ := hp.agg; cases v <;> rfl)
          | (obtain ⟨_, _, _, _, _, _, rfl, _⟩ := hp.win; cases v <;> rfl) | (obtain ⟨_, _, _, _, rfl, _⟩ := hp.lit; cases v <;> rfl)
          | (rcases hp.slice with ⟨_, _, _, rfl⟩ | ⟨_, _, _, _, _, _, rfl, _⟩ <;> cases v <;> rfl)
      rw [this]
      simp [he]
    | none =>
      rw [hb] at h
      simp [M.fail] at h
  · simp [M.fail] at h
end Go.Proofs.YtjcffopjohkmaaaDoor.Pi
namespace Go.Proofs.YtjcffopjohkmaaaDoor.Pi
variable {P : Program} {g : G} {L L' : Owner} {w : World} {H : Heap}
theorem ubr {t : TypeId} (h : tagg P t = none) : (∃ d, P.underlying t = some d) → (isAgg t).run P w = .ok false w := by
  intro ⟨d, hu⟩
  unfold tagg at h
  rw [hu] at h
  cases d <;> simp at h <;> simp [isAgg, run_underlying hu]
theorem uc7 {t : TypeId} {n : Nat} (h : tagg P t = some n) : (isAgg t).run P w = .ok true w ∧ n = tsize P t := by
  unfold tagg at h
  split at h
  · rename_i hu; simp only [Option.some.injEq] at h; exact ⟨by simp [isAgg, run_underlying hu], h.symm⟩
  · rename_i hu; simp only [Option.some.injEq] at h; exact ⟨by simp [isAgg, run_underlying hu], h.symm⟩
  · simp at h
theorem u08 {t : TypeId} {d : TypeDesc} (h : P.underlying t = some d) : ∃ i, P.info? t = some i := by
  unfold Program.underlying at h
  split at h
  · rename_i i hi; exact ⟨_, hi⟩
  · rename_i i hi; exact ⟨_, by assumption⟩
  · simp at h
theorem u07 {t : TypeId} {i : TypeInfo} (h : P.info? t = some i) : (sizeOf t).run P w = .ok (tsize P t) w := by
  simp [sizeOf, typeInfo, h, tsize]
theorem u1j {t : TypeId} (h : known P t = true) : ∃ d, P.underlying t = some d := Option.isSome_iff_exists.mp h
theorem uip {t : TypeId} {off : Nat} {cs : List PV} {vs : Array Value} {out : Out PV} (hk : known P t = true) (h : fd off (tagg P t) (.agg cs) H = some out) (h1 : vs.size = cs.length)
    (hc : ∀ (j : Nat) (c : PV), cs[j]? = some c → isCell c = true) (hr : ∀ (j : Nat) (c : PV) (u : Value), cs[j]? = some c → vs[j]? = some u → Rep g.io g.im c u) : PureRes P g w H (part t vs off) out := by
  obtain ⟨d, hu⟩ := u1j hk
  obtain ⟨i, hi⟩ := u08 hu
  unfold fd at h
  cases ht : tagg P t with
  | none =>
    rw [ht] at h
    simp only at h
    cases hv : cs[off]? with
    | none => rw [hv] at h; simp [M.fail] at h
    | some v =>
      rw [hv] at h
      have hlt : off < vs.size := by rw [h1]; exact (List.getElem?_eq_some_iff.mp hv).1
      have hrep := hr off v vs[off] hv (by simp [hlt])
      exact u06 h (cv := vs[off]) (by simp [part, ubr (w := w) ht ⟨d, hu⟩, hlt]) (fun L => by rw [hrep.stripC]; exact rT hrep L)
  | some n =>
    rw [ht] at h
    simp only at h
    obtain ⟨ha, hn⟩ := uc7 (w := w) ht
    by_cases hb : off + n ≤ cs.length
    · rw [decide_eq_true hb] at h
      refine u06 h (cv := .agg (vs.extract off (off + n))) (by simp [part, ha, u07 (w := w) hi, hn]) (fun L => rT (.agg ?_ ?_ ?_) L)
      · simp [h1]; omega
      · intro j c hj
        simp only [List.getElem?_take, List.getElem?_drop] at hj
        split at hj
        · exact hc _ _ hj
        · simp at hj
      · intro j c u hj hu'
        simp only [List.getElem?_take, List.getElem?_drop] at hj
        split at hj
        · simp only [Array.getElem?_extract] at hu'
          split at hu'
          · exact hr _ _ _ hj hu'
          · simp at hu'
        · simp at hj
    · rw [decide_eq_false hb] at h
      simp [M.fail] at h
theorem ujj {t : TypeId} {fs : Array Field} {f : Nat} {fl : Field} {p : PV} {u : Value} {out : Out PV} (hu : P.underlying t = some (.struct fs)) (hf : fs[f]? = some fl) (hk : known P fl.type = true)
    (h : fd fl.offset (tagg P fl.type) p H = some out) (hp : RepT g L p u) : PureRes P g w H (Instr.field t u f) out := by
  cases p with
  | agg cs =>
    obtain ⟨vs, rfl, h1, h2, h3⟩ := hp.agg
    obtain ⟨v, cv, e1, e2, e3⟩ := uip (P := P) (g := g) (w := w) hk h h1 h2 h3
    refine ⟨v, cv, e1, ?_, e3⟩
    simp [Instr.field, run_underlying hu, hf, asAgg, e2]
  | _ => simp [fd, M.fail] at h
theorem ua9 {t : TypeId} {fs : Array Field} {f : Nat} {fl : Field} {p : PV} {u : Value} {out : Out PV} (hu : P.underlying t = some (.struct fs)) (hf : fs[f]? = some fl) (hk : known P fl.type = true)
    (hz : (tsize P fl.type == 0) = false) (h : fa fl.offset p H = some out) (hp : RepT g L p u) : PureRes P g w H (Instr.fieldAt t u f) out := by
  obtain ⟨d, hd⟩ := u1j hk
  obtain ⟨i, hi⟩ := u08 hd
  have hz' : tsize P fl.type ≠ 0 := by simpa using hz
  cases p with
  | ptr id o =>
    obtain ⟨b, hb, rfl⟩ := hp.ptr
    refine u06 h (cv := .pointer (some ⟨b, o + fl.offset, none⟩)) ?_ (fun L => rT (.ptr hb) L)
    simp [Instr.fieldAt, run_underlying hu, hf, Instr.sureAddr, fieldPlace, u07 (w := w) hi, hz', Addr.add]
  | elem cs =>
    obtain ⟨b, o, vs, rfl, h1, h2⟩ := hp.elem
    refine u06 h (cv := .pointer (some ⟨b, o + fl.offset, none⟩)) ?_ (fun L => rT (.elem (fun j => vs (fl.offset + j)) (fun j c hj => ?_) (fun j c hj => ?_)) L)
    · simp [Instr.fieldAt, run_underlying hu, hf, Instr.sureAddr, fieldPlace, u07 (w := w) hi, hz', Addr.add]
    · rw [List.getElem?_drop] at hj
      rw [Nat.add_assoc]
      exact h1 _ _ hj
    · rw [List.getElem?_drop] at hj
      exact h2 _ _ hj
  | lel cs =>
    obtain ⟨b, o, vs, rfl, h0, h1, h2⟩ := hp.lel
    refine u06 h (cv := .pointer (some ⟨b, o + fl.offset, none⟩)) ?_ (fun L => rT (.lel (fun j => vs (fl.offset + j)) (fun j c hj => ?_) (fun j c hj => ?_) (fun j c hj => ?_)) L)
    · simp [Instr.fieldAt, run_underlying hu, hf, Instr.sureAddr, fieldPlace, u07 (w := w) hi, hz', Addr.add]
    all_goals rw [List.getElem?_drop] at hj
    · exact h0 _ _ hj
    · rw [Nat.add_assoc]
      exact h1 _ _ hj
    · exact h2 _ _ hj
  | _ => simp [fa, M.fail] at h
theorem u92 {t e : TypeId} {n : Nat} {p q : PV} {u v : Value} {out : Out PV} (hu : P.underlying t = some (.array n e)) (hk : known P e = true) (h : iaA n (tsize P e) p q H = some out) (hp : RepT g L p u) (hq : RepT g L' q v) :
    PureRes P g w H (Instr.indexAt t u v) out := by
  obtain ⟨d, hd⟩ := u1j hk
  obtain ⟨i, hi⟩ := u08 hd
  unfold iaA at h
  split at h
  · rename_i id o k m
    obtain ⟨b, hb, rfl⟩ := hp.ptr
    obtain rfl := hq.int
    by_cases hm : 0 ≤ m ∧ m < n
    · rw [decide_eq_true hm.1, decide_eq_true hm.2] at h
      refine u06 h (cv := .pointer (some ⟨b, o + m.toNat * tsize P e, none⟩)) ?_ (fun L => rT (.ptr hb) L)
      simp [Instr.indexAt, asIntOf, run_underlying hu, Instr.sureAddr, hm.1, hm.2, u07 (w := w) hi, Addr.add]
    · have : (decide (0 ≤ m) && decide (m < n)) = false := by
        rw [Bool.and_eq_false_iff, decide_eq_false_iff_not, decide_eq_false_iff_not]
        omega
      rw [this] at h
      simp [u0p, M.fail] at h
  · rename_i cs k m
    obtain ⟨b, o, vs, rfl, h1, h2⟩ := hp.elem
    obtain rfl := hq.int
    by_cases hm : 0 ≤ m ∧ m < n
    · rw [decide_eq_true hm.1, decide_eq_true hm.2] at h
      refine u06 h (cv := .pointer (some ⟨b, o + m.toNat * tsize P e, none⟩)) ?_ (fun L => rT (.elem (fun j => vs (m.toNat * tsize P e + j)) (fun j c hj => ?_) (fun j c hj => ?_)) L)
      · simp [Instr.indexAt, asIntOf, run_underlying hu, Instr.sureAddr, hm.1, hm.2, u07 (w := w) hi, Addr.add]
      · rw [List.getElem?_drop] at hj
        rw [Nat.add_assoc]
        exact h1 _ _ hj
      · rw [List.getElem?_drop] at hj
        exact h2 _ _ hj
    · have : (decide (0 ≤ m) && decide (m < n)) = false := by
        rw [Bool.and_eq_false_iff, decide_eq_false_iff_not, decide_eq_false_iff_not]
        omega
      rw [this] at h
      simp [u0p, M.fail] at h
  · simp [M.fail] at h
theorem u9u {t e : TypeId} {p q : PV} {u v : Value} {out : Out PV} (hu : P.underlying t = some (.slice e)) (hk : known P e = true) (h : iaS (tsize P e) p q H = some out) (hp : RepT g L p u) (hq : RepT g L' q v) :
    PureRes P g w H (Instr.indexAt t u v) out := by
  obtain ⟨d, hd⟩ := u1j hk
  obtain ⟨i, hi⟩ := u08 hd
  unfold iaS at h
  split at h
  · rename_i o z sx xs k m
    obtain rfl := hq.int
    by_cases hm : 0 ≤ m ∧ sx = tsize P e
    · obtain ⟨hm0, rfl⟩ := hm
      rw [decide_eq_true hm0] at h
      simp only [beq_self_eq_true, Bool.and_self, cond_true] at h
      cases hx : xs[m.toNat]? with
      | none => rw [hx] at h; simp [u0p, M.fail] at h
      | some x =>
        rw [hx] at h
        rcases hp.slice with ⟨_, _, rfl, _⟩ | ⟨_, b, off, cap, sp, vs, rfl, hsp, hc, hsz, him, hr, _⟩
        · simp at hx
        · have hlt : m.toNat < xs.length := (List.getElem?_eq_some_iff.mp hx).1
          obtain rfl : sp = none := by rcases hsp with h | h; exact h; omega
          have hlt' : m < (xs.length : Int) := by omega
          refine u06 h (cv := .pointer (some ⟨b, off + m.toNat * tsize P e, none⟩)) ?_ (fun L => rT (.elem (fun j => vs m.toNat j) (fun j c hj => him _ _ _ _ hx hj) (fun j c hj => hr _ _ _ _ hx hj)) L)
          simp [Instr.indexAt, asIntOf, run_underlying hu, hm0, hlt', u07 (w := w) hi, Addr.add]
    · have : (decide (0 ≤ m) && sx == tsize P e) = false := by
        rw [Bool.and_eq_false_iff, decide_eq_false_iff_not, beq_eq_false_iff_ne]
        omega
      rw [this] at h
      simp [u0p, M.fail] at h
  · rename_i id off sx n k m
    obtain rfl := hq.int
    cases hm : (decide (0 ≤ m) && (decide (m < n) && sx == tsize P e)) with
    | false => rw [hm] at h; simp [u0p, M.fail] at h
    | true =>
      rw [hm] at h
      simp only [Bool.and_eq_true, decide_eq_true_eq, beq_iff_eq] at hm
      obtain ⟨hm0, hmn, rfl⟩ := hm
      obtain ⟨b, off', cap, s, hb, hz, rfl, ho, hn, hs⟩ := hp.win
      have hoff : off' = off := by rcases ho with rfl | h; omega; exact h
      subst hoff
      refine u06 h (cv := .pointer (some ⟨b, off' + m.toNat * tsize P e, none⟩)) ?_ (fun L => rT (.ptr hb) L)
      simp [Instr.indexAt, asIntOf, run_underlying hu, hm0, hmn, u07 (w := w) hi, Addr.add]
  · rename_i sx n cs k m
    obtain rfl := hq.int
    cases hm : (decide (0 ≤ m) && (decide (m < n) && sx == tsize P e)) with
    | false => rw [hm] at h; simp [u0p, M.fail] at h
    | true =>
      rw [hm] at h
      simp only [Bool.and_eq_true, decide_eq_true_eq, beq_iff_eq] at hm
      obtain ⟨hm0, hmn, rfl⟩ := hm
      obtain ⟨b, o, cap, vs, rfl, hn, hl, h0, h1, h2⟩ := hp.lit
      refine u06 h (cv := .pointer (some ⟨b, o + m.toNat * tsize P e, none⟩)) ?_ (fun L => rT (.lel (fun j => vs (m.toNat * tsize P e + j)) (fun j c hj => ?_) (fun j c hj => ?_) (fun j c hj => ?_)) L)
      · simp [Instr.indexAt, asIntOf, run_underlying hu, hm0, hmn, u07 (w := w) hi, Addr.add]
      all_goals rw [List.getElem?_drop] at hj
      · exact h0 _ _ hj
      · rw [Nat.add_assoc]
        exact h1 _ _ hj
      · exact h2 _ _ hj
  · simp [M.fail] at h
theorem uho {t : TypeId} {p q : PV} {u v : Value} {out : Out PV} (hu : P.underlying t = some .string) (h : ixS p q H = some out) (hp : RepT g L p u) (hq : RepT g L' q v) : PureRes P g w H (Instr.index t u v) out := by
  unfold ixS at h
  split at h
  · rename_i s k m
    obtain rfl := hp.str
    obtain rfl := hq.int
    by_cases hm : 0 ≤ m
    · rw [decide_eq_true hm] at h
      simp only [cond_true] at h
      cases hx : s.data.toList[m.toNat]? with
      | none => rw [hx] at h; simp [u0p, M.fail] at h
      | some b =>
        rw [hx] at h
        have hlt : m.toNat < s.data.toList.length := (List.getElem?_eq_some_iff.mp hx).1
        have hlt' : m.toNat < s.size := by simpa using hlt
        have hb : s[m.toNat]? = some b := by
          rw [getElem?_pos s m.toNat hlt']
          have := (List.getElem?_eq_some_iff.mp hx).2
          rw [← this]
          rfl
        exact u06 h (by simp [Instr.index, asIntOf, run_underlying hu, hm, hb]) (fun L => rInt _ _ L)
    · rw [decide_eq_false hm] at h
      simp [u0p, M.fail] at h
  · simp [M.fail] at h
theorem ug1 {t e : TypeId} {n : Nat} {p q : PV} {u v : Value} {out : Out PV} (hu : P.underlying t = some (.array n e)) (hk : known P e = true) (h : ixA n (tsize P e) (tagg P e) p q H = some out) (hp : RepT g L p u) (hq : RepT g L' q v) :
    PureRes P g w H (Instr.index t u v) out := by
  obtain ⟨d, hd⟩ := u1j hk
  obtain ⟨i, hi⟩ := u08 hd
  unfold ixA at h
  split at h
  · rename_i cs k m
    obtain ⟨vs, rfl, h1, h2, h3⟩ := hp.agg
    obtain rfl := hq.int
    by_cases hm : 0 ≤ m ∧ m < n
    · rw [decide_eq_true hm.1, decide_eq_true hm.2] at h
      obtain ⟨v, cv, e1, e2, e3⟩ := uip (P := P) (g := g) (w := w) hk h h1 h2 h3
      exact ⟨v, cv, e1, by simp [Instr.index, asIntOf, run_underlying hu, hm.1, hm.2, u07 (w := w) hi, e2], e3⟩
    · have : (decide (0 ≤ m) && decide (m < n)) = false := by
        rw [Bool.and_eq_false_iff, decide_eq_false_iff_not, decide_eq_false_iff_not]
        omega
      rw [this] at h
      simp [u0p, M.fail] at h
  · simp [M.fail] at h
theorem u4m {d n y : Nat} {p : Option PV} {u : Option Value} {c : BoundsCode} (h : bnd d p = some n) (hp : ∀ q, p = some q → ∃ v L, u = some v ∧ RepT g L q v) (hn : p = none → u = none) (hy : n ≤ y) :
    (match (generalizing := false) u with | some v => Instr.sliceBound v y c | none => pure d : Sem Nat).run P w = .ok n w := by
  cases p with
  | none =>
    rw [hn rfl]
    simp only [bnd, Option.some.injEq] at h
    simp [h]
  | some q =>
    obtain ⟨v, L, rfl, hr⟩ := hp q rfl
    unfold bnd at h
    split at h
    · rename_i hh; cases hh
    · rename_i k m hh
      simp only [Option.some.injEq] at hh
      subst hh
      obtain rfl := hr.int
      by_cases hm : 0 ≤ m
      · rw [decide_eq_true hm] at h
        simp only [cond_true, Option.some.injEq] at h
        have : m ≤ (y : Int) := by omega
        simp [Instr.sliceBound, asIntOf, hm, this, h]
      · rw [decide_eq_false hm] at h
        simp at h
    · simp at h
theorem u2l {isS : Bool} {len cap l hh : Nat} {lo hi : Option PV} {clo chi : Option Value} (h1 : bnd len hi = some hh) (h2 : bnd 0 lo = some l)
    (rlo : ∀ q, lo = some q → ∃ v L, clo = some v ∧ RepT g L q v) (nlo : lo = none → clo = none) (rhi : ∀ q, hi = some q → ∃ v L, chi = some v ∧ RepT g L q v) (nhi : hi = none → chi = none) (hl : l ≤ hh) (hc : hh ≤ cap) :
    (Instr.sliceBounds isS len cap clo chi none).run P w = .ok (l, hh, cap) w := by
  have a := u4m (P := P) (w := w) (y := cap) (c := if isS then .sliceAcap else .sliceAlen) h1 rhi nhi hc
  have b := u4m (P := P) (w := w) (y := hh) (c := .sliceB) h2 rlo nlo hl
  cases chi with
  | none =>
    simp only [Sem.run_pure] at a
    simp only [Result.ok.injEq, and_true] at a
    subst a
    cases clo with
    | none => simp only [Sem.run_pure, Result.ok.injEq, and_true] at b; simp [Instr.sliceBounds, b]
    | some v => simp only at b; simp [Instr.sliceBounds, b]
  | some u =>
    simp only at a
    cases clo with
    | none => simp only [Sem.run_pure, Result.ok.injEq, and_true] at b; simp [Instr.sliceBounds, a, b]
    | some v => simp only at b; simp [Instr.sliceBounds, a, b]
theorem winCut {id off off' sz n cap s b l hh : Nat} (hb : g.ι[id]? = some b) (hz : g.io.z b = some s) (ho : cap = 0 ∨ off' = off) (hn : n ≤ cap) (hs : off' + cap * sz ≤ s) (hl : l ≤ hh) (hx : hh ≤ n) {m : Nat} (hm : hh ≤ m := by omega) (hmc : m ≤ cap := by omega) (L : Owner) :
    RepT g L (.win id (off + l * sz) sz (hh - l)) (.slice (some (if m = l then ⟨b, off', none⟩ else ⟨b, off' + l * sz, none⟩)) (hh - l) (m - l)) := by
  by_cases hcl : m = l
  · rw [if_pos hcl]
    refine rT (.win hb hz (.inl (by omega)) (by omega) ?_) L
    rw [show m - l = 0 by omega, Nat.zero_mul]
    omega
  · rw [if_neg hcl]
    refine rT (.win hb hz (.inr ?_) (by omega) ?_) L
    · rcases ho with ho | rfl
      · omega
      · rfl
    · have : l * sz + (m - l) * sz ≤ cap * sz := by
        rw [← Nat.add_mul]
        exact Nat.mul_le_mul_right _ (by omega)
      omega
theorem u81 {isS : Bool} {len cap l hh m : Nat} {lo : Option PV} {hi mx : PV} {clo : Option Value} {chi cmx : Value} {L1 L2 : Owner} (h1 : bnd len (some hi) = some hh) (h2 : bnd 0 lo = some l) (h3 : bnd 0 (some mx) = some m)
    (rlo : ∀ q, lo = some q → ∃ v L, clo = some v ∧ RepT g L q v) (nlo : lo = none → clo = none) (rhi : RepT g L1 hi chi) (rmx : RepT g L2 mx cmx) (hl : l ≤ hh) (hc : hh ≤ m) (hmc : m ≤ cap) :
    (Instr.sliceBounds isS len cap clo (some chi) (some cmx)).run P w = .ok (l, hh, m) w := by
  have a := u4m (P := P) (w := w) (y := m) (u := some chi) (c := .slice3B) h1 (fun q hq => ⟨chi, L1, rfl, by cases hq; exact rhi⟩) (fun h => by cases h) hc
  have b := u4m (P := P) (w := w) (y := hh) (u := clo) (c := .slice3C) h2 rlo nlo hl
  have c := u4m (P := P) (w := w) (y := cap) (u := some cmx) (c := if isS then .slice3Acap else .slice3Alen) h3 (fun q hq => ⟨cmx, L2, rfl, by cases hq; exact rmx⟩) (fun h => by cases h) hmc
  simp only at a c
  cases clo with
  | none => simp only [Sem.run_pure, Result.ok.injEq, and_true] at b; simp [Instr.sliceBounds, a, b, c]
  | some v => simp only at b; simp [Instr.sliceBounds, a, b, c]
theorem ufe {t e : TypeId} {lo : Option PV} {hi mx : PV} {clo : Option Value} {chi cmx : Value} {L1 L2 : Owner} {p : PV} {u : Value} {out : Out PV} (hu : P.underlying t = some (.slice e)) (hk : known P e = true) (h : slL3 (tsize P e) p lo hi mx H = some out) (hp : RepT g L p u)
    (rlo : ∀ q, lo = some q → ∃ v L, clo = some v ∧ RepT g L q v) (nlo : lo = none → clo = none) (rhi : RepT g L1 hi chi) (rmx : RepT g L2 mx cmx) :
    PureRes P g w H (Instr.sliceAt t u clo (some chi) (some cmx)) out := by
  obtain ⟨d, hd⟩ := u1j hk
  obtain ⟨i, hi'⟩ := u08 hd
  unfold slL3 at h
  split at h
  · rename_i o sz xs
    cases e1 : bnd xs.length (some hi) with
    | none => rw [e1] at h; simp [M.fail] at h
    | some hh =>
    cases e2 : bnd 0 lo with
    | none => rw [e1, e2] at h; simp [M.fail] at h
    | some l =>
    cases e3 : bnd 0 (some mx) with
    | none => rw [e1, e2, e3] at h; simp [M.fail] at h
    | some m =>
      rw [e1, e2, e3] at h
      dsimp only at h
      cases hb : (sz == tsize P e && (decide (l ≤ hh) && (decide (hh ≤ m) && decide (m ≤ xs.length)))) with
      | false => rw [hb] at h; simp [M.fail] at h
      | true =>
        rw [hb] at h
        simp only [Bool.and_eq_true, decide_eq_true_eq, beq_iff_eq] at hb
        obtain ⟨rfl, hl, hx, hm⟩ := hb
        rcases hp.slice with ⟨h0, _⟩ | ⟨_, b, off, cap, sp, vs, rfl, hsp, hc, hsz, him, hr, _⟩
        · cases h0
        have hbo := u81 (P := P) (w := w) (isS := true) (len := xs.length) (cap := cap) e1 e2 e3 rlo nlo rhi rmx hl hx (by omega)
        have hlen : ((xs.take hh).drop l).length = hh - l := by simp; omega
        have key : ∀ off' sp', (sp' = none ∨ m - l = 0) → (l < hh → off' = off + l * tsize P e) → Rep g.io g.im (.slice false false (tsize P e) ((xs.take hh).drop l)) (.slice (some ⟨b, off', sp'⟩) (hh - l) (m - l)) := by
          intro off' sp' hsp' hoff
          rw [← hlen]
          refine .flat (.slice (fun i j => vs (l + i) j) hsp' (by omega) (fun i x hx => ?_) (fun i x j c hx hc => ?_) (fun i x j c hx hc => ?_))
          all_goals
            have hi2 : i < hh - l := by
              have := (List.getElem?_eq_some_iff.mp hx).1
              omega
            simp only [List.getElem?_drop, List.getElem?_take] at hx
            rw [if_pos (by omega)] at hx
          · exact hsz _ _ hx
          · have := him _ _ _ _ hx hc
            rw [hoff (by omega), ← this, Nat.add_mul, ← Nat.add_assoc]
          · exact hr _ _ _ _ hx hc
        refine u06 h (cv := .slice (if m = l then some ⟨b, off, sp⟩ else some ((⟨b, off, sp⟩ : Addr).add (l * tsize P e))) (hh - l) (m - l)) ?_ (fun L => ?_)
        · simp [Instr.sliceAt, Instr.slice, run_underlying hu, hbo, u07 (w := w) hi']
        · by_cases hcl : m = l
          · rw [if_pos hcl]
            exact rT (key off sp (.inr (by omega)) (fun hlt => by omega)) L
          · rw [if_neg hcl]
            obtain rfl : sp = none := by rcases hsp with h | h; exact h; omega
            have hadd : (⟨b, off, none⟩ : Addr).add (l * tsize P e) = ⟨b, off + l * tsize P e, none⟩ := by unfold Addr.add; split <;> simp_all
            rw [hadd]
            exact rT (key (off + l * tsize P e) none (.inl rfl) (fun _ => rfl)) L
  · rename_i id off sx n
    cases e1 : bnd n (some hi) with
    | none => rw [e1] at h; simp [M.fail] at h
    | some hh =>
    cases e2 : bnd 0 lo with
    | none => rw [e1, e2] at h; simp [M.fail] at h
    | some l =>
    cases e3 : bnd 0 (some mx) with
    | none => rw [e1, e2, e3] at h; simp [M.fail] at h
    | some m =>
      rw [e1, e2, e3] at h
      dsimp only at h
      cases hb : (sx == tsize P e && (decide (l ≤ hh) && (decide (hh ≤ m) && decide (m ≤ n)))) with
      | false => rw [hb] at h; simp [M.fail] at h
      | true =>
        rw [hb] at h
        simp only [Bool.and_eq_true, decide_eq_true_eq, beq_iff_eq] at hb
        obtain ⟨rfl, hl, hx, hm⟩ := hb
        obtain ⟨b, off', cap, s, hb, hz, rfl, ho, hn, hs⟩ := hp.win
        have hbo := u81 (P := P) (w := w) (isS := true) (len := n) (cap := cap) e1 e2 e3 rlo nlo rhi rmx hl hx (by omega)
        refine u06 h (cv := .slice (some (if m = l then ⟨b, off', none⟩ else ⟨b, off' + l * tsize P e, none⟩)) (hh - l) (m - l)) ?_ (winCut hb hz ho hn hs hl (by omega) hx (by omega))
        simp [Instr.sliceAt, Instr.slice, run_underlying hu, hbo, u07 (w := w) hi', Addr.add]
        split <;> simp_all
  · simp [M.fail] at h
theorem ugs {t e : TypeId} {lo hi : Option PV} {clo chi : Option Value} {p : PV} {u : Value} {out : Out PV} (hu : P.underlying t = some (.slice e)) (hk : known P e = true) (h : slL (tsize P e) p lo hi H = some out) (hp : RepT g L p u)
    (rlo : ∀ q, lo = some q → ∃ v L, clo = some v ∧ RepT g L q v) (nlo : lo = none → clo = none) (rhi : ∀ q, hi = some q → ∃ v L, chi = some v ∧ RepT g L q v) (nhi : hi = none → chi = none) :
    PureRes P g w H (Instr.sliceAt t u clo chi none) out := by
  obtain ⟨d, hd⟩ := u1j hk
  obtain ⟨i, hi'⟩ := u08 hd
  unfold slL at h
  split at h
  · rename_i o z sz xs
    cases e1 : bnd xs.length hi with
    | none => rw [e1] at h; simp [M.fail] at h
    | some hh =>
    cases e2 : bnd 0 lo with
    | none => rw [e1, e2] at h; simp [M.fail] at h
    | some l =>
      rw [e1, e2] at h
      simp only at h
      by_cases hb : (z = true ∨ sz = tsize P e) ∧ l ≤ hh ∧ hh ≤ xs.length
      · have hb' : ((z || sz == tsize P e) && (decide (l ≤ hh) && decide (hh ≤ xs.length))) = true := by
          simp only [Bool.and_eq_true, Bool.or_eq_true, decide_eq_true_eq, beq_iff_eq]
          exact hb
        rw [hb'] at h
        obtain ⟨hz, hl, hx⟩ := hb
        rcases hp.slice with ⟨rfl, rfl, rfl, rfl⟩ | ⟨rfl, b, off, cap, sp, vs, rfl, hsp, hc, hsz, him, hr, _⟩
        · have hh0 : hh = 0 := by simpa using hx
          subst hh0
          have hl0 : l = 0 := by omega
          subst hl0
          have hbo := u2l (P := P) (w := w) (isS := true) (cap := 0) e1 e2 rlo nlo rhi nhi (by omega) (by omega)
          simp only [List.length_nil] at hbo
          refine u06 h (cv := .slice none 0 0) ?_ (fun L => by simpa using rF (.snil _) L)
          simp [Instr.sliceAt, Instr.slice, run_underlying hu, hbo, u07 (w := w) hi']
        · have hsz' : sz = tsize P e := by simpa using hz
          subst hsz'
          have hbo := u2l (P := P) (w := w) (isS := true) (cap := cap) e1 e2 rlo nlo rhi nhi hl (by omega)
          rcases hsp with rfl | rfl
          rotate_left
          · have hx0 : xs = [] := List.eq_nil_of_length_eq_zero (by omega)
            subst hx0
            obtain rfl : hh = 0 := by simpa using hx
            obtain rfl : l = 0 := by omega
            refine u06 h (cv := .slice (some ⟨b, off, sp⟩) 0 0) ?_ (fun L => rT (.flat (.slice vs (.inr rfl) (by simp) hsz him hr)) L)
            simp [Instr.sliceAt, Instr.slice, run_underlying hu, u07 (w := w) hi', Addr.add]
            simp at hbo
            simp [hbo, u07 (w := w) hi']
          have hlen : ((xs.take hh).drop l).length = hh - l := by simp; omega
          have hrep : ∀ L, RepT g L (.slice false false (tsize P e) ((xs.take hh).drop l)) (.slice (some (if cap = l then ⟨b, off, none⟩ else ⟨b, off + l * tsize P e, none⟩)) (hh - l) (cap - l)) := by
            intro L
            have key : ∀ off', (l < hh → off' = off + l * tsize P e) → Rep g.io g.im (.slice false false (tsize P e) ((xs.take hh).drop l)) (.slice (some ⟨b, off', none⟩) (hh - l) (cap - l)) := by
              intro off' hoff
              rw [← hlen]
              refine .flat (.slice (fun i j => vs (l + i) j) (.inl rfl) (by omega) (fun i x hx => ?_) (fun i x j c hx hc => ?_) (fun i x j c hx hc => ?_))
              all_goals
                have hi2 : i < hh - l := by
                  have := (List.getElem?_eq_some_iff.mp hx).1
                  omega
                simp only [List.getElem?_drop, List.getElem?_take] at hx
                rw [if_pos (by omega)] at hx
              · exact hsz _ _ hx
              · have := him _ _ _ _ hx hc
                rw [hoff (by omega), ← this, Nat.add_mul, ← Nat.add_assoc]
              · exact hr _ _ _ _ hx hc
            by_cases hcl : cap = l
            · rw [if_pos hcl]
              exact rT (key off (fun hlt => by omega)) L
            · rw [if_neg hcl]
              exact rT (key _ (fun _ => rfl)) L
          refine u06 h ?_ hrep
          simp [Instr.sliceAt, Instr.slice, run_underlying hu, hbo, u07 (w := w) hi', Addr.add]
          split <;> simp_all
      · have hb' : ((z || sz == tsize P e) && (decide (l ≤ hh) && decide (hh ≤ xs.length))) = false := by
          rw [Bool.eq_false_iff]
          intro hc
          simp only [Bool.and_eq_true, Bool.or_eq_true, decide_eq_true_eq, beq_iff_eq] at hc
          exact hb hc
        rw [hb'] at h
        simp [M.fail] at h
  · rename_i id off sx n
    cases e1 : bnd n hi with
    | none => rw [e1] at h; simp [M.fail] at h
    | some hh =>
    cases e2 : bnd 0 lo with
    | none => rw [e1, e2] at h; simp [M.fail] at h
    | some l =>
      rw [e1, e2] at h
      dsimp only at h
      cases hb : (sx == tsize P e && (decide (l ≤ hh) && decide (hh ≤ n))) with
      | false => rw [hb] at h; simp [M.fail] at h
      | true =>
        rw [hb] at h
        simp only [Bool.and_eq_true, decide_eq_true_eq, beq_iff_eq] at hb
        obtain ⟨rfl, hl, hx⟩ := hb
        obtain ⟨b, off', cap, s, hb, hz, rfl, ho, hn, hs⟩ := hp.win
        have hbo := u2l (P := P) (w := w) (isS := true) (cap := cap) e1 e2 rlo nlo rhi nhi hl (by omega)
        refine u06 h (cv := .slice (some (if cap = l then ⟨b, off', none⟩ else ⟨b, off' + l * tsize P e, none⟩)) (hh - l) (cap - l)) ?_ (winCut hb hz ho hn hs hl hx)
        simp [Instr.sliceAt, Instr.slice, run_underlying hu, hbo, u07 (w := w) hi', Addr.add]
        split <;> simp_all
  · simp [M.fail] at h
theorem uim {t : TypeId} {lo hi : Option PV} {clo chi : Option Value} {p : PV} {u : Value} {out : Out PV} (hu : P.underlying t = some .string) (h : slS p lo hi H = some out) (hp : RepT g L p u)
    (rlo : ∀ q, lo = some q → ∃ v L, clo = some v ∧ RepT g L q v) (nlo : lo = none → clo = none) (rhi : ∀ q, hi = some q → ∃ v L, chi = some v ∧ RepT g L q v) (nhi : hi = none → chi = none) :
    PureRes P g w H (Instr.sliceAt t u clo chi none) out := by
  unfold slS at h
  split at h
  · rename_i s
    obtain rfl := hp.str
    cases e1 : bnd s.size hi with
    | none => rw [e1] at h; simp [M.fail] at h
    | some hh =>
    cases e2 : bnd 0 lo with
    | none => rw [e1, e2] at h; simp [M.fail] at h
    | some l =>
      rw [e1, e2] at h
      simp only at h
      by_cases hb : l ≤ hh ∧ hh ≤ s.size
      · rw [decide_eq_true hb.1, decide_eq_true hb.2] at h
        have hbo := u2l (P := P) (w := w) (isS := false) (cap := s.size) e1 e2 rlo nlo rhi nhi hb.1 hb.2
        exact u06 h (by simp [Instr.sliceAt, Instr.slice, run_underlying hu, hbo]) (fun L => rStr _ L)
      · have hb' : (decide (l ≤ hh) && decide (hh ≤ s.size)) = false := by
          rw [Bool.eq_false_iff]
          intro hc
          simp only [Bool.and_eq_true, decide_eq_true_eq] at hc
          exact hb hc
        rw [hb'] at h
        simp [M.fail] at h
  · simp [M.fail] at h
end Go.Proofs.YtjcffopjohkmaaaDoor.Pi
namespace Go.Proofs.YtjcffopjohkmaaaDoor.Pi
variable {P : Program} {g : G} {L L' : Owner} {w : World} {H : Heap}
theorem lnS_ok {t ty : TypeId} {tys : Array TypeId} {p : PV} {u : Value} {out : Out PV} (h0 : tys[0]? = some t) (ht : P.underlying t = some .string) (h : lnS p H = some out) (hp : RepT g L p u) : PureRes P g w H (Builtin.len_ tys ty #[u]) out := by
  cases p with
  | str s =>
    obtain rfl := hp.str
    unfold lnS at h
    exact u06 h (by simp [Builtin.len_, h0, run_underlying ht, goInt]) (fun L => rInt _ _ L)
  | _ => (unfold lnS at h; exact nomatch h)
theorem lnL_ok {t ty e : TypeId} {tys : Array TypeId} {p : PV} {u : Value} {out : Out PV} (h0 : tys[0]? = some t) (ht : P.underlying t = some (.slice e)) (h : lnL p H = some out) (hp : RepT g L p u) : PureRes P g w H (Builtin.len_ tys ty #[u]) out := by
  cases p with
  | slice o z sz xs =>
    unfold lnL at h
    rcases hp.slice with ⟨rfl, rfl, rfl, rfl⟩ | ⟨rfl, b, off, cap, sp, vs, rfl, _⟩
    · exact u06 h (by simp [Builtin.len_, h0, run_underlying ht, goInt]) (fun L => rInt _ _ L)
    · exact u06 h (by simp [Builtin.len_, h0, run_underlying ht, goInt]) (fun L => rInt _ _ L)
  | win id off sz n =>
    unfold lnL at h
    obtain ⟨_, _, _, _, _, _, rfl, _⟩ := hp.win
    exact u06 h (by simp [Builtin.len_, h0, run_underlying ht, goInt]) (fun L => rInt _ _ L)
  | lit sz n cs =>
    unfold lnL at h
    obtain ⟨_, _, _, _, rfl, _⟩ := hp.lit
    exact u06 h (by simp [Builtin.len_, h0, run_underlying ht, goInt]) (fun L => rInt _ _ L)
  | _ => (unfold lnL at h; exact nomatch h)
theorem mn_ok {tys : Array TypeId} {ty : TypeId} {p q : PV} {u v : Value} {out : Out PV} (h : mn p q H = some out) (hp : RepT g L p u) (hq : RepT g L' q v) : PureRes P g w H (Builtin.min_ tys ty #[u, v]) out := by
  unfold mn at h
  split at h
  · rename_i k a k' b
    obtain rfl := hp.int
    obtain rfl := hq.int
    by_cases hk : k = k'
    · rw [decide_eq_true hk] at h
      exact u06 h (by simp [Builtin.min_, Builtin.min2]) (fun L => rInt _ _ L)
    · rw [decide_eq_false hk] at h
      simp [M.fail] at h
  · simp [M.fail] at h
theorem mx_ok {tys : Array TypeId} {ty : TypeId} {p q : PV} {u v : Value} {out : Out PV} (h : mx p q H = some out) (hp : RepT g L p u) (hq : RepT g L' q v) : PureRes P g w H (Builtin.max_ tys ty #[u, v]) out := by
  unfold mx at h
  split at h
  · rename_i k a k' b
    obtain rfl := hp.int
    obtain rfl := hq.int
    by_cases hk : k = k'
    · rw [decide_eq_true hk] at h
      exact u06 h (by simp [Builtin.max_, Builtin.max2]) (fun L => rInt _ _ L)
    · rw [decide_eq_false hk] at h
      simp [M.fail] at h
  · simp [M.fail] at h
theorem u6x {p : PV} {u : Value} (hv : isVal p = true) (hp : RepT g L p u) : Rep g.io g.im (stripC p) u := by
  cases hp with
  | one hs => exact hs.toRep (by cases p <;> first | rfl | simp [isVal] at hv)
  | tup => simp [isVal] at hv
  | aggo => simp [isVal] at hv
theorem mi_ok {t : TypeId} {p : PV} {u : Value} {out : Out PV} (hn : u61 P t = true) (h : mi t p H = some out) (hp : RepT g L p u) : PureRes P g w H (Instr.makeInterface t u) out := by
  unfold mi at h
  cases hv : isVal p with
  | false => rw [hv] at h; simp [M.fail] at h
  | true =>
    rw [hv] at h
    refine u06 h (cv := .iface t u) ?_ (fun L => rT (.iface (u6x hv hp)) L)
    unfold u61 at hn
    cases hu : P.underlying t with
    | none => rw [hu] at hn; simp at hn
    | some d =>
      rw [hu] at hn
      simp only [Instr.makeInterface, Sem.run_bind, run_underlying hu, Result.andThen_ok]
      cases d <;> first | rfl | simp at hn
theorem mf_ok {f : FuncId} {first caps : List PV} {cf cc : Array Value} {out : Out PV} (h1 : cf.size = first.length) (h2 : cc.size = caps.length) (r1 : ∀ (j : Nat) (c : PV) (v : Value), first[j]? = some c → cf[j]? = some v → ∃ L, RepT g L c v)
    (r2 : ∀ (j : Nat) (c : PV) (v : Value), caps[j]? = some c → cc[j]? = some v → ∃ L, RepT g L c v) (h : mf f first caps H = some out) : PureRes P g w H (Instr.makeFunc (.func f) cf cc) out := by
  unfold mf at h
  cases hv : (first.all isVal && caps.all isVal) with
  | false => rw [hv] at h; simp [M.fail] at h
  | true =>
    rw [hv] at h
    simp only [Bool.and_eq_true] at hv
    have key : ∀ {l : List PV} {c : Array Value}, l.all isVal = true → (∀ (j : Nat) (p : PV) (v : Value), l[j]? = some p → c[j]? = some v → ∃ L, RepT g L p v) →
        ∀ (j : Nat) (p : PV) (v : Value), (l.map stripC)[j]? = some p → c[j]? = some v → Rep g.io g.im p v := by
      intro l c ha hr j p v hj hv
      simp only [List.getElem?_map, Option.map_eq_some_iff] at hj
      obtain ⟨q, hq, rfl⟩ := hj
      obtain ⟨L, hL⟩ := hr j q v hq hv
      exact u6x (List.all_eq_true.mp ha q (List.mem_of_getElem? hq)) hL
    exact u06 h (by simp [Instr.makeFunc]) (fun L => rT (.fn (by simpa using h1) (by simpa using h2) (key hv.1 r1) (key hv.2 r2)) L)
theorem ta_ok {xT t : TypeId} {ok : Bool} {p z : PV} {u zv : Value} {out : Out PV} {d : TypeDesc} (ht : P.underlying t = some d) (hd : ∀ ms, d ≠ .interface ms) {i : TypeInfo} (hi : P.info? t = some i) (hz : i.zero = some zv) (rz : Rep g.io g.im z zv)
    (h : ta t z ok p H = some out) (hp : RepT g L p u) : PureRes P g w H (Instr.typeAssert u xT t ok) out := by
  unfold ta at h
  split at h
  · rename_i t' v
    obtain ⟨cv, rfl, hr⟩ := hp.iface
    by_cases e : t' = t
    · subst e
      simp only [beq_self_eq_true, cond_true] at h
      refine u06 h (cv := if ok then .tuple #[cv, .bool true] else cv) ?_ (fun L => ?_)
      · simp only [Instr.typeAssert, Sem.run_bind, run_underlying ht, Result.andThen_ok]
        cases d <;> first | (exact absurd rfl (hd _)) | (cases ok <;> simp)
      · cases ok
        · exact rT hr L
        · refine .tup rfl fun j q x hq hx => ?_
          match j with
          | 0 => simp at hq hx; subst hq; subst hx; exact .pure hr
          | 1 => simp at hq hx; subst hq; subst hx; exact .pure (.flat (.bool _))
          | j + 2 => simp at hq
    · have e' : (t' == t) = false := by simpa using e
      rw [e'] at h
      cases ok
      · simp [M.fail] at h
      · simp only [cond_false, cond_true] at h
        refine u06 h (cv := .tuple #[zv, .bool false]) ?_ (fun L => ?_)
        · simp only [Instr.typeAssert, Sem.run_bind, run_underlying ht, Result.andThen_ok]
          cases d <;> first | (exact absurd rfl (hd _)) | simp [e, zeroValue, typeInfo, hi, hz]
        · refine .tup rfl fun j q x hq hx => ?_
          match j with
          | 0 => simp at hq hx; subst hq; subst hx; exact .pure rz
          | 1 => simp at hq hx; subst hq; subst hx; exact .pure (.flat (.bool _))
          | j + 2 => simp at hq
  · obtain rfl := hp.niliface
    cases ok
    · simp [M.fail] at h
    · simp only [cond_true] at h
      refine u06 h (cv := .tuple #[zv, .bool false]) ?_ (fun L => ?_)
      · simp only [Instr.typeAssert, Sem.run_bind, run_underlying ht, Result.andThen_ok]
        cases d <;> first | (exact absurd rfl (hd _)) | simp [zeroValue, typeInfo, hi, hz]
      · refine .tup rfl fun j q x hq hx => ?_
        match j with
        | 0 => simp at hq hx; subst hq; subst hx; exact .pure rz
        | 1 => simp at hq hx; subst hq; subst hx; exact .pure (.flat (.bool _))
        | j + 2 => simp at hq
  · simp [M.fail] at h
theorem nc_ok {p : PV} {u : Value} {out : Out PV} (h : nc P p H = some out) (hp : RepT g L p u) :
    (out = .ok p H ∧ (∀ L, RepT g L p u) ∧ u ≠ .pointer none ∧ u ≠ .nilIface ∧ u ≠ .nilFunc ∧ ∀ nm fst cap, u ≠ .func (.method nm) fst cap) ∨
    (out = .pan (nilDeref P) H ∧ (u = .pointer none ∨ u = .nilIface ∨ u = .nilFunc)) := by
  unfold nc at h
  split at h <;> simp only [M.pan, M.pure, M.fail, Option.some.injEq, reduceCtorEq] at h
  · exact .inr ⟨h.symm, .inl hp.nil⟩
  · exact .inr ⟨h.symm, .inr (.inl hp.niliface)⟩
  · exact .inr ⟨h.symm, .inr (.inr hp.nilfn)⟩
  · obtain ⟨b, hb, rfl⟩ := hp.ptr
    exact .inl ⟨h.symm, fun L => rT (.ptr hb) L, by simp, by simp, by simp, by simp⟩
  · obtain ⟨b, o, vs, rfl, h1, h2⟩ := hp.elem
    exact .inl ⟨h.symm, fun L => rT (.elem vs h1 h2) L, by simp, by simp, by simp, by simp⟩
  · obtain ⟨b, o, vs, rfl, h0, h1, h2⟩ := hp.lel
    exact .inl ⟨h.symm, fun L => rT (.lel vs h0 h1 h2) L, by simp, by simp, by simp, by simp⟩
  · obtain ⟨fv, cv, rfl, h1, h2, h3, h4⟩ := hp.fn
    exact .inl ⟨h.symm, fun L => rT (.fn h1 h2 h3 h4) L, by simp, by simp, by simp, by simp⟩
  · obtain ⟨cv, rfl, hr⟩ := hp.iface
    exact .inl ⟨h.symm, fun L => rT (.iface hr) L, by simp, by simp, by simp, by simp⟩
end Go.Proofs.YtjcffopjohkmaaaDoor.Pi
namespace Go.Proofs.YtjcffopjohkmaaaDoor.Pi
variable {P : Program} {g : G} {L L' : Owner} {w w' : World} {H : Heap} {x : Nat} {env : Env}
def ValOk (P : Program) (x : Nat) (g : G) (w : World) (env' : Env) (tm : Array Value) (d : Option Tmp) (s : Sem Value) : Out PV → Prop
  | .ok v H' => ∃ cv w' g', s.run P w = .ok cv w' ∧ Glob g w g' w' ∧ Inv g' H' w' ∧ TOk x g' env' tm ∧ ∀ t, d = some t → RepT g' (.tmp t) v cv
  | .pan v H' => ∃ cv w' g', s.run P w = .halt (.panic cv) w' ∧ Glob g w g' w' ∧ Inv g' H' w' ∧ Grow IsTmp g g' ∧ Rep g'.io g'.im v cv
theorem PureRes.valOk {s : Sem Value} {out : Out PV} (h : PureRes P g w H s out) (hi : Inv g H w) {env' : Env} {tm : Array Value} (ht : TOk x g env' tm) (d : Option Tmp) : ValOk P x g w env' tm d s out := by
  obtain ⟨v, cv, rfl, hr, hv⟩ := h
  exact ⟨cv, w, g, hr, Glob.refl _ _, hi, ht, fun t _ => hv _⟩
def G.ren (g : G) (f : Owner → Owner) : G := { g with ow := fun b => (g.ow b).map fun (L, s) => (f L, s) }
theorem ren_ow {f : Owner → Owner} {b : Nat} {L : Owner} {s : Nat} (h : g.ow b = some (L, s)) : (g.ren f).ow b = some (f L, s) := by simp [G.ren, h]
theorem u4o {f : Owner → Owner} {S : Owner → Prop} (hf : ∀ M, S M → f M = M) : Grow S g (g.ren f) :=
  ⟨IoLe.refl _, fun _ _ _ h => h, fun b M s hM hb => ⟨by rw [ren_ow hb, hf M hM], fun _ h => h⟩, rfl⟩
theorem ren_none {f : Owner → Owner} {b : Nat} : (g.ren f).ow b = none ↔ g.ow b = none := by simp [G.ren]
theorem u1a {f : Owner → Owner} (hf : ∀ M, f (.up M) = .up M) : Glob g w (g.ren f) w :=
  ⟨rfl, rfl, rfl, Nat.le_refl _, fun b _ h1 h2 => ⟨ren_none.mpr h1, h2, rfl⟩, u4o (fun M hM => by cases M <;> first | exact hM.elim | exact hf _)⟩
theorem RepS.ren {f : Owner → Owner} {p : PV} {v : Value} (h : RepS g L p v) (hf : f L = L') : RepS (g.ren f) L' p v := by
  cases h with
  | undef => exact .undef v
  | pure h => exact .pure h
  | own vs hc hsz him hr how hs hroom => exact .own vs hc hsz him hr (by rw [ren_ow how, hf]) hs hroom
theorem RepT.ren {f : Owner → Owner} {p : PV} {v : Value} (h : RepT g L p v) (hf : f L = L') (hs : ∀ j, f (.sub L j) = .sub L' j) : RepT (g.ren f) L' p v := by
  cases h with
  | one h => exact .one (h.ren hf)
  | tup h1 r => exact .tup h1 fun j p v a b => (r j p v a b).ren (hs j)
  | aggo h1 hc r => exact .aggo h1 hc fun j p v a b => (r j p v a b).ren (hs j)
theorem BoxOk.ren {f : Owner → Owner} {id b : Nat} {y : Box} (h : BoxOk g w id b y) (hf : ∀ o, f (.cell id o) = .cell id o) : BoxOk (g.ren f) w id b y := by
  cases y with
  | cells cs =>
    obtain ⟨h1, h2, vs, T, h3, h4, h5⟩ := h
    exact ⟨ren_none.mpr h1, h2, vs, T, h3, h4, fun o c v hc hv => let ⟨a, r⟩ := h5 o c v hc hv; ⟨a.ren (hf o), r⟩⟩
  | iter s pos =>
    obtain ⟨h1, h2, h3⟩ := h
    exact ⟨ren_none.mpr h1, h2, h3⟩
  | dead => exact h
theorem Inv.ren {f : Owner → Owner} (h : Inv g H w) (hf : ∀ id o, f (.cell id o) = .cell id o) : Inv (g.ren f) H w :=
  ⟨h.len, h.nd, h.im, fun b M s hb => by
    simp only [G.ren, Option.map_eq_some_iff] at hb
    obtain ⟨⟨M', s'⟩, h1, h2⟩ := hb
    simp only [Prod.mk.injEq] at h2
    obtain ⟨_, rfl⟩ := h2
    exact h.ow b M' s' h1, fun id b y h1 h2 => (h.box id b y h1 h2).ren (hf id), h.gl, h.zl, h.nn⟩
theorem RepS.ofStrip {p : PV} {v : Value} (h : RepS g L p v) (hp : Pi.stripC p = p) : ∀ f M, RepS (g.ren f) M p v := fun f M => by
  have h2 := h.strip (L' := M)
  rw [hp] at h2
  cases h2 with
  | undef => exact .undef v
  | pure h => exact .pure h
  | own => simp [Pi.stripC] at hp
theorem u1g (p : PV) : stripC (stripC p) = stripC p := by cases p <;> rfl
theorem RepT.stripRen {p : PV} {v : Value} (h : RepT g L p v) (f : Owner → Owner) (M : Owner) : RepT (g.ren f) M (Pi.strip p) v := by
  have h2 := h.strip (L' := M)
  cases p with
  | tup ps =>
    cases h2 with
    | one h => cases h with
      | pure h => cases h with
        | flat h => cases h
    | tup h1 r =>
      refine .tup h1 fun j q u a b => ?_
      simp only [List.getElem?_map, Option.map_eq_some_iff] at a
      obtain ⟨q0, hq0, rfl⟩ := a
      exact (r j _ u (by simp [hq0]) b).ofStrip (u1g _) f _
  | slice o z sz xs =>
    cases h2 with
    | one h => exact .one (h.ofStrip rfl f M)
  | _ => cases h2 with
    | one h => exact .one (h.ofStrip rfl f M)
def mvTmp (s d : Nat) : Owner → Owner
  | .tmp t => if t = s then .tmp d else .tmp t
  | .sub (.tmp t) j => if t = s then .sub (.tmp d) j else .sub (.tmp t) j
  | M => M
theorem TOk.move {tm : Array Value} (h : TOk x g env tm) (s d : Nat) : TOk x (g.ren (mvTmp s d)) (env.set s (strip (env.getD s .undef))) tm := by
  have hl := h.len
  refine ⟨h.one, by simp [h.len], fun t u q hu hq => ?_, fun t q ht hq => ?_⟩
  · by_cases e : s = t
    · subst e
      have h2 : s < env.length := by
        have := (List.getElem?_eq_some_iff.mp hq).1
        simpa using this
      rw [List.getElem?_set_self h2] at hq
      simp only [Option.some.injEq] at hq
      subst hq
      have : env.getD s .undef = env[s] := by simp [List.getD, List.getElem?_eq_getElem h2]
      rw [this]
      exact (h.val s u _ hu (List.getElem?_eq_getElem h2)).stripRen _ _
    · rw [List.getElem?_set_ne e] at hq
      refine (h.val t u q hu hq).ren ?_ (fun j => ?_)
      · show (if t = s then _ else _) = _
        rw [if_neg (fun h => e h.symm)]
      · show (if t = s then _ else _) = _
        rw [if_neg (fun h => e h.symm)]
  · have h3 := h.giveUp (some (s, none))
    exact h3.slot t q ht hq
def mvSub (s i d : Nat) : Owner → Owner
  | .sub (.tmp t) j => if t = s ∧ j = i then .tmp d else .sub (.tmp t) j
  | M => M
theorem TOk.moveSub {tm : Array Value} (h : TOk x g env tm) (s i d : Nat) : TOk x (g.ren (mvSub s i d)) (env.set s (tupDrop i (env.getD s .undef))) tm := by
  have hl := h.len
  refine ⟨h.one, by simp [h.len], fun t u q hu hq => ?_, fun t q ht hq => ?_⟩
  · by_cases e : s = t
    · subst e
      have h2 : s < env.length := by
        have := (List.getElem?_eq_some_iff.mp hq).1
        simpa using this
      rw [List.getElem?_set_self h2] at hq
      simp only [Option.some.injEq] at hq
      subst hq
      have : env.getD s .undef = env[s] := by simp [List.getD, List.getElem?_eq_getElem h2]
      rw [this]
      have hv := h.val s u _ hu (List.getElem?_eq_getElem h2)
      generalize env[s] = p at hv
      cases p with
      | tup ps =>
        obtain ⟨vs, rfl, h1, h3⟩ := hv.tupI
        refine .tup (by simpa using h1) fun j q u hq hu => ?_
        by_cases e : i = j
        · subst e
          have hi : i < ps.length := by
            have := (List.getElem?_eq_some_iff.mp hq).1
            simpa using this
          rw [List.getElem?_set_self hi] at hq
          simp only [Option.some.injEq] at hq
          subst hq
          have : ps.getD i .undef = ps[i] := by simp [List.getD, List.getElem?_eq_getElem hi]
          rw [this]
          exact ((h3 i ps[i] u (List.getElem?_eq_getElem hi) hu).strip (L' := .res)).ofStrip (u1g _) _ _
        · rw [List.getElem?_set_ne e] at hq
          refine (h3 j q u hq hu).ren ?_
          show (if s = s ∧ j = i then _ else _) = _
          rw [if_neg (fun h => e h.2.symm)]
      | aggo ps => exact hv.stripRen _ _
      | _ => cases hv with
        | one hv => exact .one (hv.ren rfl)
    · rw [List.getElem?_set_ne e] at hq
      refine (h.val t u q hu hq).ren rfl (fun j => ?_)
      show (if t = s ∧ j = i then _ else _) = _
      rw [if_neg (fun h => e h.1.symm)]
  · have h3 := h.giveUp (some (s, some i))
    exact h3.slot t q ht hq
structure Pushed (w w' : World) (o : Obj) : Prop where
  heap : w'.heap = w.heap.push o
  os : w'.os = w.os
  tape : w'.tape = w.tape
  output : w'.output = w.output
theorem Pushed.alloc (w : World) (o : Obj) : Pushed w (w.alloc o) o := ⟨rfl, rfl, rfl, rfl⟩
theorem Pushed.old {o : Obj} (h : Pushed w w' o) {b : Nat} (hb : b < w.heap.size) : w'.heap[b]? = w.heap[b]? := by
  rw [h.heap, Array.getElem?_push, if_neg (by omega)]
theorem Pushed.new {o : Obj} (h : Pushed w w' o) : w'.heap[w.heap.size]? = some o := by rw [h.heap]; simp
theorem Pushed.size {o : Obj} (h : Pushed w w' o) : w'.heap.size = w.heap.size + 1 := by rw [h.heap]; simp
theorem Pushed.cell {o : Obj} (h : Pushed w w' o) {b : Nat} (hb : b < w.heap.size) (k : Nat) : w'.cell? ⟨b, k, none⟩ = w.cell? ⟨b, k, none⟩ := by
  simp [World.cell?, h.old hb]
def G.box (g : G) (b s : Nat) : G := { g with io := ⟨g.io.l ++ [b], fun x => if x = b then some s else g.io.z x⟩ }
theorem u0s (b s : Nat) (S : Owner → Prop) (hz : g.io.z b = none ∨ g.io.z b = some s) : Grow S g (g.box b s) :=
  ⟨⟨fun i c h => by
    have hi : i < g.ι.length := (List.getElem?_eq_some_iff.mp h).1
    show (g.ι ++ [b])[i]? = some c
    rw [List.getElem?_append_left hi]
    exact h, fun x t hx => by
    show (if x = b then some s else g.io.z x) = some t
    by_cases e : x = b
    · subst e
      rw [if_pos rfl, ← hx]
      rcases hz with hz | hz <;> rw [hz] at hx ⊢
      cases hx
    · rw [if_neg e]; exact hx⟩, fun _ _ _ h => h, fun _ _ _ _ h => ⟨h, fun _ h => h⟩, rfl⟩
theorem Inv.z_new (h : Inv g H w) : g.io.z w.heap.size = none := by
  cases hb : g.io.z w.heap.size with
  | none => rfl
  | some q => exact absurd (h.zl _ _ hb) (by omega)
theorem Inv.ow_new (h : Inv g H w) : g.ow w.heap.size = none := by
  cases hb : g.ow w.heap.size with
  | none => rfl
  | some q => exact absurd (h.lt_ow (L := q.1) (s := q.2) hb) (by omega)
theorem Inv.im_new (h : Inv g H w) (o : Nat) : g.im w.heap.size o = none := by
  cases hb : g.im w.heap.size o with
  | none => rfl
  | some q => exact absurd (h.lt_im hb) (by omega)
theorem u9b {H : Heap} {i : Nat} {y : Box} (hi : i < H.length) : liveB (H ++ [y]) i = liveB H i := by
  unfold liveB
  rw [List.getElem?_append_left hi]
theorem Inv.pushAt {b0 s : Nat} {y : Box} (h : Inv g H w) (hf : ∀ i, g.ι[i]? = some b0 → liveB H i = false) (hlt : b0 < w'.heap.size) (hz : g.io.z b0 = none ∨ g.io.z b0 = some s) (hcell : ∀ b k v, g.im b k = some v → w'.cell? ⟨b, k, none⟩ = w.cell? ⟨b, k, none⟩)
    (how : ∀ b M t, g.ow b = some (M, t) → w'.heap[b]? = w.heap[b]?) (hbx : ∀ id b, g.ι[id]? = some b → liveB H id = true → w'.heap[b]? = w.heap[b]?) (hsz : w.heap.size ≤ w'.heap.size)
    (hy : BoxOk (g.box b0 s) w' H.length b0 y) : Inv (g.box b0 s) (H ++ [y]) w' := by
  have hl2 : g.io.l.length = g.ι.length := rfl
  refine ⟨by have := h.len; simp [G.box, G.ι]; omega, fun i j b hi hj li lj => ?_, fun b k v hv => ?_, fun b M t hb => ?_, fun id b z hb hz' => ?_, h.gl, fun b t hb => ?_, fun n hn => by have := h.nn n hn; simp; omega⟩
  · simp only [G.box] at hi hj
    have last : ∀ k b, (g.io.l ++ [b0])[k]? = some b → ¬ k < g.ι.length → k = g.ι.length ∧ b = b0 := by
      intro k b hk hkl
      have h1 := (List.getElem?_eq_some_iff.mp hk).1
      simp at h1
      rw [List.getElem?_append_right (by omega)] at hk
      have h0 : k - g.io.l.length = 0 := by omega
      rw [h0] at hk
      exact ⟨by omega, by simpa using hk.symm⟩
    have hlen := h.len
    by_cases hil : i < g.ι.length <;> by_cases hjl : j < g.ι.length
    · rw [List.getElem?_append_left hil] at hi
      rw [List.getElem?_append_left hjl] at hj
      rw [u9b (by omega)] at li lj
      exact h.nd i j b hi hj li lj
    · rw [List.getElem?_append_left hil] at hi
      rw [u9b (by omega)] at li
      obtain ⟨_, rfl⟩ := last j b hj hjl
      rw [hf i hi] at li
      cases li
    · rw [List.getElem?_append_left hjl] at hj
      rw [u9b (by omega)] at lj
      obtain ⟨_, rfl⟩ := last i b hi hil
      rw [hf j hj] at lj
      cases lj
    · have h1 := (last i b hi hil).1
      have h2 := (last j b hj hjl).1
      omega
  · rw [hcell b k v hv]
    exact h.im b k v hv
  · rw [how b M t hb]
    exact h.ow b M t hb
  · simp only [G.box] at hb
    rcases Nat.lt_or_ge id g.ι.length with hil | hil
    · rw [List.getElem?_append_left hil] at hb
      rw [List.getElem?_append_left (by rw [← h.len]; exact hil)] at hz'
      have hold := h.box id b z hb hz'
      cases z with
      | dead => exact Nat.lt_of_lt_of_le hold hsz
      | cells cs => exact hold.mono (u0s _ _ _ hz) (fun h => h) (fun h => h) (hbx id b hb (u1c hz' (by simp))) hsz
      | iter q p => exact hold.mono (u0s _ _ _ hz) (fun h => h) (fun h => h) (hbx id b hb (u1c hz' (by simp))) hsz
    · have h1 := (List.getElem?_eq_some_iff.mp hz').1
      simp at h1
      have hl := h.len
      have hid : id = H.length := by omega
      subst hid
      rw [List.getElem?_append_right (by omega)] at hb
      rw [List.getElem?_append_right (by omega)] at hz'
      have h0 : H.length - g.io.l.length = 0 := by omega
      rw [h0] at hb
      simp at hb hz'
      subst hb; subst hz'
      exact hy
  · simp only [G.box] at hb
    split at hb
    · rename_i e; rw [e]; exact hlt
    · exact Nat.lt_of_lt_of_le (h.zl b t hb) hsz
theorem Inv.pushBox {o : Obj} {y : Box} {s : Nat} (h : Inv g H w) (hp : Pushed w w' o) (hy : BoxOk (g.box w.heap.size s) w' H.length w.heap.size y) : Inv (g.box w.heap.size s) (H ++ [y]) w' := by
  refine h.pushAt (fun i hi => absurd (h.lt_ι hi) (by omega)) (by rw [hp.size]; omega) (.inl h.z_new) (fun b k v hv => hp.cell (h.lt_im hv) k) (fun b M t hb => hp.old (h.lt_ow hb)) (fun id b hb _ => hp.old (h.lt_ι hb)) (by rw [hp.size]; omega) hy
theorem Glob.pushBox {o : Obj} {s : Nat} (h : Inv g H w) (hp : Pushed w w' o) : Glob g w (g.box w.heap.size s) w' :=
  ⟨hp.os, hp.tape, hp.output, by rw [hp.size]; omega, fun b hb h1 h2 => ⟨h1, by
    simp only [G.box, G.ι, List.mem_append, List.mem_singleton, not_or]
    exact ⟨h2, by omega⟩, hp.old hb⟩, u0s _ _ _ (.inl h.z_new)⟩
end Go.Proofs.YtjcffopjohkmaaaDoor.Pi
namespace Go.Proofs.YtjcffopjohkmaaaDoor.Pi
variable {P : Program} {g : G} {L L' : Owner} {w w' : World} {H : Heap} {x : Nat} {env : Env}
theorem u2y {b k : Nat} {vs : Array Value} {T : TypeId} (h : w.heap[b]? = some (.cells vs T (0, 0))) : w.cell? ⟨b, k, none⟩ = vs[k]? := by simp [World.cell?, h]
theorem u1o {p : PV} {v : Value} (h : RepS g L p v) (hc : isCell p = true) : v.oneCell' = true := by
  cases h with
  | undef => simp [isCell] at hc
  | pure h => cases h with
    | flat h => cases h <;> rfl
    | agg => simp [isCell] at hc
    | _ => rfl
  | own => rfl
theorem Inv.boxAt (h : Inv g H w) {id : Nat} {y : Box} (hy : H[id]? = some y) : ∃ b, g.ι[id]? = some b ∧ BoxOk g w id b y := by
  have hi : id < g.ι.length := by rw [h.len]; exact (List.getElem?_eq_some_iff.mp hy).1
  exact ⟨g.ι[id], List.getElem?_eq_getElem hi, h.box id _ y (List.getElem?_eq_getElem hi) hy⟩
theorem u33 {t : TypeId} {a : Addr} {v : Value} (hk : known P t = true) (ht : tagg P t = none) (hc : w.cell? a = some v) : (loadVar t a).run P w = .ok v w := by
  simp [loadVar, ubr (w := w) ht (u1j hk), hc]
theorem u4a {t : TypeId} {b o n : Nat} {vs : List Value} (hk : known P t = true) (ht : tagg P t = some n) (hn : vs.length = n) (hc : ∀ (j : Nat) (v : Value), vs[j]? = some v → w.cell? ⟨b, o + j, none⟩ = some v) :
    (loadVar t ⟨b, o, none⟩).run P w = .ok (.agg vs.toArray) w := by
  obtain ⟨d, hd⟩ := u1j hk
  obtain ⟨i, hi⟩ := u08 hd
  obtain ⟨ha, hs⟩ := uc7 (w := w) ht
  have hl := run_loadCells_list (P := P) w ⟨b, o, none⟩ vs (fun j v hv => by
    have : (⟨b, o, none⟩ : Addr).add j = ⟨b, o + j, none⟩ := by unfold Addr.add; split <;> simp_all
    rw [this]
    exact hc j v hv)
  rw [hn, hs] at hl
  simp [loadVar, ha, u07 (w := w) hi, hl]
theorem RepF.isCell {im : Nat → Nat → Option Value} {p : PV} {v : Value} (h : RepF im p v) : Pi.isCell p = true := by cases h <;> rfl
set_option maxHeartbeats 1000000 in
theorem u9j {t : TypeId} {p : PV} {u : Value} {out : Out PV} (hk : known P t = true) (h : ld (tagg P t) false p H = some out) (hi : Inv g H w) (hp : RepT g L p u) : PureRes P g w H (Instr.loadAt t u) out := by
  cases p with
  | ptr id o =>
    unfold ld at h
    dsimp only at h
    obtain ⟨b, hb, rfl⟩ := hp.ptr
    cases hy : H[id]? with
    | none => simp only [hy] at h; simp at h
    | some y =>
      simp only [hy] at h
      cases y with
      | cells cs =>
        simp only at h
        obtain ⟨b', hb', hbox⟩ := hi.boxAt hy
        obtain rfl : b = b' := by rw [hb] at hb'; exact Option.some.inj hb'
        obtain ⟨h1, h2, vs, T, h3, h4, h5⟩ := hbox
        cases ht : tagg P t with
        | none =>
          rw [ht] at h
          simp only at h
          cases hv : cs[o]? with
          | none => rw [hv] at h; simp at h
          | some v =>
            rw [hv] at h
            simp only [cond_false, Option.some.injEq] at h
            have hlt : o < vs.size := by have := (List.getElem?_eq_some_iff.mp hv).1; have := h4.1; omega
            obtain ⟨hr, hcell, _⟩ := h5 o v vs[o] hv (by simp [hlt])
            refine ⟨stripC v, vs[o], h.symm, ?_, fun L => .one hr.strip⟩
            simp [Instr.loadAt, Instr.sureAddr, u33 (a := ⟨b, o, none⟩) hk ht (by rw [u2y h3]; simp [hlt] : w.cell? ⟨b, o, none⟩ = some vs[o])]
        | some n =>
          rw [ht] at h
          simp only at h
          by_cases hb2 : o + n ≤ cs.length
          · rw [decide_eq_true hb2] at h
            simp only [cond_true, Option.some.injEq] at h
            have hl : ((vs.toList.drop o).take n).length = n := by have := h4.1; simp; omega
            refine ⟨_, .agg ((vs.toList.drop o).take n).toArray, h.symm, ?_, fun L => rT (.agg ?_ ?_ ?_) L⟩
            · have := u4a (P := P) (w := w) (b := b) (o := o) hk ht hl (fun j v hv => by
                simp only [List.getElem?_take, List.getElem?_drop] at hv
                split at hv
                · rw [u2y h3]; simpa using hv
                · simp at hv)
              simp [Instr.loadAt, Instr.sureAddr, this]
            · have := h4.1; simp; omega
            · intro j c hj
              simp only [List.getElem?_map, List.getElem?_take, List.getElem?_drop, Option.map_eq_some_iff] at hj
              obtain ⟨q, hq, rfl⟩ := hj
              split at hq
              · have hlt : o + j < vs.size := by have := (List.getElem?_eq_some_iff.mp hq).1; have := h4.1; omega
                obtain ⟨_, hc, _⟩ := h5 _ q vs[o + j] hq (by simp [hlt])
                cases q <;> first | exact hc | rfl
              · simp at hq
            · intro j c v hj hv
              simp only [List.getElem?_map, List.getElem?_take, List.getElem?_drop, Option.map_eq_some_iff] at hj
              obtain ⟨q, hq, rfl⟩ := hj
              simp only [List.getElem?_toArray, List.getElem?_take, List.getElem?_drop] at hv
              split at hq
              · rename_i hjn
                rw [if_pos hjn] at hv
                obtain ⟨hr, hc, _⟩ := h5 _ q v hq (by simpa using hv)
                exact hr.toRep (by cases q <;> first | rfl | simp [isCell] at hc)
              · simp at hq
          · rw [decide_eq_false hb2] at h
            simp at h
      | iter s pos => simp at h
      | dead => simp at h
  | elem cs =>
    unfold ld at h
    dsimp only at h
    obtain ⟨b, o, vs, rfl, h1, h2⟩ := hp.elem
    cases ht : tagg P t with
    | none =>
      rw [ht] at h
      simp only at h
      cases hv : cs[0]? with
      | none => rw [hv] at h; simp [M.fail] at h
      | some v =>
        rw [hv] at h
        have hc := hi.im _ _ _ (h1 0 v hv)
        exact u06 h (by simp [Instr.loadAt, Instr.sureAddr, u33 (a := ⟨b, o, none⟩) hk ht hc]) (fun L => rF (h2 0 v hv) L)
    | some n =>
      rw [ht] at h
      simp only at h
      by_cases hb2 : n ≤ cs.length
      · rw [decide_eq_true hb2] at h
        have hl : ((List.range n).map vs).length = n := by simp
        refine u06 h (cv := .agg ((List.range n).map vs).toArray) ?_ (fun L => rT (.agg ?_ ?_ ?_) L)
        · have := u4a (P := P) (w := w) (b := b) (o := o) hk ht hl (fun j v hv => by
            have hj : j < n := by
              have := (List.getElem?_eq_some_iff.mp hv).1
              simpa using this
            simp [hj] at hv
            subst hv
            have hj2 : j < cs.length := by omega
            exact hi.im _ _ _ (h1 j cs[j] (List.getElem?_eq_getElem hj2)))
          simp [Instr.loadAt, Instr.sureAddr, this]
        · simp; omega
        · intro j c hj
          simp only [List.getElem?_take] at hj
          split at hj
          · exact (h2 j c hj).isCell
          · simp at hj
        · intro j c v hj hv
          simp only [List.getElem?_take] at hj
          split at hj
          · rename_i hjn
            simp [hjn] at hv
            subst hv
            exact .flat (h2 j c hj)
          · simp at hj
      · rw [decide_eq_false hb2] at h
        simp [M.fail] at h
  | lel cs =>
    unfold ld at h
    dsimp only at h
    obtain ⟨b, o, vs, rfl, h0, h1, h2⟩ := hp.lel
    cases ht : tagg P t with
    | none =>
      rw [ht] at h
      simp only at h
      cases hv : cs[0]? with
      | none => rw [hv] at h; simp [M.fail] at h
      | some v =>
        rw [hv] at h
        have hc := hi.im _ _ _ (h1 0 v hv)
        exact u06 h (by simp [Instr.loadAt, Instr.sureAddr, u33 (a := ⟨b, o, none⟩) hk ht hc]) (fun L => rT (h2 0 v hv) L)
    | some n =>
      rw [ht] at h
      simp only at h
      by_cases hb2 : n ≤ cs.length
      · rw [decide_eq_true hb2] at h
        have hl : ((List.range n).map vs).length = n := by simp
        refine u06 h (cv := .agg ((List.range n).map vs).toArray) ?_ (fun L => rT (.agg ?_ ?_ ?_) L)
        · have := u4a (P := P) (w := w) (b := b) (o := o) hk ht hl (fun j v hv => by
            have hj : j < n := by
              have := (List.getElem?_eq_some_iff.mp hv).1
              simpa using this
            simp [hj] at hv
            subst hv
            have hj2 : j < cs.length := by omega
            exact hi.im _ _ _ (h1 j cs[j] (List.getElem?_eq_getElem hj2)))
          simp [Instr.loadAt, Instr.sureAddr, this]
        · simp; omega
        · intro j c hj
          simp only [List.getElem?_take] at hj
          split at hj
          · exact h0 j c hj
          · simp at hj
        · intro j c v hj hv
          simp only [List.getElem?_take] at hj
          split at hj
          · rename_i hjn
            simp [hjn] at hv
            subst hv
            exact h2 j c hj
          · simp at hj
      · rw [decide_eq_false hb2] at h
        simp [M.fail] at h
  | _ => (unfold ld at h; exact nomatch h)
end Go.Proofs.YtjcffopjohkmaaaDoor.Pi
namespace Go.Proofs.YtjcffopjohkmaaaDoor.Pi
variable {P : Program} {g : G} {L L' : Owner} {w w' : World} {H : Heap} {x : Nat} {env : Env}
def mvCell (id o d : Nat) : Owner → Owner
  | .cell i k => if i = id ∧ k = o then .tmp d else .cell i k
  | M => M
theorem u4g {f : Owner → Owner} (h1 : ∀ t, f (.tmp t) = .tmp t) (h2 : ∀ t j, f (.sub (.tmp t) j) = .sub (.tmp t) j) {tm : Array Value} (h : TOk x g env tm) : TOk x (g.ren f) env tm :=
  ⟨h.one, h.len, fun t v p hv hp => (h.val t v p hv hp).ren (h1 t) (h2 t), h.slot⟩
theorem u8a (n : Nat) (p : PV) : (stripC p).low n = p.low n := by cases p <;> simp [stripC, PV.low]
theorem u2z (N : Option Nat) (id : Nat) (p : PV) : lowB N id (stripC p) = lowB N id p := by
  unfold lowB
  cases N
  · rfl
  · exact u8a _ p
theorem u3s {H : Heap} {id i : Nat} {y z : Box} (hy : H[id]? = some y) (hyd : y ≠ .dead) (hz : z ≠ .dead) (h : liveB (H.set id z) i = true) : liveB H i = true := by
  by_cases e : id = i
  · subst e
    exact u1c hy hyd
  · unfold liveB at h ⊢
    rw [List.getElem?_set_ne e] at h
    exact h
theorem u1x {H : Heap} {id i : Nat} (h : liveB (H.set id .dead) i = true) : liveB H i = true := by
  by_cases e : id = i
  · subst e
    by_cases hl : id < H.length
    · unfold liveB at h
      rw [List.getElem?_set_self hl] at h
      cases h
    · rw [List.set_eq_of_length_le (by omega)] at h
      exact h
  · unfold liveB at h ⊢
    rw [List.getElem?_set_ne e] at h
    exact h
theorem u10 (p : PV) : isCell (stripC p) = isCell p := by cases p <;> rfl
theorem ld_mvS {t : TypeId} {p : PV} {u : Value} {out : Out PV} (d : Nat) (hk : known P t = true) (h : ld (tagg P t) true p H = some out) (hi : Inv g H w) (hp : RepT g L p u) :
    ∃ v H' cv g', out = .ok v H' ∧ (Instr.loadAt t u).run P w = .ok cv w ∧ Glob g w g' w ∧ Grow u1z g g' ∧ Inv g' H' w ∧ RepT g' (.tmp d) v cv := by
  have pure : PureRes P g w H (Instr.loadAt t u) out → ∃ v H' cv g', out = .ok v H' ∧ (Instr.loadAt t u).run P w = .ok cv w ∧ Glob g w g' w ∧ Grow u1z g g' ∧ Inv g' H' w ∧ RepT g' (.tmp d) v cv :=
    fun ⟨v, cv, h1, h2, h3⟩ => ⟨v, H, cv, g, h1, h2, Glob.refl _ _, Grow.refl _ _, hi, h3 _⟩
  cases p with
  | ptr id o =>
    unfold ld at h
    dsimp only at h
    obtain ⟨b, hb, rfl⟩ := hp.ptr
    cases hy : H[id]? with
    | none => simp only [hy] at h; simp at h
    | some y =>
      cases hta : tagg P t with
      | some n =>
        refine pure (u9j (P := P) (p := .ptr id o) (L := .res) hk ?_ hi (rT (.ptr hb) _))
        unfold ld
        dsimp only
        simp only [hy, hta] at h ⊢
        exact h
      | none =>
        simp only [hy, hta] at h
        cases y with
        | cells cs =>
          simp only at h
          obtain ⟨b', hb', hbox⟩ := hi.boxAt hy
          obtain rfl : b = b' := by rw [hb] at hb'; exact Option.some.inj hb'
          obtain ⟨h1, h2, vs, T, h3, h4, h5⟩ := hbox
          cases hv : cs[o]? with
          | none => rw [hv] at h; simp at h
          | some v =>
            rw [hv] at h
            simp only [cond_true, Option.some.injEq] at h
            subst h
            have hlt : o < vs.size := by have := (List.getElem?_eq_some_iff.mp hv).1; have := h4.1; omega
            have hcs : o < cs.length := (List.getElem?_eq_some_iff.mp hv).1
            obtain ⟨hr, hcell, hlow⟩ := h5 o v vs[o] hv (by simp [hlt])
            have hid : id < H.length := (List.getElem?_eq_some_iff.mp hy).1
            refine ⟨_, _, vs[o], g.ren (mvCell id o d), rfl, ?_, u1a (fun M => rfl), u4o (fun M hM => by cases M <;> first | rfl | exact hM.elim), ?_, ?_⟩
            · simp [Instr.loadAt, Instr.sureAddr, u33 (a := ⟨b, o, none⟩) hk hta (by rw [u2y h3]; simp [hlt] : w.cell? ⟨b, o, none⟩ = some vs[o])]
            · refine ⟨by have := hi.len; simp [G.ren, G.ι] at this ⊢; exact this, fun i j b hi' hj' li lj => hi.nd i j b hi' hj' (u3s hy (by simp) (by simp) li) (u3s hy (by simp) (by simp) lj), hi.im, fun b' M s hb' => ?_, fun id' b' y' hb' hy' => ?_, hi.gl, hi.zl, fun n hn => by have := hi.nn n hn; simpa using this⟩
              · simp only [G.ren, Option.map_eq_some_iff] at hb'
                obtain ⟨⟨M', s'⟩, e1, e2⟩ := hb'
                simp only [Prod.mk.injEq] at e2
                obtain ⟨_, rfl⟩ := e2
                exact hi.ow b' M' s' e1
              · by_cases e : id = id'
                · subst e
                  rw [List.getElem?_set_self hid] at hy'
                  simp only [Option.some.injEq] at hy'
                  subst hy'
                  obtain rfl : b = b' := by
                    have : g.ι[id]? = some b' := hb'
                    rw [hb] at this
                    exact Option.some.inj this
                  refine ⟨ren_none.mpr h1, h2, vs, T, h3, ⟨by simpa using h4.1, h4.2⟩, fun k c u hc hu => ?_⟩
                  by_cases ek : o = k
                  · subst ek
                    rw [List.getElem?_set_self hcs] at hc
                    simp only [Option.some.injEq] at hc
                    subst hc
                    obtain ⟨hr', _, _⟩ := h5 o v u hv hu
                    exact ⟨(hr'.strip (L' := .res)).ofStrip (u1g _) _ _, by rw [u10]; exact hcell, by rw [u2z]; exact hlow⟩
                  · rw [List.getElem?_set_ne ek] at hc
                    obtain ⟨hr', hc', hl'⟩ := h5 k c u hc hu
                    refine ⟨hr'.ren ?_, hc', hl'⟩
                    show (if id = id ∧ k = o then _ else _) = _
                    rw [if_neg (fun h => ek h.2.symm)]
                · rw [List.getElem?_set_ne e] at hy'
                  refine (hi.box id' b' y' hb' hy').ren fun k => ?_
                  show (if id' = id ∧ k = o then _ else _) = _
                  rw [if_neg (fun h => e h.1.symm)]
            · refine .one (hr.ren ?_)
              show (if id = id ∧ o = o then _ else _) = _
              rw [if_pos ⟨rfl, rfl⟩]
        | iter s pos => simp at h
        | dead => simp at h
  | elem cs => exact pure (u9j (P := P) (p := .elem cs) hk h hi hp)
  | lel cs => exact pure (u9j (P := P) (p := .lel cs) hk h hi hp)
  | _ => (unfold ld at h; exact nomatch h)
theorem ld_mv {t : TypeId} {p : PV} {u : Value} {out : Out PV} {tm : Array Value} (d : Nat) (hk : known P t = true) (h : ld (tagg P t) true p H = some out) (hi : Inv g H w) (ht : TOk x g env tm) (hp : RepT g L p u) :
    ValOk P x g w env tm (some d) (Instr.loadAt t u) out := by
  obtain ⟨v, H', cv, g', rfl, h1, h2, h3, h4, h5⟩ := ld_mvS (w := w) d hk h hi hp
  refine ⟨cv, w, g', h1, h2, h4, ht.mono h3 (fun M hM => by cases M <;> first | exact True.intro | exact hM.elim), fun t' ht' => ?_⟩
  simp only [Option.some.injEq] at ht'
  subst ht'
  exact h5
theorem u1k {n : Nat} : ∀ {l : List PV}, lowL n l = true → ∀ (j : Nat) (c : PV), l[j]? = some c → c.low n = true
  | [], _, j, c, hc => by simp at hc
  | v :: r, h, j, c, hc => by
    simp only [lowL, Bool.and_eq_true] at h
    cases j with
    | zero => simp at hc; subst hc; exact h.1
    | succ j => exact u1k h.2 j c (by simpa using hc)
theorem u1r {n m : Nat} (h : n ≤ m) : (p : PV) → p.low n = true → p.low m = true
  | .ptr id o, hp => by simp [PV.low] at hp ⊢; omega
  | .fn f a b, hp => by
    simp only [PV.low, Bool.and_eq_true] at hp ⊢
    exact ⟨lowL_mono h a hp.1, lowL_mono h b hp.2⟩
  | .iface t v, hp => by
    simp only [PV.low] at hp ⊢
    exact u1r h v hp
  | .agg cs, hp => by
    simp only [PV.low] at hp ⊢
    exact lowL_mono h cs hp
  | .tup cs, hp => by
    simp only [PV.low] at hp ⊢
    exact lowL_mono h cs hp
  | .aggo cs, hp => by
    simp only [PV.low] at hp ⊢
    exact lowL_mono h cs hp
  | .win id _ _ _, hp => by simp [PV.low] at hp ⊢; omega
  | .lit _ _ cs, hp => by
    simp only [PV.low] at hp ⊢
    exact lowL_mono h cs hp
  | .lel cs, hp => by
    simp only [PV.low] at hp ⊢
    exact lowL_mono h cs hp
  | .int .., _ | .bool _, _ | .str _, _ | .nil, _ | .elem _, _ | .slice .., _ | .nilfn, _ | .niliface, _ | .undef, _ => by simp [PV.low]
where lowL_mono {n m : Nat} (h : n ≤ m) : (l : List PV) → lowL n l = true → lowL m l = true
  | [], _ => rfl
  | v :: r, hl => by
    simp only [lowL, Bool.and_eq_true] at hl ⊢
    exact ⟨u1r h v hl.1, lowL_mono h r hl.2⟩
theorem u4z {N : Option Nat} {id : Nat} {c : PV} (h : c.low (id + 1) = true) : lowB N id c = true := by
  unfold lowB
  cases N
  · rfl
  · exact u1r (by omega) c h
theorem newBox {cs : List PV} {vs : Array Value} {T : TypeId} (hi : Inv g H w) (hp : Pushed w w' (.cells vs T (0, 0))) (h1 : vs.size = cs.length)
    (hr : ∀ (j : Nat) (c : PV) (v : Value), cs[j]? = some c → vs[j]? = some v → Rep g.io g.im c v ∧ isCell c = true ∧ c.low (H.length + 1) = true) :
    Inv (g.box w.heap.size vs.size) (H ++ [.cells cs]) w' ∧ Glob g w (g.box w.heap.size vs.size) w' ∧ Rep (g.box w.heap.size vs.size).io g.im (.ptr H.length 0) (.pointer (some ⟨w.heap.size, 0, none⟩)) := by
  refine ⟨hi.pushBox hp ⟨hi.ow_new, hi.im_new, vs, T, hp.new, ⟨by omega, by simp [G.box]⟩, fun o c v hc hv => ?_⟩, Glob.pushBox hi hp, .ptr ?_⟩
  · obtain ⟨a, b, c'⟩ := hr o c v hc hv
    exact ⟨.pure (a.mono (u0s _ _ (fun _ => True) (.inl hi.z_new)).ι (fun _ _ _ h => h)), b, u4z c'⟩
  · show (g.io.l ++ [w.heap.size])[H.length]? = _
    rw [← hi.len]
    simp [G.ι]
theorem u22 {cs : List PV} {vs : Array Value} (hr : ∀ (j : Nat) (c : PV) (v : Value), cs[j]? = some c → vs[j]? = some v → RepS g L c v) (hc : cs.all isCell = true) :
    ∀ (j : Nat) (c : PV) (v : Value), (cs.map stripC)[j]? = some c → vs[j]? = some v → Rep g.io g.im c v ∧ isCell c = true := by
  intro j c v hj hv
  simp only [List.getElem?_map, Option.map_eq_some_iff] at hj
  obtain ⟨q, hq, rfl⟩ := hj
  have hq2 : isCell q = true := List.all_eq_true.mp hc q (List.mem_of_getElem? hq)
  exact ⟨(hr j q v hq hv).toRep (by cases q <;> first | rfl | simp [isCell] at hq2), by rw [u10]; exact hq2⟩
theorem u26 {p : PV} {v : Value} (h : RepT g L p v) (hc : p.cells.all isCell = true) : v.cells.size = p.cells.length ∧ ∀ (j : Nat) (c : PV) (u : Value), p.cells[j]? = some c → v.cells[j]? = some u → RepS g L c u := by
  cases p with
  | agg cs =>
    obtain ⟨vs, rfl, h1, _, h3⟩ := h.agg
    exact ⟨h1, fun j c u hc hu => .pure (h3 j c u hc hu)⟩
  | tup ps => simp [PV.cells, isCell] at hc
  | aggo ps => simp [PV.cells, isCell] at hc
  | undef => simp [PV.cells, isCell] at hc
  | _ =>
    cases h with
    | one h =>
      have hv := u1o h rfl
      have e : v.cells = #[v] := by cases v <;> first | rfl | simp [Value.oneCell'] at hv
      refine ⟨by rw [e]; rfl, fun j c u hc hu => ?_⟩
      rw [e] at hu
      have hj : j = 0 := by
        have := (List.getElem?_eq_some_iff.mp hc).1
        simp [PV.cells] at this
        omega
      subst hj
      simp [PV.cells] at hc hu
      subst hc; subst hu
      exact h
theorem bx_ok {t : TypeId} {p : PV} {u : Value} {out : Out PV} {tm : Array Value} (d : Option Tmp) (h : bx (tsize P t) p H = some out) (hi : Inv g H w) (ht : TOk x g env tm) (hp : RepT g L p u) : ValOk P x g w env tm d (Instr.box t u) out := by
  unfold bx at h
  cases hc : ((p.cells.map stripC).length == tsize P t && (lowL (H.length + 1) (p.cells.map stripC) && p.cells.all isCell)) with
  | false => rw [hc] at h; simp at h
  | true =>
    rw [hc] at h
    simp only [cond_true, Option.some.injEq] at h
    subst h
    simp only [Bool.and_eq_true, beq_iff_eq] at hc
    obtain ⟨_, hl, hce⟩ := hc
    obtain ⟨c1, c2⟩ := u26 hp hce
    have hm := u22 (vs := u.cells) c2 hce
    obtain ⟨r1, r2, r3⟩ := newBox (cs := p.cells.map stripC) hi (Pushed.alloc w (.cells u.cells t)) (by simp [c1]) (fun j c v hj hv => ⟨(hm j c v hj hv).1, (hm j c v hj hv).2, u1k hl j c hj⟩)
    refine ⟨.pointer (some ⟨w.heap.size, 0, none⟩), _, _, ?_, r2, r1, ht.mono (u0s _ _ _ (.inl hi.z_new)) (fun L h => h), fun t' _ => rT r3 _⟩
    simp [Instr.box, newVar, newRow]
theorem al_ok {t : TypeId} {i : TypeInfo} {z : Value} {out : Out PV} {tm : Array Value} (d : Option Tmp) (hti : P.info? t = some i) (hz : i.zero = some z) (h : al (ofV z).cells H = some out) (hi : Inv g H w) (ht : TOk x g env tm) :
    ValOk P x g w env tm d (Instr.alloc t true (.tuple #[])) out := by
  unfold al at h
  cases hc : (ofV z).cells.all isCell with
  | false => rw [hc] at h; simp at h
  | true =>
    rw [hc] at h
    simp only [cond_true, Option.some.injEq] at h
    subst h
    obtain ⟨c1, c2⟩ := u26 (u51 (g := g) z .res) hc
    have hlow : ∀ (j : Nat) (c : PV), (ofV z).cells[j]? = some c → c.low (H.length + 1) = true ∧ stripC c = c := by
      intro j c hj
      have key : ∀ {v : Value} {p : PV}, ofVC v = some p → p.low (H.length + 1) = true ∧ stripC p = p := by
        intro v p hp
        unfold ofVC at hp
        split at hp <;> simp only [Option.some.injEq, reduceCtorEq] at hp <;> subst hp <;> exact ⟨by simp [PV.low], rfl⟩
      have keyL : ∀ {vs : List Value} {ps : List PV}, ofVs vs = some ps → ∀ (j : Nat) (c : PV), ps[j]? = some c → c.low (H.length + 1) = true ∧ stripC c = c := by
        intro vs
        induction vs with
        | nil => intro ps h; simp [ofVs] at h; subst h; intro j c hc; simp at hc
        | cons v r ih =>
          intro ps h
          simp only [ofVs] at h
          split at h
          · rename_i a b ha hb
            simp only [Option.some.injEq] at h
            subst h
            intro j c hc
            cases j with
            | zero => simp at hc; subst hc; exact key ha
            | succ j => exact ih hb j c (by simpa using hc)
          · simp at h
      unfold ofV at hj
      split at hj
      · split at hj
        · rename_i l hl
          exact keyL hl j c hj
        · simp only [PV.cells] at hj
          have : j = 0 := by have := (List.getElem?_eq_some_iff.mp hj).1; simp at this; omega
          subst this
          simp at hj
          subst hj
          exact ⟨by simp [PV.low], rfl⟩
      · rename_i f a b
        cases hab : (a.size == 0 && b.size == 0) <;> rw [hab] at hj <;> simp only [cond_true, cond_false, PV.cells] at hj <;>
          (have : j = 0 := by (have := (List.getElem?_eq_some_iff.mp hj).1; simp at this; omega)) <;> subst this <;> simp at hj <;> subst hj <;> exact ⟨by simp [PV.low, lowL], rfl⟩
      · cases hov : ofVC z with
        | none =>
          rw [hov] at hj
          simp only [Option.getD_none, PV.cells] at hj
          have : j = 0 := by have := (List.getElem?_eq_some_iff.mp hj).1; simp at this; omega
          subst this
          simp at hj
          subst hj
          exact ⟨by simp [PV.low], rfl⟩
        | some p =>
          rw [hov] at hj
          simp only [Option.getD_some] at hj
          have hcell := u4r hov
          have e : p.cells = [p] := by cases p <;> first | rfl | simp [isCell] at hcell
          rw [e] at hj
          have : j = 0 := by have := (List.getElem?_eq_some_iff.mp hj).1; simp at this; omega
          subst this
          simp at hj
          subst hj
          exact key hov
    obtain ⟨r1, r2, r3⟩ := newBox (cs := (ofV z).cells) (vs := z.cells) (T := t) hi (Pushed.alloc w (.cells z.cells t)) c1 (fun j c v hj hv => by
      have hq2 : isCell c = true := List.all_eq_true.mp hc c (List.mem_of_getElem? hj)
      have := (c2 j c v hj hv).toRep (by cases c <;> first | rfl | simp [isCell] at hq2)
      rw [(hlow j c hj).2] at this
      exact ⟨this, hq2, (hlow j c hj).1⟩)
    refine ⟨.pointer (some ⟨w.heap.size, 0, none⟩), _, _, ?_, r2, r1, ht.mono (u0s _ _ _ (.inl hi.z_new)) (fun L h => h), fun t' _ => rT r3 _⟩
    simp [Instr.alloc, zeroValue, typeInfo, hti, hz, newVar, newRow]
theorem alZ_ok {t : TypeId} {out : Out PV} {tm : Array Value} (d : Option Tmp) (h : alZ P t H = some out) (hi : Inv g H w) (ht : TOk x g env tm) :
    ValOk P x g w env tm d (Instr.alloc t true (.tuple #[])) out := by
  unfold alZ at h
  cases hz : (P.info? t).bind (·.zero) with
  | none => rw [hz] at h; cases h
  | some z =>
    obtain ⟨i, hti, hiz⟩ := Option.bind_eq_some_iff.mp hz
    rw [hz] at h
    dsimp only at h
    cases hc : (ofV z).cells.all isCell with
    | true =>
      have h2 : al (ofV z).cells H = some out := by
        unfold al
        rw [hc]
        have e : okC (ofV z).cells = (ofV z).cells := by unfold okC; rw [hc]; rfl
        rw [e] at h
        exact h
      exact al_ok d hti hiz h2 hi ht
    | false =>
      have e : okC (ofV z).cells = [] := by unfold okC; rw [hc]; rfl
      rw [e] at h
      simp only [Option.some.injEq] at h
      subst h
      have hpu := Pushed.alloc w (.cells z.cells t)
      have r1 := hi.pushBox (s := z.cells.size) (y := .cells []) hpu ⟨hi.ow_new, hi.im_new, z.cells, t, hpu.new, ⟨by simp, by simp [G.box]⟩, fun o c v hc => by simp at hc⟩
      refine ⟨.pointer (some ⟨w.heap.size, 0, none⟩), _, _, ?_, Glob.pushBox hi hpu, r1, ht.mono (u0s _ _ _ (.inl hi.z_new)) (fun L h => h), fun t' _ => rT (.ptr ?_) _⟩
      · simp [Instr.alloc, zeroValue, typeInfo, hti, hiz, newVar, newRow]
      · show (g.io.l ++ [w.heap.size])[H.length]? = _
        rw [← hi.len]
        simp [G.ι]
theorem rg_ok {t : TypeId} {p : PV} {u : Value} {out : Out PV} {tm : Array Value} (d : Option Tmp) (hu : P.underlying t = some .string) (h : rg p H = some out) (hi : Inv g H w) (ht : TOk x g env tm) (hp : RepT g L p u) : ValOk P x g w env tm d (Instr.range t u) out := by
  cases p with
  | str s =>
    obtain rfl := hp.str
    unfold rg at h
    dsimp only at h
    simp only [Option.some.injEq] at h
    subst h
    have hpu := Pushed.alloc w (.stringIter s 0)
    have r1 := hi.pushBox (s := 0) (y := .iter s 0) hpu ⟨hi.ow_new, hi.im_new, hpu.new⟩
    refine ⟨.pointer (some ⟨w.heap.size, 0, none⟩), _, _, ?_, Glob.pushBox hi hpu, r1, ht.mono (u0s _ _ _ (.inl hi.z_new)) (fun L h => h), fun t' _ => rT (.ptr ?_) _⟩
    · simp [Instr.range, run_underlying hu]
    · show (g.io.l ++ [w.heap.size])[H.length]? = _
      rw [← hi.len]
      simp [G.ι]
  | _ => (unfold rg at h; exact nomatch h)
end Go.Proofs.YtjcffopjohkmaaaDoor.Pi
namespace Go.Proofs.YtjcffopjohkmaaaDoor.Pi
variable {P : Program} {g : G} {L L' : Owner} {w w' : World} {H : Heap} {x : Nat} {env : Env}
def mvTC (s id o : Nat) : Owner → Owner
  | .tmp t => if t = s then .cell id o else .tmp t
  | M => M
theorem u2k {o : Nat} {nc cs : List PV} (h : o + nc.length ≤ cs.length) (k : Nat) : (fillAt o nc cs)[k]? = if o ≤ k ∧ k < o + nc.length then nc[k - o]? else cs[k]? := by
  unfold fillAt
  rw [List.append_assoc]
  by_cases h1 : k < o
  · rw [List.getElem?_append_left (by simp; omega), List.getElem?_take, if_pos h1, if_neg (by omega)]
  · rw [List.getElem?_append_right (by simp; omega)]
    have ht : (cs.take o).length = o := by simp; omega
    rw [ht]
    by_cases h2 : k < o + nc.length
    · rw [if_pos ⟨by omega, h2⟩, List.getElem?_append_left (by omega)]
    · rw [if_neg (by omega), List.getElem?_append_right (by omega), List.getElem?_drop]
      congr 1
      omega
theorem u2r {o : Nat} {nc cs : List PV} (h : o + nc.length ≤ cs.length) : (fillAt o nc cs).length = cs.length := by
  unfold fillAt
  simp
  omega
theorem u2m {o : Nat} {nv : List Value} {vs : Array Value} (h : o + nv.length ≤ vs.size) (k : Nat) :
    ((vs.toList.take o ++ nv ++ vs.toList.drop (o + nv.length)).toArray)[k]? = if o ≤ k ∧ k < o + nv.length then nv[k - o]? else vs[k]? := by
  rw [List.getElem?_toArray, List.append_assoc]
  by_cases h1 : k < o
  · rw [List.getElem?_append_left (by simp; omega), List.getElem?_take, if_pos h1, if_neg (by omega)]
    simp
  · rw [List.getElem?_append_right (by simp; omega)]
    have ht : (vs.toList.take o).length = o := by simp; omega
    rw [ht]
    by_cases h2 : k < o + nv.length
    · rw [if_pos ⟨by omega, h2⟩, List.getElem?_append_left (by omega)]
    · rw [if_neg (by omega), List.getElem?_append_right (by omega), List.getElem?_drop]
      simp
      congr 1
      omega
theorem uj0 {id b o : Nat} {cs nc : List PV} {nv : List Value} {vs : Array Value} {T : TypeId} {f : Owner → Owner} (hi : Inv g H w) (hy : H[id]? = some (.cells cs)) (hb : g.ι[id]? = some b)
    (h1 : g.ow b = none) (h2 : ∀ k, g.im b k = none) (h3 : w.heap[b]? = some (.cells vs T (0, 0))) (h4 : cs.length ≤ vs.size ∧ g.io.z b = some vs.size)
    (h5 : ∀ (k : Nat) (c : PV) (v : Value), cs[k]? = some c → vs[k]? = some v → RepS g (.cell id k) c v ∧ isCell c = true ∧ lowB g.N id c = true)
    (hf : ∀ i k, f (.cell i k) = .cell i k) (hup : ∀ M, f (.up M) = .up M) (hl : nc.length = nv.length) (hfit : o + nc.length ≤ cs.length)
    (hn : ∀ (j : Nat) (c : PV) (v : Value), nc[j]? = some c → nv[j]? = some v → RepS (g.ren f) (.cell id (o + j)) c v ∧ isCell c = true ∧ lowB g.N id c = true) :
    Inv (g.ren f) (H.set id (.cells (fillAt o nc cs))) (w.setRow b (vs.toList.take o ++ nv ++ vs.toList.drop (o + nv.length)).toArray) ∧
    Glob g w (g.ren f) (w.setRow b (vs.toList.take o ++ nv ++ vs.toList.drop (o + nv.length)).toArray) := by
  have hid : id < H.length := (List.getElem?_eq_some_iff.mp hy).1
  have hbm : b ∈ g.ι := List.mem_of_getElem? hb
  have hoth : ∀ {k : Nat}, k ≠ b → (w.setRow b (vs.toList.take o ++ nv ++ vs.toList.drop (o + nv.length)).toArray).heap[k]? = w.heap[k]? := fun hk => setRow_other w b _ _ hk
  have hsz : (w.setRow b (vs.toList.take o ++ nv ++ vs.toList.drop (o + nv.length)).toArray).heap.size = w.heap.size := by simp [World.setRow]
  have h40 := h4.1
  refine ⟨⟨by have := hi.len; simp [G.ren, G.ι] at this ⊢; exact this, fun i j b hi' hj' li lj => hi.nd i j b hi' hj' (u3s hy (by simp) (by simp) li) (u3s hy (by simp) (by simp) lj), fun b' k v hv => ?_, fun b' M s hb' => ?_, fun id' b' y' hb' hy' => ?_, hi.gl, fun b' s hb' => by rw [hsz]; exact hi.zl b' s hb', fun n hn => by have := hi.nn n hn; simpa using this⟩, ⟨rfl, rfl, rfl, by rw [hsz]; omega, fun b' hb' e1 e2 => ⟨ren_none.mpr e1, e2, hoth (fun e => e2 (e ▸ hbm))⟩, (u1a (w := w) hup).up⟩⟩
  · have hv : g.im b' k = some v := hv
    have hne : b' ≠ b := fun e => by subst e; have := h2 k; rw [this] at hv; cases hv
    have := hi.im b' k v hv
    simp only [World.cell?] at this ⊢
    rw [hoth hne]
    exact this
  · simp only [G.ren, Option.map_eq_some_iff] at hb'
    obtain ⟨⟨M', s'⟩, e1, e2⟩ := hb'
    simp only [Prod.mk.injEq] at e2
    obtain ⟨_, rfl⟩ := e2
    have hne : b' ≠ b := fun e => by subst e; rw [h1] at e1; cases e1
    rw [hoth hne]
    exact hi.ow b' M' s' e1
  · by_cases e : id = id'
    · subst e
      rw [List.getElem?_set_self hid] at hy'
      simp only [Option.some.injEq] at hy'
      subst hy'
      obtain rfl : b = b' := by
        have : g.ι[id]? = some b' := hb'
        rw [hb] at this
        exact Option.some.inj this
      refine ⟨ren_none.mpr h1, h2, _, T, setRow_heap w b vs _ T _ h3, ⟨by rw [u2r hfit]; simp; omega, by show g.io.z b = _; rw [h4.2]; simp; omega⟩, fun k c v hc hv => ?_⟩
      rw [u2k hfit] at hc
      rw [u2m (by omega)] at hv
      rw [← hl] at hv
      split at hc
      · rename_i hk
        rw [if_pos hk] at hv
        have := hn (k - o) c v hc hv
        rwa [show o + (k - o) = k by omega] at this
      · rename_i hk
        rw [if_neg hk] at hv
        obtain ⟨a, r⟩ := h5 k c v hc hv
        exact ⟨a.ren (hf _ _), r⟩
    · rw [List.getElem?_set_ne e] at hy'
      by_cases hd : y' = .dead
      · subst hd
        have : b' < w.heap.size := hi.box id' b' _ hb' hy'
        show b' < _
        rw [hsz]
        exact this
      have hne : b' ≠ b := fun e' => by
        subst e'
        exact e (hi.nd id id' b' hb hb' (u1c hy (by simp)) (u1c hy' hd))
      exact ((hi.box id' b' y' hb' hy').ren (f := f) (hf id')).mono (Grow.refl _ _) (fun h => h) (fun h => h) (hoth hne) (by rw [hsz]; omega)
theorem st_run {t : TypeId} {b o : Nat} {vs : Array Value} {T : TypeId} {v : Value} (hk : known P t = true) (h3 : w.heap[b]? = some (.cells vs T (0, 0))) (hs : v.cells.size = tsize P t) (hfit : o + v.cells.size ≤ vs.size) (h1 : ∀ u ∈ v.cells.toList, u.oneCell' = true) :
    (Instr.storeAt t (.pointer (some ⟨b, o, none⟩)) v).run P w = .ok () (w.setRow b (vs.toList.take o ++ v.cells.toList ++ vs.toList.drop (o + v.cells.toList.length)).toArray) := by
  obtain ⟨d, hd⟩ := u1j hk
  obtain ⟨i, hi⟩ := u08 hd
  have hst := run_storeCells_at P b o T v.cells.toList 0 vs w h3 (by simpa using hfit) h1
  simp only [Nat.add_zero] at hst
  simp [Instr.storeAt, Instr.sureAddr, storeVar, u07 (w := w) hi, hs, hst]
theorem u2e {cs : List PV} (h : cs.all isCell = true) {j : Nat} {c : PV} (hj : cs[j]? = some c) : isCell c = true := List.all_eq_true.mp h c (List.mem_of_getElem? hj)
theorem u9l {p : PV} {v : Value} {s : Nat} (h : RepT g (.tmp s) p v) (hc : p.cells.all isCell = true) (id o : Nat) (hn : ∀ cs, p ≠ .agg cs) : RepS (g.ren (mvTC s id o)) (.cell id o) p v := by
  cases h with
  | one h =>
    refine h.ren ?_
    show (if s = s then _ else _) = _
    rw [if_pos rfl]
  | tup => simp [PV.cells, isCell] at hc
  | aggo => simp [PV.cells, isCell] at hc
theorem TOk.moveCell {tm : Array Value} (h : TOk x g env tm) (s id o : Nat) : TOk x (g.ren (mvTC s id o)) (env.set s (strip (env.getD s .undef))) tm := by
  have hl := h.len
  refine ⟨h.one, by simp [h.len], fun t u q hu hq => ?_, fun t q ht hq => ?_⟩
  · by_cases e : s = t
    · subst e
      have h2 : s < env.length := by
        have := (List.getElem?_eq_some_iff.mp hq).1
        simpa using this
      rw [List.getElem?_set_self h2] at hq
      simp only [Option.some.injEq] at hq
      subst hq
      have : env.getD s .undef = env[s] := by simp [List.getD, List.getElem?_eq_getElem h2]
      rw [this]
      exact (h.val s u _ hu (List.getElem?_eq_getElem h2)).stripRen _ _
    · rw [List.getElem?_set_ne e] at hq
      refine (h.val t u q hu hq).ren ?_ (fun j => rfl)
      show (if t = s then _ else _) = _
      rw [if_neg (fun h => e h.symm)]
  · have h3 := h.giveUp (some (s, none))
    exact h3.slot t q ht hq
def mvBC (s id : Nat) : Owner → Owner
  | .sub (.tmp t) j => if t = s then .cell id j else .sub (.tmp t) j
  | M => M
theorem TOk.moveBox {tm : Array Value} (h : TOk x g env tm) (s id : Nat) (hn : ∀ ps, env.getD s .undef ≠ .tup ps) : TOk x (g.ren (mvBC s id)) (env.set s (strip (env.getD s .undef))) tm := by
  have hl := h.len
  refine ⟨h.one, by simp [h.len], fun t u q hu hq => ?_, fun t q ht hq => ?_⟩
  · by_cases e : s = t
    · subst e
      have h2 : s < env.length := by
        have := (List.getElem?_eq_some_iff.mp hq).1
        simpa using this
      rw [List.getElem?_set_self h2] at hq
      simp only [Option.some.injEq] at hq
      subst hq
      have : env.getD s .undef = env[s] := by simp [List.getD, List.getElem?_eq_getElem h2]
      rw [this]
      exact (h.val s u _ hu (List.getElem?_eq_getElem h2)).stripRen _ _
    · rw [List.getElem?_set_ne e] at hq
      refine (h.val t u q hu hq).ren rfl (fun j => ?_)
      show (if t = s then _ else _) = _
      rw [if_neg (fun h => e h.symm)]
  · have h3 := h.giveUp (some (s, none))
    exact h3.slot t q ht hq
theorem RepT.aggoI {ps : List PV} {v : Value} (h : RepT g L (.aggo ps) v) : ∃ vs : Array Value, v = .agg vs ∧ vs.size = ps.length ∧ (∀ (j : Nat) (c : PV), ps[j]? = some c → isCell c = true) ∧ ∀ (j : Nat) (p : PV) (u : Value), ps[j]? = some p → vs[j]? = some u → RepS g (.sub L j) p u := by
  cases h with
  | one h => cases h with
    | pure h => cases h with
      | flat h => cases h
  | aggo a b c => exact ⟨_, rfl, a, b, c⟩
theorem bxO_ok {t : TypeId} {s : Nat} {a : Act} {out : Out PV} (d : Option Tmp) (h : bxO (tsize P t) (env.getD s .undef) H = some out) (hi : Inv g H w) (ht : TOk x g env a.tmps) : ValOk P x g w (giveUp env (some (s, none))) a.tmps d (Instr.box t (a.eval (.tmp s))) out := by
  have rX := ev_rep hi ht (.tmp s)
  have rX : RepT g (.tmp s) (env.getD s .undef) (a.eval (.tmp s)) := rX
  generalize hp : env.getD s .undef = p at h rX
  cases p with
  | aggo cs =>
    obtain ⟨vs, hv, h1, h2, h3⟩ := rX.aggoI
    rw [hv]
    unfold bxO at h
    dsimp only at h
    cases hc : (cs.length == tsize P t && (lowL (H.length + 1) cs && cs.all isCell)) with
    | false => rw [hc] at h; simp at h
    | true =>
      rw [hc] at h
      simp only [cond_true, Option.some.injEq] at h
      subst h
      simp only [Bool.and_eq_true, beq_iff_eq] at hc
      obtain ⟨_, hl, hce⟩ := hc
      have hi2 : Inv (g.ren (mvBC s H.length)) H w := hi.ren (fun _ _ => rfl)
      have hpu := Pushed.alloc w (.cells vs t)
      have r1 := hi2.pushBox (s := vs.size) (y := .cells cs) hpu ⟨hi2.ow_new, hi2.im_new, vs, t, hpu.new, ⟨by omega, by simp [G.box]⟩, fun o c v hc hv => by
        refine ⟨((h3 o c v hc hv).ren (f := mvBC s H.length) (L' := .cell H.length o) ?_).mono (u0s _ _ (fun _ => True) (.inl hi2.z_new)) trivial, h2 o c hc, u4z (u1k hl o c hc)⟩
        show (if s = s then _ else _) = _
        rw [if_pos rfl]⟩
      refine ⟨.pointer (some ⟨w.heap.size, 0, none⟩), _, _, ?_, (u1a (w := w) (fun M => rfl)).trans (Glob.pushBox hi2 hpu), r1, ((ht.moveBox s H.length (by rw [hp]; intro ps e; cases e)).mono (u0s _ _ _ (.inl hi2.z_new)) (fun L h => h)), fun t' _ => rT (.ptr ?_) _⟩
      · simp [Instr.box, newVar, newRow, Value.cells]
      · show (g.io.l ++ [w.heap.size])[H.length]? = _
        rw [← hi.len]
        simp [G.ι]
  | _ =>
    exact bx_ok (env := giveUp env (some (s, none))) d h hi (ht.giveUp _) rX
def UnitOk (P : Program) (x : Nat) (g : G) (w : World) (env' : Env) (tm : Array Value) (s : Sem Unit) : Out PV → Prop
  | .ok v H' => ∃ w' g', v = .undef ∧ s.run P w = .ok () w' ∧ Glob g w g' w' ∧ Inv g' H' w' ∧ TOk x g' env' tm
  | .pan _ _ => False
def isTmpO : Operand → Bool
  | .tmp _ => true
  | _ => false
def srcO : Operand → Option (Tmp × Option Nat)
  | .tmp s => some (s, none)
  | _ => none
theorem st_ok {es : Bool} {t : TypeId} {a : Act} {A X : Operand} {out : Out PV} (hN : es = true → g.N = none) (hk : known P t = true) (h : stG es (tsize P t) (isTmpO X) (ev env A) (ev env X) H = some out) (hi : Inv g H w) (ht : TOk x g env a.tmps) :
    UnitOk P x g w (giveUp env (srcO X)) a.tmps (Instr.storeAt t (a.eval A) (a.eval X)) out := by
  have rA := ev_rep hi ht A
  have rX := ev_rep hi ht X
  unfold stG at h
  generalize hpa : ev env A = pa at h rA
  cases pa with
  | ptr id o =>
    dsimp only at h
    obtain ⟨b, hb, hva⟩ := rA.ptr
    rw [hva]
    cases hy : H[id]? with
    | none => simp only [hy] at h; simp at h
    | some y =>
      simp only [hy] at h
      cases y with
      | cells cs =>
        simp only at h
        obtain ⟨b', hb', hbox⟩ := hi.boxAt hy
        obtain rfl : b = b' := by rw [hb] at hb'; exact Option.some.inj hb'
        obtain ⟨h1, h2, vs, T, h3, h4, h5⟩ := hbox
        cases hc : ((ev env X).cells.length == tsize P t && (decide (o + tsize P t ≤ cs.length) && ((es || lowL (id + 1) (ev env X).cells) && (ev env X).cells.all isCell))) with
        | false => rw [hc] at h; simp at h
        | true =>
          rw [hc] at h
          simp only [cond_true, Option.some.injEq] at h
          subst h
          simp only [Bool.and_eq_true, beq_iff_eq, decide_eq_true_eq] at hc
          obtain ⟨hs, hfit, hlow0, hcell⟩ := hc
          have hlow : ∀ (j : Nat) (c : PV), (ev env X).cells[j]? = some c → lowB g.N id c = true := by
            intro j c hj
            cases es
            · exact u4z (u1k (by simpa using hlow0) j c hj)
            · rw [hN rfl]; rfl
          have h40 := h4.1
          obtain ⟨c1, c2⟩ := u26 rX hcell
          have hone : ∀ u ∈ (a.eval X).cells.toList, u.oneCell' = true := by
            intro u hu
            obtain ⟨j, hj, rfl⟩ := List.getElem_of_mem hu
            have hj2 : j < (ev env X).cells.length := by simp at hj; omega
            exact u1o (c2 j _ _ (List.getElem?_eq_getElem hj2) (by simp at hj ⊢)) (u2e hcell (List.getElem?_eq_getElem hj2))
          have hrun := st_run (P := P) (w := w) (o := o) (v := a.eval X) hk h3 (by omega) (by omega) hone
          -- what is laid down
          have finish : ∀ (f : Owner → Owner) (nc : List PV), (∀ i k, f (.cell i k) = .cell i k) → (∀ M, f (.up M) = .up M) → nc.length = (ev env X).cells.length → TOk x (g.ren f) (giveUp env (srcO X)) a.tmps →
              (∀ (j : Nat) (c : PV) (v : Value), nc[j]? = some c → (a.eval X).cells.toList[j]? = some v → RepS (g.ren f) (.cell id (o + j)) c v ∧ isCell c = true ∧ lowB g.N id c = true) →
              UnitOk P x g w (giveUp env (srcO X)) a.tmps (Instr.storeAt t (.pointer (some ⟨b, o, none⟩)) (a.eval X)) (.ok .undef (H.set id (.cells (fillAt o nc cs)))) := by
            intro f nc f1 f2 hnl htk hn
            obtain ⟨r1, r2⟩ := uj0 (nc := nc) (nv := (a.eval X).cells.toList) hi hy hb h1 h2 h3 h4 h5 f1 f2 (by simp; omega) (by omega) hn
            exact ⟨_, _, rfl, hrun, r2, r1, htk⟩
          cases X with
          | tmp s =>
            simp only [isTmpO, cond_true]
            refine finish (mvTC s id o) _ (fun _ _ => rfl) (fun _ => rfl) rfl (ht.moveCell s id o) (fun j c v hj hv => ?_)
            refine ⟨?_, u2e hcell hj, hlow j c hj⟩
            by_cases hag : ∃ l, ev env (.tmp s) = .agg l
            · obtain ⟨l, hl⟩ := hag
              have := c2 j c v hj (by simpa using hv)
              rw [hl] at rX
              obtain ⟨us, e1, _, _, e4⟩ := rX.agg
              rw [e1] at hv
              rw [hl] at hj
              exact .pure (e4 j c v hj (by simpa [Value.cells] using hv))
            · have hsc := u9l (s := s) rX hcell id o (fun l e => hag ⟨l, e⟩)
              have e1 : (ev env (.tmp s)).cells = [ev env (.tmp s)] := by
                generalize ev env (.tmp s) = q at hag
                cases q <;> first | rfl | exact absurd ⟨_, rfl⟩ hag
              have hv1 := u1o hsc (by rw [e1] at hcell; simpa using hcell)
              have e2 : (a.eval (.tmp s)).cells = #[a.eval (.tmp s)] := by
                generalize a.eval (.tmp s) = v at hv1
                cases v <;> first | rfl | simp [Value.oneCell'] at hv1
              rw [e1] at hj
              rw [e2] at hv
              have hj0 : j = 0 := by
                have := (List.getElem?_eq_some_iff.mp hj).1
                simp at this
                omega
              subst hj0
              simp at hj hv
              subst hj; subst hv
              exact hsc
          | const cv =>
            simp only [isTmpO, cond_false]
            refine finish (fun M => M) _ (fun _ _ => rfl) (fun _ => rfl) (by simp) (u4g (fun _ => rfl) (fun _ _ => rfl) ht) (fun j c v hj hv => ?_)
            obtain ⟨q1, q2⟩ := u22 (vs := (a.eval (.const cv)).cells) c2 hcell j c v hj (by simpa using hv)
            refine ⟨.pure q1, q2, ?_⟩
            simp only [List.getElem?_map, Option.map_eq_some_iff] at hj
            obtain ⟨q, hq, rfl⟩ := hj
            rw [u2z]
            exact hlow j q hq
          | global cv =>
            simp only [isTmpO, cond_false]
            refine finish (fun M => M) _ (fun _ _ => rfl) (fun _ => rfl) (by simp) (u4g (fun _ => rfl) (fun _ _ => rfl) ht) (fun j c v hj hv => ?_)
            obtain ⟨q1, q2⟩ := u22 (vs := (a.eval (.global cv)).cells) c2 hcell j c v hj (by simpa using hv)
            refine ⟨.pure q1, q2, ?_⟩
            simp only [List.getElem?_map, Option.map_eq_some_iff] at hj
            obtain ⟨q, hq, rfl⟩ := hj
            rw [u2z]
            exact hlow j q hq
          | func cv =>
            simp only [isTmpO, cond_false]
            refine finish (fun M => M) _ (fun _ _ => rfl) (fun _ => rfl) (by simp) (u4g (fun _ => rfl) (fun _ _ => rfl) ht) (fun j c v hj hv => ?_)
            obtain ⟨q1, q2⟩ := u22 (vs := (a.eval (.func cv)).cells) c2 hcell j c v hj (by simpa using hv)
            refine ⟨.pure q1, q2, ?_⟩
            simp only [List.getElem?_map, Option.map_eq_some_iff] at hj
            obtain ⟨q, hq, rfl⟩ := hj
            rw [u2z]
            exact hlow j q hq
      | iter s pos => simp at h
      | dead => simp at h
  | _ => exact nomatch h
end Go.Proofs.YtjcffopjohkmaaaDoor.Pi
