/- What the law rests on, part 1 of 4: a reading of the program's code over told data, and what it comes to. -/
import Derived.Defers
import Derived.Deep.Draws
import Derived.Orders
import Derived.Laws.AppendOwn
import Derived.Laws.StructEq
import Derived.Laws.MakeOwn
import Derived.Laws.Pointers
import Derived.Great.FillDense
import Derived.Laws.BytesArg
import Derived.Recover
import Derived.Below
import Derived.ChangeSlices
import Derived.SizedLaws
import Derived.KernelRfl
import Derived.Test.YtiiepllnnjjmaaaDoorChecked
import Derived.ChangeArms
set_option linter.unusedVariables false
set_option linter.unusedSimpArgs false
set_option maxRecDepth 100000
namespace Go.Proofs.YtiiepllnnjjmaaaDoor.Pi
inductive PV where
  | int (k : IntKind) (n : Int)
  | bool (b : Bool)
  | str (s : ByteArray)
  | nil
  | ptr (id off : Nat)
  | elem (cs : List PV)
  | slice (own z : Bool) (sz : Nat) (xs : List PV)
  | fn (f : FuncId) (first caps : List PV)
  | nilfn
  | iface (t : TypeId) (v : PV)
  | niliface
  | agg (cs : List PV)
  | tup (vs : List PV)
  | aggo (cs : List PV)
  | undef
  deriving Inhabited
inductive Box where
  | cells (cs : List PV)
  | iter (s : ByteArray) (pos : Nat)
  | dead
abbrev Heap := List Box
inductive Out (α : Type) where
  | ok (a : α) (H : Heap)
  | pan (v : PV) (H : Heap)
def M (α : Type) := Heap → Option (Out α)
namespace M
def bind {α β : Type} (m : M α) (f : α → M β) : M β := fun H =>
  match m H with
  | none => none
  | some (.ok a H') => f a H'
  | some (.pan v H') => some (.pan v H')
def pure {α : Type} (a : α) : M α := fun H => some (.ok a H)
def fail {α : Type} : M α := fun _ => none
def pan {α : Type} (v : PV) : M α := fun H => some (.pan v H)
end M
def PV.cells : PV → List PV
  | .agg cs => cs
  | v => [v]
def isCell : PV → Bool
  | .agg _ | .tup _ | .aggo _ | .undef => false
  | _ => true
def stripC : PV → PV
  | .slice _ z sz xs => .slice false z sz xs
  | v => v
def strip : PV → PV
  | .slice _ z sz xs => .slice false z sz xs
  | .tup vs => .tup (vs.map stripC)
  | .aggo cs => .agg (cs.map stripC)
  | v => v
mutual
def PV.low (n : Nat) : PV → Bool
  | .ptr id _ => decide (id < n)
  | .fn _ a b => lowL n a && lowL n b
  | .iface _ v => v.low n
  | .agg cs => lowL n cs
  | .tup vs => lowL n vs
  | .aggo vs => lowL n vs
  | _ => true
def lowL (n : Nat) : List PV → Bool
  | [] => true
  | v :: r => v.low n && lowL n r
end
mutual
def PV.flat : PV → Bool
  | .int .. | .bool _ | .str _ => true
  | .slice o _ _ _ => !o
  | .agg cs => flatL cs
  | .nil | .niliface | .nilfn => true
  | _ => false
def flatL : List PV → Bool
  | [] => true
  | v :: r => v.flat && flatL r
end
def ofVC : Value → Option PV
  | .int k n => some (.int k n)
  | .bool b => some (.bool b)
  | .string s => some (.str s)
  | .pointer none => some .nil
  | .slice none 0 0 => some (.slice false true 0 [])
  | .nilFunc => some .nilfn
  | .nilIface => some .niliface
  | _ => none
def ofVs : List Value → Option (List PV)
  | [] => some []
  | v :: r => match ofVC v, ofVs r with
    | some a, some b => some (a :: b)
    | _, _ => none
def ofV : Value → PV
  | .agg cs => match ofVs cs.toList with
    | some l => .agg l
    | none => .undef
  | .func (.func f) a b => bif a.size == 0 && b.size == 0 then .fn f [] [] else .undef
  | v => (ofVC v).getD .undef
def tsize (P : Program) (t : TypeId) : Nat := ((P.info? t).map (·.size)).getD 0
def tbytes (P : Program) (t : TypeId) : Nat := ((P.info? t).map (·.bytes)).getD 0
def tzero (P : Program) (t : TypeId) : PV := (((P.info? t).bind (·.zero)).map ofV).getD .undef
def tagg (P : Program) (t : TypeId) : Option Nat :=
  match P.underlying t with
  | some (.struct _) | some (.array _ _) => some (tsize P t)
  | _ => none
def nilDeref (P : Program) : PV := .iface P.rt.errorString (.str "invalid memory address or nil pointer dereference".toUTF8)
def u29 {α : Type} : M α := M.fail
def gd (c : PV) (want : Bool) (m : M PV) : M PV :=
  match c with
  | .bool b => bif b == want then m else M.pure (.tup [])
  | .tup [] => M.pure (.tup [])
  | _ => M.fail
def condM {α : Type} (c : PV) (x y : M α) : M α :=
  match c with
  | .bool b => bif b then x else y
  | _ => M.fail
def pick (c a b : PV) : M PV :=
  match c with
  | .bool t => M.pure (bif t then strip a else strip b)
  | _ => M.fail
def al (cs : List PV) : M PV := fun H => bif cs.all isCell then some (.ok (.ptr H.length 0) (H ++ [.cells cs])) else none
def bx (n : Nat) (v : PV) : M PV := fun H =>
  bif (v.cells.map stripC).length == n && (lowL (H.length + 1) (v.cells.map stripC) && v.cells.all isCell) then some (.ok (.ptr H.length 0) (H ++ [.cells (v.cells.map stripC)])) else none
def fillAt (off : Nat) (vs cs : List PV) : List PV := cs.take off ++ vs ++ cs.drop (off + vs.length)
def u39 : List (Nat × Nat × PV) → List PV → Option (List PV)
  | [], cs => some cs
  | (off, size, v) :: r, cs => bif v.cells.length == size && (decide (off + size ≤ cs.length) && v.cells.all isCell) then u39 r (fillAt off (v.cells.map stripC) cs) else none
def bd (zero : List PV) (parts : List (Nat × Nat × PV)) : M PV :=
  match u39 parts zero with
  | some cs => M.pure (.agg cs)
  | none => M.fail
def bdO (zero : List PV) (off size : Nat) (v : PV) : M PV :=
  match v with
  | .slice true _ _ _ => bif decide (off + 1 ≤ zero.length) && size == 1 then M.pure (.aggo (fillAt off [v] zero)) else M.fail
  | _ => bd zero [(off, size, v)]
def bxO (n : Nat) (v : PV) : M PV :=
  match v with
  | .aggo cs => fun H => bif cs.length == n && (lowL (H.length + 1) cs && cs.all isCell) then some (.ok (.ptr H.length 0) (H ++ [.cells cs])) else none
  | _ => bx n v
def u1i (a : Option Nat) (v : PV) : Bool :=
  v.flat && match a with
  | some n => (match v with | .agg cs => cs.length == n | _ => false)
  | none => (match v with | .agg _ => false | _ => true)
def bs (own : Bool) (a : Option Nat) (vs : List PV) : M PV :=
  bif (vs.map stripC).all (u1i a) then M.pure (.slice own false (a.getD 1) (vs.map stripC)) else M.fail
def fa (off : Nat) : PV → M PV
  | .ptr id o => M.pure (.ptr id (o + off))
  | .elem cs => M.pure (.elem (cs.drop off))
  | _ => M.fail
def fd (off : Nat) (n : Option Nat) : PV → M PV
  | .agg cs => match n with
    | none => match cs[off]? with
      | some v => M.pure (stripC v)
      | none => M.fail
    | some n => bif decide (off + n ≤ cs.length) then M.pure (.agg ((cs.drop off).take n)) else M.fail
  | _ => M.fail
def ld (n : Option Nat) (mv : Bool) : PV → M PV
  | .ptr id o => fun H => match H[id]? with
    | some (.cells cs) => match n with
      | none => match cs[o]? with
        | some v => bif mv then some (.ok v (H.set id (.cells (cs.set o (stripC v))))) else some (.ok (stripC v) H)
        | none => none
      | some n => bif decide (o + n ≤ cs.length) then some (.ok (.agg (((cs.drop o).take n).map stripC)) H) else none
    | _ => none
  | .elem cs => match n with
    | none => match cs[0]? with
      | some v => M.pure v
      | none => M.fail
    | some n => bif decide (n ≤ cs.length) then M.pure (.agg (cs.take n)) else M.fail
  | _ => M.fail
def st (n : Nat) (mv : Bool) (a v : PV) : M PV :=
  match a with
  | .ptr id o => fun H => match H[id]? with
    | some (.cells cs) =>
      bif v.cells.length == n && (decide (o + n ≤ cs.length) && (lowL (id + 1) v.cells && v.cells.all isCell)) then
        some (.ok .undef (H.set id (.cells (fillAt o (bif mv then v.cells else v.cells.map stripC) cs))))
      else none
    | _ => none
  | _ => M.fail
def iaA (len sz : Nat) (a i : PV) : M PV :=
  match a, i with
  | .ptr id o, .int _ n => bif decide (0 ≤ n) && decide (n < len) then M.pure (.ptr id (o + n.toNat * sz)) else u29
  | .elem cs, .int _ n => bif decide (0 ≤ n) && decide (n < len) then M.pure (.elem (cs.drop (n.toNat * sz))) else u29
  | _, _ => M.fail
def iaS (sz : Nat) (a i : PV) : M PV :=
  match a, i with
  | .slice _ _ sx xs, .int _ n => bif decide (0 ≤ n) && sx == sz then (match xs[n.toNat]? with | some x => M.pure (.elem x.cells) | none => u29) else u29
  | _, _ => M.fail
def ixS (s i : PV) : M PV :=
  match s, i with
  | .str s, .int _ n => bif decide (0 ≤ n) then (match s.data.toList[n.toNat]? with | some b => M.pure (.int .u8 b.toNat) | none => u29) else u29
  | _, _ => M.fail
def ixA (len sz : Nat) (a : Option Nat) (v i : PV) : M PV :=
  match v, i with
  | .agg cs, .int _ n => bif decide (0 ≤ n) && decide (n < len) then fd (n.toNat * sz) a (.agg cs) else u29
  | _, _ => M.fail
def bnd (d : Nat) : Option PV → Option Nat
  | none => some d
  | some (.int _ n) => bif decide (0 ≤ n) then some n.toNat else none
  | _ => none
def slL (se : Nat) (x : PV) (lo hi : Option PV) : M PV :=
  match x with
  | .slice _ z sz xs =>
    match bnd xs.length hi, bnd 0 lo with
    | some h, some l => bif (z || sz == se) && (decide (l ≤ h) && decide (h ≤ xs.length)) then M.pure (.slice false z sz ((xs.take h).drop l)) else M.fail
    | _, _ => M.fail
  | _ => M.fail
def slH (own : Bool) (n id : Nat) (H : Heap) : Option Box → Option Nat → Option (Out PV)
  | some (.cells cs), some h => bif decide (h ≤ n) && (cs.length == n && (cs.map stripC).all (u1i none)) then some (.ok (.slice own false 1 ((cs.map stripC).take h)) (H.set id .dead)) else none
  | _, _ => none
def slA (own : Bool) (n : Nat) (a : PV) (hi : Option PV) : M PV :=
  match a with
  | .ptr id 0 => fun H => slH own n id H H[id]? (bnd n hi)
  | _ => M.fail
def slS (x : PV) (lo hi : Option PV) : M PV :=
  match x with
  | .str s =>
    match bnd s.size hi, bnd 0 lo with
    | some h, some l => bif decide (l ≤ h) && decide (h ≤ s.size) then M.pure (.str (s.extract l h)) else M.fail
    | _, _ => M.fail
  | _ => M.fail
def shiftN (k : IntKind) (y : Int) : Nat := min y.toNat k.bits
def intOp (op : BinOp) (k : IntKind) (a b : Int) : M PV :=
  match op with
  | .add => M.pure (.int k (k.wrap (a + b)))
  | .sub => M.pure (.int k (k.wrap (a - b)))
  | .mul => M.pure (.int k (k.wrap (a * b)))
  | .quo => bif b == 0 then M.fail else M.pure (.int k (k.wrap (a.tdiv b)))
  | .rem => bif b == 0 then M.fail else M.pure (.int k (a.tmod b))
  | .and => M.pure (.int k (k.wrap (BitVec.ofInt k.bits a &&& BitVec.ofInt k.bits b).toNat))
  | .or => M.pure (.int k (k.wrap (BitVec.ofInt k.bits a ||| BitVec.ofInt k.bits b).toNat))
  | .xor => M.pure (.int k (k.wrap (BitVec.ofInt k.bits a ^^^ BitVec.ofInt k.bits b).toNat))
  | .andNot => M.pure (.int k (k.wrap (BitVec.ofInt k.bits a &&& ~~~ BitVec.ofInt k.bits b).toNat))
  | .eql => M.pure (.bool (a == b))
  | .neq => M.pure (.bool (a != b))
  | .lss => M.pure (.bool (decide (a < b)))
  | .leq => M.pure (.bool (decide (a ≤ b)))
  | .gtr => M.pure (.bool (decide (a > b)))
  | .geq => M.pure (.bool (decide (a ≥ b)))
  | _ => M.fail
def strOp (op : BinOp) (a b : ByteArray) : M PV :=
  match op with
  | .add => bif decide (((a.size + b.size : Nat) : Int) ≤ IntKind.i64.max) then M.pure (.str (a ++ b)) else M.fail
  | .eql => M.pure (.bool (a.toList == b.toList))
  | .neq => M.pure (.bool (!(a.toList == b.toList)))
  | .lss => M.pure (.bool (Op.bytesLess a.toList b.toList))
  | .leq => M.pure (.bool (Op.bytesLess a.toList b.toList || a.toList == b.toList))
  | .gtr => M.pure (.bool (!(Op.bytesLess a.toList b.toList || a.toList == b.toList)))
  | .geq => M.pure (.bool (!(Op.bytesLess a.toList b.toList)))
  | _ => M.fail
inductive SK where
  | int | bool | str
def skOf (P : Program) (t : TypeId) : Option SK :=
  match P.underlying t with
  | some (.int _) => some .int
  | some .bool => some .bool
  | some .string => some .str
  | _ => none
def u18 : SK → PV → PV → Option Bool
  | .int, .int k a, .int k' b => bif decide (k = k') then some (a == b) else none
  | .bool, .bool a, .bool b => some (a == b)
  | .str, .str a, .str b => some (a == b)
  | _, _, _ => none
def u12 : List SK → List PV → List PV → Option Bool
  | [], [], [] => some true
  | k :: ks, a :: x, b :: y => match u18 k a b with
    | some true => u12 ks x y
    | some false => some false
    | none => none
  | _, _, _ => none
inductive EqK where
  | bool | ptr | slice | func | iface | struct (ks : List SK) | none
def plainL (nest : TypeId → Option (List SK)) (P : Program) : Nat → List Field → Option (List SK)
  | _, [] => some []
  | i, f :: r => bif f.offset == i && f.name != "_" then
      match skOf P f.type with
      | some k => match plainL nest P (i + 1) r with
        | some ks => some (k :: ks)
        | none => none
      | none => match nest f.type with
        | some ks => match plainL nest P (i + ks.length) r with
          | some ks' => some (ks ++ ks')
          | none => none
        | none => none
    else none
def plainN (P : Program) : Nat → TypeId → Option (List SK)
  | 0, _ => none
  | n + 1, t => match P.underlying t with
    | some (.struct fs) => bif !P.stoodInHeld t && !P.eqGuardType P.depth t then
        match plainL (plainN P n) P 0 fs.toList with
        | some ks => bif ks.length == tsize P t then some ks else none
        | none => none
      else none
    | _ => none
def eqKind (P : Program) (t : TypeId) (c : Bool) : EqK :=
  match P.underlying t with
  | some .bool => .bool
  | some (.pointer _) => .ptr
  | some (.slice _) => .slice
  | some (.func ..) => .func
  | some (.interface _) => bif c then .iface else .none
  | some (.struct fs) => bif !P.stoodInHeld t && !P.eqGuardType P.depth t then (match plainL (plainN P 4) P 0 fs.toList with | some ks => .struct ks | none => .none) else .none
  | _ => .none
def eqPV : EqK → PV → PV → Option Bool
  | .bool, .bool a, .bool b => some (a == b)
  | .ptr, .nil, .nil => some true
  | .ptr, .ptr _ _, .nil | .ptr, .nil, .ptr _ _ => some false
  | .slice, .slice _ z _ _, .slice _ true _ _ => some z
  | .slice, .slice _ true _ _, .slice _ z _ _ => some z
  | .func, .nilfn, .nilfn => some true
  | .func, .fn .., .nilfn | .func, .nilfn, .fn .. => some false
  | .iface, .niliface, .niliface => some true
  | .iface, .iface .., .niliface | .iface, .niliface, .iface .. => some false
  | .struct ks, .agg x, .agg y => u12 ks x y
  | _, _, _ => none
def bi (op : BinOp) (ek : EqK) (x y : PV) : M PV :=
  match op, x, y with
  | .shl, .int k a, .int _ b => bif decide (b < 0) then M.fail else M.pure (.int k (k.wrap (a * 2 ^ shiftN k b)))
  | .shr, .int k a, .int _ b => bif decide (b < 0) then M.fail else M.pure (.int k (a.fdiv (2 ^ shiftN k b)))
  | op, .int k a, .int k' b => bif decide (k = k') then intOp op k a b else M.fail
  | op, .str a, .str b => strOp op a b
  | .eql, x, y => match eqPV ek x y with | some b => M.pure (.bool b) | none => M.fail
  | .neq, x, y => match eqPV ek x y with | some b => M.pure (.bool (!b)) | none => M.fail
  | _, _, _ => M.fail
def un (op : UnOp) (x : PV) : M PV :=
  match op, x with
  | .neg, .int k n => intOp .sub k 0 n
  | .xor, .int k n => intOp .xor k (if k.signed then -1 else k.max) n
  | .not, .bool b => M.pure (.bool (!b))
  | _, _ => M.fail
def nc (P : Program) (x : PV) : M PV :=
  match x with
  | .nil | .niliface | .nilfn => M.pan (nilDeref P)
  | .ptr .. | .elem _ | .fn .. | .iface .. => M.pure x
  | _ => M.fail
inductive Cv where
  | int (k : IntKind) | same | bytesToStr | strToBytes (e : TypeId) | runeToStr | none
def cvKind (P : Program) (src dst : TypeId) : Cv :=
  match P.underlying src, P.underlying dst with
  | some (.int _), some (.int k) => .int k
  | some .string, some .string => .same
  | some (.int _), some .string => .runeToStr
  | some .string, some (.slice e) => match P.underlying e with
    | some (.int .u8) => .strToBytes e
    | _ => .none
  | some (.slice e), some .string => match P.underlying e with
    | some (.int .u8) => .bytesToStr
    | _ => .none
  | _, _ => .none
def u58 : List PV → Option (List UInt8)
  | [] => some []
  | .int .u8 n :: r => (u58 r).map (UInt8.ofNat n.toNat :: ·)
  | _ => none
def cv (k : Cv) (own : Bool) (x : PV) : M PV :=
  match k, x with
  | .int k, .int _ n => M.pure (.int k (k.wrap n))
  | .same, .str s => M.pure (.str s)
  | .bytesToStr, .slice _ _ _ xs => match u58 xs with
    | some l => M.pure (.str ⟨l.toArray⟩)
    | none => M.fail
  | .strToBytes _, .str s => M.pure (.slice false false 1 (s.data.toList.map fun b => .int .u8 b.toNat))
  | .runeToStr, .int _ n => M.pure (.str (Utf8.encode n))
  | _, _ => M.fail
def ex (i : Nat) : PV → M PV
  | .tup vs => match vs[i]? with
    | some v => M.pure v
    | none => M.fail
  | _ => M.fail
def tupDrop (i : Nat) : PV → PV
  | .tup vs => .tup (vs.set i (stripC (vs.getD i .undef)))
  | .aggo cs => .agg (cs.map stripC)
  | v => v
def isVal : PV → Bool
  | .undef | .tup _ | .aggo _ => false
  | _ => true
def mi (t : TypeId) (v : PV) : M PV := bif isVal v then M.pure (.iface t (stripC v)) else M.fail
def mf (f : FuncId) (first caps : List PV) : M PV := bif first.all isVal && caps.all isVal then M.pure (.fn f (first.map stripC) (caps.map stripC)) else M.fail
def ta (asserted : TypeId) (zero : PV) (commaOk : Bool) : PV → M PV
  | .iface t v => bif t == asserted then M.pure (bif commaOk then .tup [v, .bool true] else v) else bif commaOk then M.pure (.tup [zero, .bool false]) else M.fail
  | .niliface => bif commaOk then M.pure (.tup [zero, .bool false]) else M.fail
  | _ => M.fail
def lnS : PV → M PV
  | .str s => M.pure (.int .i64 s.size)
  | _ => M.fail
def lnL : PV → M PV
  | .slice _ _ _ xs => M.pure (.int .i64 xs.length)
  | _ => M.fail
def tail (sz : Nat) : PV → Option (List PV)
  | .slice _ z sy ys => bif z || sy == sz then some ys else none
  | .str s => bif sz == 1 then some (s.data.toList.map fun b => .int .u8 b.toNat) else none
  | _ => none
def growB (b : Nat) (n : Nat) : Bool := decide (n * max b 1 ≤ 140737488355328)
def ap (own : Bool) (sz b : Nat) (x y : PV) : M PV :=
  match x with
  | .slice o z sx xs => match tail sz y with
    | none => M.fail
    | some ys =>
      bif z then
        bif ys.isEmpty then M.pure (.slice false true sx []) else
        bif growB b ys.length then M.pure (.slice own false sz ys) else M.fail
      else bif o && (sx == sz && growB b (xs.length + ys.length)) then M.pure (.slice own false sz (xs ++ ys)) else M.fail
  | _ => M.fail
def mn (x y : PV) : M PV :=
  match x, y with
  | .int k a, .int k' b => bif decide (k = k') then M.pure (.int k (if b < a then b else a)) else M.fail
  | _, _ => M.fail
def mx (x y : PV) : M PV :=
  match x, y with
  | .int k a, .int k' b => bif decide (k = k') then M.pure (.int k (if b > a then b else a)) else M.fail
  | _, _ => M.fail
def mk (own : Bool) (sz b : Nat) (l c : PV) : M PV :=
  match l, c with
  | .int _ n, .int _ m => bif decide (n = 0) && (decide (0 ≤ m) && growB b m.toNat) then M.pure (.slice own false sz []) else M.fail
  | _, _ => M.fail
def rg : PV → M PV
  | .str s => fun H => some (.ok (.ptr H.length 0) (H ++ [.iter s 0]))
  | _ => M.fail
def nx : PV → M PV
  | .ptr id 0 => fun H => match H[id]? with
    | some (.iter s pos) =>
      bif decide (pos < s.size) then some (.ok (.tup [.bool true, .int .i64 pos, .int .i32 (Utf8.decode s pos).1]) (H.set id (.iter s (pos + (Utf8.decode s pos).2)))) else some (.ok (.tup [.bool false]) H)
    | _ => none
  | _ => M.fail
def pn : PV → M PV
  | .iface t v => M.pan (.iface t v)
  | _ => M.fail
end Go.Proofs.YtiiepllnnjjmaaaDoor.Pi
namespace Go.Proofs.YtiiepllnnjjmaaaDoor.Pi
def GT (b : Nat) : PV := .undef
theorem ug9 (b : Nat) : GT b = .undef ∨ ∃ cs, GT b = .elem cs := .inl rfl
end Go.Proofs.YtiiepllnnjjmaaaDoor.Pi
namespace Go.Proofs.YtiiepllnnjjmaaaDoor.Pi
abbrev Env := List PV
abbrev CallT := FuncId → List PV → M PV
inductive Ex where
  | normal | exit (id : Nat) | ret
abbrev K := Ex → Env → M PV
def ev (env : Env) : Operand → PV
  | .tmp t => env.getD t .undef
  | .const v => ofV v
  | .func f => .fn f [] []
  | .global b => GT b
def unm (ops : Array Oper) (t : Tmp) : Bool :=
  ops.any fun o => match o.op with
    | .assign (.tmp s) => s == t
    | .store _ _ (.tmp s) => s == t
    | .extract (.tmp s) _ => s == t
    | .call { callee := .builtin .append, args, .. } => match (args[0]? : Option Operand) with
      | some (.tmp s) => s == t
      | _ => false
    | _ => false
def moves (ops : Array Oper) (o : Oper) : Bool :=
  match o.op, o.dst with
  | .assign _, _ => true
  | .move _, some d | .load _ _, some d => unm ops d
  | _, _ => false
def guardM {α : Type} (b : Bool) (m : M α) : M α := bif b then m else M.fail
def known (P : Program) (t : TypeId) : Bool := (P.underlying t).isSome
def listOk (P : Program) (e : TypeId) : Bool :=
  known P e && (decide (0 < tsize P e) && ((tagg P e).getD 1 == tsize P e && match P.info? e with
    | some i => (match i.zero with | some z => z.cells.size == tsize P e | none => false)
    | none => false))
def u8e (P : Program) (t : TypeId) : Bool :=
  match P.underlying t with
  | some (.interface _) | none => false
  | _ => true
def callV (P : Program) (C : CallT) (f : PV) (args : List PV) : M PV :=
  match f with
  | .fn f first caps => C f (first ++ args ++ caps)
  | .nilfn => M.pan (nilDeref P)
  | _ => M.fail
def u6y (P : Program) (own : Bool) (b : Builtin) (tys : Array TypeId) (args : List PV) : M PV :=
  match b, args with
  | .len, [x] => match (tys[0]?).bind P.underlying with
    | some (.array n _) => M.pure (.int .i64 n)
    | some .string => lnS x
    | some (.slice _) => lnL x
    | _ => M.fail
  | .append, [x, y] => match (tys[0]?).bind P.underlying, (tys[1]?).bind P.underlying with
    | some (.slice e), some (.slice _) => guardM (listOk P e) (ap own (tsize P e) (tbytes P e) x y)
    | some (.slice e), some .string => guardM (listOk P e) (ap own (tsize P e) (tbytes P e) x y)
    | _, _ => M.fail
  | .min, [x, y] => mn x y
  | .max, [x, y] => mx x y
  | .panic, [x] => pn x
  | _, _ => M.fail
def recV (rc : Option (Option PV)) (env : Env) : PV :=
  match rc with
  | some (some v) => match env.getD (env.length - 1) .undef with
    | .tup [] => .niliface
    | _ => v
  | _ => .niliface
def single (ps : Array (Nat × Operand)) : Option (Nat × Tmp) :=
  match ps.toList with
  | [(i, .tmp s)] => some (i, s)
  | _ => none
def boxedB (ops : Array Oper) : Option Tmp → Bool
  | some d => ops.any fun o => match o.op with
    | .box _ (.tmp s) => s == d
    | _ => false
  | none => false
def handB (ops : Array Oper) (o : Oper) : Option (Nat × Tmp) :=
  match o.op with
  | .build _ ps => bif boxedB ops o.dst then single ps else none
  | _ => none
def fromB (ops : Array Oper) : Operand → Bool
  | .tmp s => ops.any fun o => o.dst == some s && (handB ops o).isSome
  | _ => false
def parts (P : Program) (env : Env) (place : Nat → Option (Nat × Nat)) (ps : Array (Nat × Operand)) : List (Nat × Nat × PV) :=
  ps.toList.map fun (i, x) => match place i with
    | some (a, b) => (a, b, ev env x)
    | none => (0, 0, .tup [])
def opVal (P : Program) (C : CallT) (rc : Option (Option PV)) (ops : Array Oper) (env : Env) (o : Oper) : M PV :=
  match o.op with
  | .move x | .assign x => M.pure (bif moves ops o then ev env x else strip (ev env x))
  | .pick c a b => pick (ev env c) (ev env a) (ev env b)
  | .alloc t => al (tzero P t).cells
  | .box t x => bif fromB ops x then bxO (tsize P t) (ev env x) else bx (tsize P t) (ev env x)
  | .build t ps => match P.underlying t with
    | some (.struct fs) => guardM (fs.toList.all (fun f => known P f.type) && isVal (tzero P t)) <| match handB ops o with
      | some (i, s) => match fs[i]? with
        | some f => bdO (tzero P t).cells f.offset (tsize P f.type) (env.getD s .undef)
        | none => M.fail
      | none => bd (tzero P t).cells (parts P env (fun i => (fs[i]?).map fun f => (f.offset, tsize P f.type)) ps)
    | some (.array _ e) => guardM (known P e && (isVal (tzero P t) && (handB ops o).isNone)) <| bd (tzero P t).cells (parts P env (fun i => some (i * tsize P e, tsize P e)) ps)
    | _ => M.fail
  | .buildSlice t n ps => match P.underlying t with
    | some (.slice e) => guardM ((ps.toList.map (·.1)) == List.range n && (decide (n * tsize P e ≤ 16777216) && listOk P e)) (bs o.dst.isSome (tagg P e) (ps.toList.map fun p => ev env p.2))
    | _ => M.fail
  | .load t a => guardM (known P t) <| ld (tagg P t) (moves ops o) (ev env a)
  | .store t a x => guardM (known P t) <| st (tsize P t) (match x with | .tmp _ => true | _ => false) (ev env a) (ev env x)
  | .nilCheck x => nc P (ev env x)
  | .binOp op t x y _ => bi op (eqKind P t ((match x with | .const _ => true | _ => false) || (match y with | .const _ => true | _ => false))) (ev env x) (ev env y)
  | .unOp op _ x => un op (ev env x)
  | .convert s d x => cv (cvKind P s d) o.dst.isSome (ev env x)
  | .makeInterface t x => guardM (u8e P t) (mi t (ev env x))
  | .makeFunc (.func f) first caps => mf f (first.toList.map (ev env)) (caps.toList.map (ev env))
  | .makeSlice t l c => match P.underlying t with
    | some (.slice e) => guardM (listOk P e) <| mk o.dst.isSome (tsize P e) (tbytes P e) (ev env l) (ev env c)
    | _ => M.fail
  | .slice t x lo hi none => match P.underlying t with
    | some .string => slS (ev env x) (lo.map (ev env)) (hi.map (ev env))
    | some (.slice e) => guardM (known P e) <| slL (tsize P e) (ev env x) (lo.map (ev env)) (hi.map (ev env))
    | some (.array n e) => guardM (known P e && (tsize P e == 1 && lo.isNone)) <| slA o.dst.isSome n (ev env x) (hi.map (ev env))
    | _ => M.fail
  | .fieldAddr s x f => match P.underlying s with
    | some (.struct fs) => match fs[f]? with
      | some fd => guardM (known P fd.type && !(tsize P fd.type == 0)) (fa fd.offset (ev env x))
      | none => M.fail
    | _ => M.fail
  | .field t x f => match P.underlying t with
    | some (.struct fs) => match fs[f]? with
      | some fl => guardM (known P fl.type) <| fd fl.offset (tagg P fl.type) (ev env x)
      | none => M.fail
    | _ => M.fail
  | .indexAddr t x i => match P.underlying t with
    | some (.array n e) => guardM (known P e) <| iaA n (tsize P e) (ev env x) (ev env i)
    | some (.slice e) => guardM (known P e) <| iaS (tsize P e) (ev env x) (ev env i)
    | _ => M.fail
  | .index t x i => match P.underlying t with
    | some .string => ixS (ev env x) (ev env i)
    | some (.array n e) => guardM (known P e) <| ixA n (tsize P e) (tagg P e) (ev env x) (ev env i)
    | _ => M.fail
  | .range t x => match P.underlying t with
    | some .string => rg (ev env x)
    | _ => M.fail
  | .next it true => nx (ev env it)
  | .typeAssert x _ t ok => match P.underlying t with
    | some (.interface _) => M.fail
    | some _ => guardM (isVal (tzero P t)) <| ta t (tzero P t) ok (ev env x)
    | none => M.fail
  | .extract t i => ex i (ev env t)
  | .panic x => pn (ev env x)
  | .call { callee := .value f, args, .. } => callV P C (ev env f) (args.toList.map fun x => strip (ev env x))
  | .call { callee := .builtin .recover, .. } => match rc with
    | none => M.fail
    | some _ => M.pure (recV rc env)
  | .call { callee := .builtin b, args, argTypes } => u6y P o.dst.isSome b argTypes (args.toList.map (ev env))
  | _ => M.fail
def gval (P : Program) (C : CallT) (rc : Option (Option PV)) (ops : Array Oper) (env : Env) (o : Oper) : M PV :=
  match o.guard with
  | none => opVal P C rc ops env o
  | some (j, want) => match (ops[j]?).bind (·.dst) with
    | some d => gd (env.getD d .undef) want (opVal P C rc ops env o)
    | none => M.fail
def given (ops : Array Oper) (o : Oper) : Option (Tmp × Option Nat) :=
  match o.op with
  | .move (.tmp s) | .assign (.tmp s) => bif moves ops o then some (s, none) else none
  | .store _ _ (.tmp s) => some (s, none)
  | .extract (.tmp s) i => some (s, some i)
  | .build _ _ => (handB ops o).map fun x => (x.2, none)
  | .box _ (.tmp s) => bif fromB ops (.tmp s) then some (s, none) else none
  | .call { callee := .builtin .append, args, .. } => match (args[0]? : Option Operand) with
    | some (.tmp s) => some (s, none)
    | _ => none
  | _ => none
def giveUp (env : Env) : Option (Tmp × Option Nat) → Env
  | some (s, none) => env.set s (strip (env.getD s .undef))
  | some (s, some i) => env.set s (tupDrop i (env.getD s .undef))
  | none => env
def u08 (o : Oper) : Bool :=
  match o.op with
  | .call { callee := .builtin .recover, .. } => true
  | _ => false
def putDst (env : Env) (d : Option Tmp) (v : PV) : Env :=
  match d with
  | some d => env.set d v
  | none => env
def took (rc : Option (Option PV)) (o : Oper) (env : Env) : Env :=
  bif u08 o && rc.isSome then env.set (env.length - 1) (.tup []) else env
def put (rc : Option (Option PV)) (ops : Array Oper) (env : Env) (o : Oper) (v : PV) : Env := putDst (took rc o (giveUp env (given ops o))) o.dst v
def deferM (CD : Option PV → CallT) (f : PV) (args : List PV) (rest res : M PV) : M PV := fun H =>
  match f with
  | .fn f first caps =>
    match rest H with
    | some (.ok _ H') => M.bind (CD none f (first ++ args ++ caps)) (fun _ => res) H'
    | some (.pan v H') => M.bind (CD (some v) f (first ++ args ++ caps)) (fun r => match r with | .tup [] => res | _ => M.fail) H'
    | none => none
  | _ => none
def u9y : PV → Bool
  | .undef => true
  | _ => false
def okDst (dmode : Bool) (prot : List Tmp) (env : Env) (d : Option Tmp) : Bool :=
  match d with
  | some d => (!(prot.contains d) || u9y (env.getD d .undef)) && (!dmode || decide (d + 1 < env.length))
  | none => true
def isPtr : PV → Bool
  | .ptr _ _ => true
  | _ => false
structure Ctx where
  P : Program
  prot : List Tmp
  C : CallT
  CD : Option PV → CallT
  rc : Option (Option PV)
  res : Env → M PV
def dOps (c : Ctx) (ops : Array Oper) : List Oper → Env → (Env → M PV) → M PV
  | [], env, k => k env
  | o :: r, env, k => guardM (okDst c.rc.isSome c.prot env o.dst) <| match o.op with
    | .defer { callee := .value f, args, .. } => match o.guard with
      | none => guardM (!c.prot.isEmpty && c.prot.all fun t => isPtr (env.getD t .undef)) <| deferM c.CD (ev env f) (args.toList.map fun x => strip (ev env x)) (dOps c ops r (put c.rc ops env o .undef) k) (c.res env)
      | some _ => M.fail
    | .move x | .assign x => match o.guard with
      | none => dOps c ops r (put c.rc ops env o (bif moves ops o then ev env x else strip (ev env x))) k
      | some _ => M.bind (gval c.P c.C c.rc ops env o) fun v => dOps c ops r (put c.rc ops env o v) k
    | _ => M.bind (gval c.P c.C c.rc ops env o) fun v => dOps c ops r (put c.rc ops env o v) k
theorem u5l (c : Ctx) (ops : Array Oper) (o : Oper) (r : List Oper) (env : Env) (k : Env → M PV) : dOps c ops (o :: r) env k = (guardM (okDst c.rc.isSome c.prot env o.dst) <| match o.op with
    | .defer { callee := .value f, args, .. } => match o.guard with
      | none => guardM (!c.prot.isEmpty && c.prot.all fun t => isPtr (env.getD t .undef)) <| deferM c.CD (ev env f) (args.toList.map fun x => strip (ev env x)) (dOps c ops r (put c.rc ops env o .undef) k) (c.res env)
      | some _ => M.fail
    | _ => M.bind (gval c.P c.C c.rc ops env o) fun v => dOps c ops r (put c.rc ops env o v) k) := by
  obtain ⟨dst, op, ty, pos, after, guard⟩ := o
  cases op with
  | move x => cases guard <;> rfl
  | assign x => cases guard <;> rfl
  | defer cl =>
    obtain ⟨callee, args, tys⟩ := cl
    cases callee <;> first | rfl | (cases guard <;> rfl)
  | _ => rfl
def u78 (ops : Array Oper) (o : Oper) : List Tmp :=
  match given ops o with
  | some (s, _) => [s]
  | none => []
def u4x (ops : Array Oper) (o : Oper) : List Tmp := o.dst.toList ++ u78 ops o
def apartN (ops : Array Oper) (x y : Oper) : Bool :=
  (u4x ops x).all (fun t => !(y.looksAt ops).contains t && !(u4x ops y).contains t) && (u4x ops y).all (fun t => !(x.looksAt ops).contains t)
def noPan (m : M PV) : M PV := fun H =>
  match m H with
  | some (.ok v H') => some (.ok v H')
  | _ => none
def exPair (x y : Oper) : Bool :=
  match x.op, y.op, x.dst, y.dst with
  | .extract (.tmp s) i, .extract (.tmp t) j, some a, some b => s == t && (i != j && (a != b && (a != s && (b != s && (x.guard.isNone && y.guard.isNone)))))
  | _, _, _, _ => false
def apartE (ops : Array Oper) (x y : Oper) : Bool := apartN ops x y || exPair x y
def u14 (o : Oper) : Bool :=
  match o.op with
  | .store .. => true
  | _ => false
inductive Touch where
  | no | ld (id : Nat) | st (id : Nat) | any | al (n : Nat)
def tld : PV → Touch
  | .ptr id _ => .ld id
  | _ => .no
def tst : PV → Touch
  | .ptr id _ => .st id
  | _ => .no
def maskB (acc : List Nat) (o : Oper) : Nat := o.after.toList.foldl (fun s e => bif Region.binds .any e then s ||| (2 ^ e.on ||| acc.getD e.on 0) else s) 0
def befs : List Oper → List Nat → List Nat
  | [], acc => acc
  | o :: r, acc => befs r (acc ++ [maskB acc o])
def udb (o : Oper) : Bool :=
  match o.op with
  | .defer _ => true
  | _ => false
def commB (ops : Array Oper) : Bool :=
  let b := befs ops.toList []
  (List.range ops.size).all fun j => match ops[j]? with
    | some y => !u08 y && (!udb y && (y.after.toList.all (fun e => !Region.binds .any e || decide (e.on < j)) &&
        (List.range j).all fun i => (b.getD j 0).testBit i || match ops[i]? with | some x => apartE ops x y | none => true))
    | none => true
noncomputable def nb {α β : Type} (m : M α) (f : α → M β) : M β := fun H => by
  classical
  exact match m H with
  | some (.ok v H') => if H' = H then f v H else none
  | _ => none
noncomputable def dOpsN (c : Ctx) (ops : Array Oper) : List Oper → Env → (Env → M PV) → M PV
  | [], env, k => k env
  | o :: r, env, k => guardM (okDst c.rc.isSome c.prot env o.dst) <| match o.op with
    | .move x | .assign x => match o.guard with
      | none => dOpsN c ops r (put c.rc ops env o (bif moves ops o then ev env x else strip (ev env x))) k
      | some _ => nb (gval c.P c.C c.rc ops env o) fun v => dOpsN c ops r (put c.rc ops env o v) k
    | _ => nb (gval c.P c.C c.rc ops env o) fun v => dOpsN c ops r (put c.rc ops env o v) k
theorem ukj {α β : Type} (v : α) (f : α → M β) : nb (M.pure v) f = f v := by
  funext H
  simp [nb, M.pure]
theorem u6a (c : Ctx) (ops : Array Oper) (o : Oper) (r : List Oper) (env : Env) (k : Env → M PV) : dOpsN c ops (o :: r) env k = (guardM (okDst c.rc.isSome c.prot env o.dst) <| nb (gval c.P c.C c.rc ops env o) fun v => dOpsN c ops r (put c.rc ops env o v) k) := by
  obtain ⟨dst, op, ty, pos, after, guard⟩ := o
  cases op with
  | move x =>
    cases guard with
    | none => exact (congrArg _ (ukj _ _).symm)
    | some _ => rfl
  | assign x =>
    cases guard with
    | none => exact (congrArg _ (ukj _ _).symm)
    | some _ => rfl
  | _ => rfl
def pureO (o : Oper) : Bool :=
  match o.op with
  | .move _ | .assign _ | .pick .. | .extract _ _ | .fieldAddr .. | .field .. | .nilCheck _ | .typeAssert .. | .binOp .. | .unOp .. | .convert .. | .makeInterface .. | .build .. | .buildSlice .. | .makeSlice .. | .indexAddr .. | .index .. => true
  | .call { callee := .builtin .append, .. } | .call { callee := .builtin .len, .. } | .call { callee := .builtin .min, .. } | .call { callee := .builtin .max, .. } => true
  | _ => false
def quietO (o : Oper) : Bool :=
  match o.op with
  | .load .. | .store .. => o.guard.isNone
  | _ => true
def touch (env : Env) (o : Oper) : Touch :=
  match o.op with
  | .load _ a => tld (ev env a)
  | .store _ a _ => tst (ev env a)
  | _ => bif pureO o then .no else .any
def clash (y x : Touch) : Bool :=
  match y with
  | .no => false
  | .ld j => (match x with | .st i => i == j | .al n => decide (n ≤ j) | _ => false)
  | .st j => (match x with | .no => false | .ld i => i == j | .st i => i == j | .any => true | .al n => decide (n ≤ j))
  | .any => (match x with | .st _ => true | .al _ => true | _ => false)
  | .al _ => (match x with | .any => true | .al _ => true | _ => false)
def ukf (b : List Nat) (i : Nat) (τ : Touch) (ts : List (Nat × Touch)) : Bool := ts.all fun t => (b.getD i 0).testBit t.1 || !clash τ t.2
noncomputable def dOpsW (c : Ctx) (ops : Array Oper) : Nat → List (Nat × Touch) → List Oper → Env → (Env → M PV) → M PV
  | _, _, [], env, k => k env
  | i, ts, o :: r, env, k => guardM (okDst c.rc.isSome c.prot env o.dst && (quietO o && ukf (befs ops.toList []) i (touch env o) ts)) <| bif u14 o
    then M.bind (noPan (gval c.P c.C c.rc ops env o)) fun v => dOpsW c ops (i + 1) ((i, touch env o) :: ts) r (put c.rc ops env o v) k
    else nb (gval c.P c.C c.rc ops env o) fun v => dOpsW c ops (i + 1) ((i, touch env o) :: ts) r (put c.rc ops env o v) k
def isAl (o : Oper) : Bool :=
  match o.op with
  | .alloc _ => o.guard.isNone
  | _ => false
def isLd (o : Oper) : Bool :=
  match o.op with
  | .load .. => o.guard.isNone
  | _ => false
def u09 : PV → Touch
  | .ptr n _ => .al n
  | _ => .any
def touchV (env : Env) (o : Oper) (v : PV) : Touch := bif isAl o then u09 v else touch env o
def isAlT : Touch → Bool
  | .al _ => true
  | _ => false
def u8l (b : List Nat) (i : Nat) (τ : Touch) (ts : List (Nat × Touch)) : Bool := ts.all fun t => (b.getD i 0).testBit t.1 || (!clash τ t.2 || (isAlT τ && isAlT t.2))
noncomputable def dOpsA {β : Type} (c : Ctx) (ops : Array Oper) : List Nat → List (Nat × Touch) → Env → (Env → M β) → M β
  | [], _, env, k => k env
  | i :: r, ts, env, k => match ops[i]? with
    | some o => guardM (okDst c.rc.isSome c.prot env o.dst && quietO o) <| bif u14 o || isAl o
      then M.bind (noPan (gval c.P c.C c.rc ops env o)) fun v => guardM (u8l (befs ops.toList []) i (touchV env o v) ts) (dOpsA c ops r ((i, touchV env o v) :: ts) (put c.rc ops env o v) k)
      else nb (gval c.P c.C c.rc ops env o) fun v => guardM (u8l (befs ops.toList []) i (touchV env o v) ts) (dOpsA c ops r ((i, touchV env o v) :: ts) (put c.rc ops env o v) k)
    | none => M.fail
def renV (n : Nat) (p q : PV) : Prop := (p = q ∧ p.low n = true) ∨ (∃ o, p = .ptr n o ∧ q = .ptr (n + 1) o) ∨ ∃ o, p = .ptr (n + 1) o ∧ q = .ptr n o
def u6w (n : Nat) (e1 : Env) (H1 : Heap) (e2 : Env) (H2 : Heap) : Prop :=
  ∃ (H0 : Heap) (x1 x2 : List PV), H0.length = n ∧ H1 = H0 ++ [.cells x1, .cells x2] ∧ H2 = H0 ++ [.cells x2, .cells x1] ∧ (∀ c ∈ x1 ++ x2, c.low n = true ∧ stripC c = c) ∧ e1.length = e2.length ∧ ∀ t, renV n (e1.getD t .undef) (e2.getD t .undef)
noncomputable def chkA {β : Type} (m2 m1 : M Env) (x : M β) : M β := fun H => by
  classical
  exact match m2 H, m1 H with
  | some (.ok e2 H2), some (.ok e1 H1) => if u6w H.length e1 H1 e2 H2 then x H else none
  | _, _ => none
def alsOf (ops : Array Oper) : List Nat := (List.range ops.size).filter fun i => match ops[i]? with | some o => isAl o | none => false
def mvL (a1 a2 : Nat) (l : List Nat) : List Nat := l.flatMap fun i => bif i == a1 then [a2, a1] else bif i == a2 then [] else [i]
def consA (b : List Nat) : List Nat → Bool
  | [] => true
  | i :: r => r.all (fun j => !(b.getD i 0).testBit j) && consA b r
def modeA (ops : Array Oper) : Bool :=
  match alsOf ops with
  | [a1, a2] => !((befs ops.toList []).getD a2 0).testBit a1 && (ops.any u14 && ((ops.all fun o => pureO o || (isAl o || (u14 o || isLd o))) && consA (befs ops.toList []) (mvL a1 a2 (List.range ops.size))))
  | _ => false
noncomputable def dOpsAA (c : Ctx) (ops : Array Oper) (env : Env) (k : Env → M PV) : M PV :=
  match alsOf ops with
  | [a1, a2] => chkA (dOpsA c ops (mvL a1 a2 (List.range ops.size)) [] env M.pure) (dOpsA c ops (List.range ops.size) [] env M.pure) (dOpsA c ops (List.range ops.size) [] env k)
  | _ => M.fail
def isCall (o : Oper) : Bool :=
  match o.op with
  | .call { callee := .value _, .. } => true
  | _ => false
def arr : Nat → List Nat → List (List Nat)
  | 0, _ => [[]]
  | n + 1, l => l.flatMap fun i => (arr n (l.erase i)).map (i :: ·)
def consB (b : List Nat) : List Nat → Bool
  | [] => true
  | i :: r => r.all (fun j => !(b.getD i 0).testBit j) && consB b r
def isPure (ops : Array Oper) (i : Nat) : Bool := match ops[i]? with | some o => pureO o | none => true
def isHeap (ops : Array Oper) (i : Nat) : Bool := !isPure ops i
def sched (ops : Array Oper) (b : List Nat) : List Nat → List Nat → List Nat
  | rest, [] => rest
  | rest, h :: r =>
    let early := rest.filter fun i => isPure ops i && rest.all fun j => isPure ops j || !(b.getD i 0).testBit j
    early ++ h :: sched ops b (rest.filter fun i => !early.contains i && i != h) r
def keepO (ops : Array Oper) (o : Oper) : Bool := pureO o || match o.op with | .load _ _ => !moves ops o | _ => false
def keepI (ops : Array Oper) (i : Nat) : Bool := match ops[i]? with | some o => keepO ops o | none => true
def ual : List Nat → Nat → Nat → Bool
  | [], _, _ => true
  | z :: r, x, y => bif z == x then true else bif z == y then false else ual r x y
def closeB (ops : Array Oper) : List Nat → List Nat → Bool
  | [], _ => true
  | x :: r, π => r.all (fun y => ual π x y || (keepI ops x && keepI ops y)) && closeB ops r π
def repsB (ops : Array Oper) : List (List Nat) → List (List Nat) → List (List Nat)
  | acc, [] => acc.reverse
  | acc, π :: r => bif acc.any (fun σ => closeB ops σ π) then repsB ops acc r else repsB ops (π :: acc) r
def ordsN (ops : Array Oper) (n : Nat) : List (List Nat) :=
  let b := befs ops.toList []
  let h := (List.range n).filter (isHeap ops)
  (repsB ops [] ((arr h.length h).filter (consB b))).map (sched ops b (List.range n))
def ordsOf (ops : Array Oper) : List (List Nat) := ordsN ops ops.size
def goodP (ops : Array Oper) (n : Nat) (σs : List (List Nat)) : Bool :=
  let b := befs ops.toList []
  let h := (List.range n).filter (isHeap ops)
  consB b (List.range n) && (σs.all (fun σ => σ.length == n && ((List.range n).all (fun i => σ.contains i) && consB b σ)) &&
    ((arr h.length h).all (fun π => !consB b π || σs.any fun σ => closeB ops (σ.filter (isHeap ops)) π) &&
    (List.range n).all fun j => (List.range j).all fun i => (b.getD j 0).testBit i || match ops[i]?, ops[j]? with | some x, some y => apartE ops x y | _, _ => false))
def lastB (ops : Array Oper) : Bool :=
  match ops[ops.size - 1]? with
  | some o => isCall o && (List.range (ops.size - 1)).all fun i => ((befs ops.toList []).getD (ops.size - 1) 0).testBit i
  | none => false
noncomputable def dOpsL {β : Type} (c : Ctx) (ops : Array Oper) : List Nat → Env → (Env → M β) → M β
  | [], env, k => k env
  | i :: r, env, k => match ops[i]? with
    | some o => guardM (okDst c.rc.isSome c.prot env o.dst) <| M.bind (noPan (gval c.P c.C c.rc ops env o)) fun v => dOpsL c ops r (put c.rc ops env o v) k
    | none => M.fail
noncomputable def chk {α β : Type} (m m' : M α) (x : M β) : M β := fun H => by
  classical
  exact match m H, m' H with
  | some (.ok a Ha), some (.ok b Hb) => if a = b ∧ Ha = Hb then x H else none
  | _, _ => none
noncomputable def chkL (c : Ctx) (ops : Array Oper) (env : Env) (σ0 : List Nat) : List (List Nat) → M PV → M PV
  | [], x => x
  | σ :: r, x => chk (dOpsL c ops σ env M.pure) (dOpsL c ops σ0 env M.pure) (chkL c ops env σ0 r x)
noncomputable def dOpsPN (c : Ctx) (ops : Array Oper) (n : Nat) (env : Env) (k : Env → M PV) : M PV :=
  guardM (goodP ops n (ordsN ops n)) <| match ordsN ops n with
    | [] => M.fail
    | σ0 :: r => chkL c ops env σ0 r (dOpsL c ops σ0 env k)
noncomputable def u5j (c : Ctx) (ops : Array Oper) (n : Nat) (k : Env → M PV) (e : Env) : M PV := match ops[n]? with
  | some o => guardM (okDst c.rc.isSome c.prot e o.dst) <| M.bind (gval c.P c.C c.rc ops e o) fun v => k (put c.rc ops e o v)
  | none => M.fail
noncomputable def dOpsP (c : Ctx) (ops : Array Oper) (env : Env) (k : Env → M PV) : M PV :=
  bif lastB ops then dOpsPN c ops (ops.size - 1) env (u5j c ops (ops.size - 1) k) else dOpsPN c ops ops.size env k
def modeP (ops : Array Oper) : Bool :=
  decide (((List.range ops.size).filter (isHeap ops)).length ≤ 6) && (bif ops.any u14 then decide ((ordsOf ops).length ≤ 12) else ops.any isCall && decide ((ordsOf ops).length ≤ 1))
def uo1 (o : Oper) : List Tmp := o.op.operands.toList.filterMap fun | .tmp t => some t | _ => none
def rwOps (ops : Array Oper) : List Tmp × List Tmp :=
  ops.foldl (fun (r, w) o =>
    ((uo1 o ++ (match o.guard with | some (j, _) => ((ops[j]?).bind (·.dst)).toList | none => [])).filter (fun t => !w.contains t && !r.contains t) ++ r,
     match o.dst with | some d => (match o.guard with | none => d :: w | some _ => d :: w) | none => w)) ([], [])
def rw : Code → List Tmp × List Tmp × List Tmp
  | .region _ ops _ => let (r, w) := rwOps ops; (r, w, w)
  | .seq a b => let (ra, wa, pa) := rw a; let (rb, wb, pb) := rw b; (ra ++ rb.filter (fun t => !wa.contains t && !ra.contains t), wa ++ wb, pa ++ pb)
  | .cond c a b => let (ra, wa, pa) := rw a; let (rb, wb, pb) := rw b
    ((match c with | .tmp t => [t] | _ => []) ++ ra ++ rb, wa.filter wb.contains, pa ++ pb)
  | .block _ b => let (r, _, p) := rw b; (r, [], p)
  | .loop b => let (r, _, p) := rw b; (r, [], p)
  | .scope b => let (r, _, p) := rw b; (r, [], p)
  | _ => ([], [], [])
def alive (after : List Tmp) (b : Code) : List Tmp := (rw b).1 ++ after
def u4a (l : List Tmp) : Nat → Env → Env
  | _, [] => []
  | i, v :: r => (bif l.contains i then v else .undef) :: u4a l (i + 1) r
def keep (l : List Tmp) (env : Env) : Env := u4a l 0 env
def outs : Code → List (Option Nat)
  | .seq a b => (outs a).filter (·.isSome) ++ (bif (outs a).any (·.isNone) then outs b else [])
  | .cond _ a b => outs a ++ outs b
  | .block id b => (outs b).map fun o => bif o == some id then none else o
  | .loop b => (outs b).filter (·.isSome)
  | .exit id => [some id]
  | .ret => []
  | _ => [none]
def joinB (a : Code) : Bool := decide (1 < ((outs a).filter (·.isNone)).length)
def LoopT := List Tmp → Code → Env → K → M PV
noncomputable def den (c : Ctx) (L : LoopT) : List Tmp → Code → Env → K → M PV
  | _, .skip, env, k => k .normal env
  | _, .region _ ops false, env, k => dOps c ops ops.toList env (k .normal)
  | _, .region _ ops true, env, k => guardM (c.P.follows .mixedOrders && commB ops) (bif modeA ops && (c.rc.isNone && c.prot.isEmpty) then dOpsAA c ops env (k .normal) else bif modeP ops && c.rc.isNone then dOpsP c ops env (k .normal) else bif ops.any u14 || c.rc.isSome then dOpsW c ops 0 [] ops.toList env (k .normal) else dOpsN c ops ops.toList env (k .normal))
  | af, .seq a b, env, k => den c L ((rw b).1 ++ af) a env fun
    | .normal, env' => bif c.rc.isNone && joinB a then L af b (keep ((rw b).1 ++ af) env') k else den c L af b env' k
    | e, env' => k e env'
  | af, .cond x a b, env, k => condM (ev env x) (den c L af a env k) (den c L af b env k)
  | af, .block id b, env, k => den c L af b env fun
    | .exit i, env' => bif i == id then k .normal env' else k (.exit i) env'
    | e, env' => k e env'
  | af, .loop b, env, k => L af (.loop b) (keep (alive af b) env) k
  | _, .exit id, env, k => k (.exit id) env
  | _, .label _, env, k => k .normal env
  | _, .ret, env, k => k .ret env
  | _, _, _, _ => M.fail
noncomputable def go1 (c : Ctx) (L : LoopT) (af : List Tmp) (co : Code) (env : Env) (k : K) : M PV :=
  match co with
  | .loop b => den c L (alive af b) b env fun
    | .normal, env' => L af (.loop b) (keep (alive af b) env') k
    | e, env' => k e env'
  | co => den c L af co env k
def isTup : PV → Bool
  | .tup _ | .aggo _ => true
  | _ => false
def resV (P : Program) (env : Env) : List ResultVar → List PV → (List PV → M PV) → M PV
  | [], acc, k => k acc.reverse
  | .tmp t :: r, acc, k => bif isTup (env.getD t .undef) then M.fail else resV P (env.set t (strip (env.getD t .undef))) r (env.getD t .undef :: acc) k
  | .cell a t :: r, acc, k => guardM (known P t) <| M.bind (ld (tagg P t) true (env.getD a .undef)) fun v => guardM (!isTup v) <| resV P env r (v :: acc) k
def resM (P : Program) (fn : Func) (env : Env) : M PV :=
  resV P env fn.results.toList [] fun
    | [v] => M.pure v
    | vs => M.pure (.tup vs)
def trunc (m : M PV) : M PV := fun H =>
  match m H with
  | none => none
  | some (.ok v H') => some (.ok v (bif v.low H.length then H'.take H.length else H'))
  | some (.pan v H') => bif v.low H.length then some (.pan v (H'.take H.length)) else none
def protOf (fn : Func) : List Tmp :=
  bif fn.results.toList.all (fun | .cell _ _ => true | _ => false) then fn.results.toList.filterMap (fun | .tmp _ => none | .cell a _ => some a) else []
def u6e (o : Oper) : Bool :=
  (match o.op with | .defer _ => false | _ => true) && (!u08 o || (o.guard.isNone && match o.op with | .call { args, .. } => args.isEmpty | _ => true))
def u3v : Code → Bool
  | .skip | .ret => true
  | .region _ ops false => ops.toList.all u6e
  | .region _ ops true => true
  | .seq a b => u3v a && u3v b
  | .cond _ a b => u3v a && u3v b
  | _ => false
def u7n (fn : Func) : List Tmp := fn.results.toList.map fun | .tmp t => t | .cell a _ => a
noncomputable def fnDen (P : Program) (C : CallT) (CD : Option PV → CallT) (L : Option (Option PV) → List Tmp → (Env → M PV) → LoopT) (f : FuncId) (args : List PV) : M PV :=
  match P.funcs[f]? with
  | some fn => match fn.body with
    | some b => guardM (fn.name != "runtime.NumGoroutine") <| trunc (den ⟨P, protOf fn, C, CD, none, resM P fn⟩ (L none (protOf fn) (resM P fn)) (u7n fn) b (args ++ List.replicate (fn.ntmps - args.length) .undef) fun
      | .exit _, _ => M.fail
      | _, env => resM P fn env)
    | none => M.fail
  | none => M.fail
noncomputable def fnDenD (P : Program) (C : CallT) (CD : Option PV → CallT) (L : Option (Option PV) → List Tmp → (Env → M PV) → LoopT) (rv : Option PV) (f : FuncId) (args : List PV) : M PV :=
  match P.funcs[f]? with
  | some fn => match fn.body with
    | some b => guardM (u3v b && (fn.results.isEmpty && fn.name != "runtime.NumGoroutine")) <| noPan (trunc (den ⟨P, protOf fn, C, CD, some rv, resM P fn⟩ (L (some rv) (protOf fn) (resM P fn)) (fn.ntmps :: u7n fn) b (args ++ List.replicate (fn.ntmps - args.length) .undef ++ [.undef]) fun
      | .exit _, _ => M.fail
      | _, env => M.pure (env.getD (env.length - 1) .undef)))
    | none => M.fail
  | none => M.fail
structure SemT where
  C : CallT
  CD : Option PV → CallT
  L : Option (Option PV) → List Tmp → (Env → M PV) → LoopT
abbrev ExtT := FuncId → Option (List PV → M PV)
noncomputable def sem (P : Program) (X : ExtT) : Nat → SemT
  | 0 => ⟨fun _ _ => M.fail, fun _ _ _ => M.fail, fun _ _ _ _ _ _ _ => M.fail⟩
  | n + 1 =>
    ⟨fun f args => match X f with
      | some m => m args
      | none => fnDen P (sem P X n).C (sem P X n).CD (sem P X n).L f args,
     fun rv f args => fnDenD P (sem P X n).C (sem P X n).CD (sem P X n).L rv f args,
     fun rc pr res af co env k => go1 ⟨P, pr, (sem P X n).C, (sem P X n).CD, rc, res⟩ ((sem P X n).L rc pr res) af co env k⟩
end Go.Proofs.YtiiepllnnjjmaaaDoor.Pi
namespace Go.Proofs.YtiiepllnnjjmaaaDoor.Pi
def Le {α : Type} (x y : M α) : Prop := ∀ H r, x H = some r → y H = some r
namespace Le
variable {α β : Type}
theorem refl (x : M α) : Le x x := fun _ _ h => h
theorem fail (y : M α) : Le M.fail y := fun _ _ h => by simp [M.fail] at h
theorem bind {x y : M α} {f g : α → M β} (h : Le x y) (hf : ∀ a, Le (f a) (g a)) : Le (M.bind x f) (M.bind y g) := by
  intro H r hr
  unfold M.bind at hr ⊢
  cases hx : x H with
  | none => rw [hx] at hr; simp at hr
  | some o =>
    rw [hx] at hr
    rw [h H o hx]
    cases o with
    | ok a H' => exact hf a H' r hr
    | pan v H' => exact hr
theorem condM {c : PV} {x y x' y' : M α} (h : Le x x') (h' : Le y y') : Le (condM c x y) (condM c x' y') := by
  unfold Pi.condM
  cases c with
  | bool b => cases b <;> assumption
  | _ => exact Le.refl _
theorem gd {c : PV} {w : Bool} {x y : M PV} (h : Le x y) : Le (gd c w x) (gd c w y) := by
  unfold Pi.gd
  cases c with
  | bool b =>
    simp only
    cases (b == w)
    · exact Le.refl _
    · exact h
  | tup vs => cases vs <;> exact Le.refl _
  | _ => exact Le.refl _
theorem trunc {x y : M PV} (h : Le x y) : Le (trunc x) (trunc y) := by
  intro H r hr
  unfold Pi.trunc at hr ⊢
  cases hx : x H with
  | none => rw [hx] at hr; simp at hr
  | some o => rw [hx] at hr; rw [h H o hx]; exact hr
end Le
structure Ctx.Le (c d : Ctx) : Prop where
  P : c.P = d.P
  pr : c.prot = d.prot
  C : ∀ f a, Pi.Le (c.C f a) (d.C f a)
  CD : ∀ r f a, Pi.Le (c.CD r f a) (d.CD r f a)
  rc : c.rc = d.rc
  res : ∀ e, Pi.Le (c.res e) (d.res e)
theorem umx {P : Program} {C D : CallT} (h : ∀ f a, Le (C f a) (D f a)) (f : PV) (a : List PV) : Le (callV P C f a) (callV P D f a) := by
  unfold callV
  cases f <;> first | exact h _ _ | exact Le.refl _
theorem ugc {P : Program} {C D : CallT} (h : ∀ f a, Le (C f a) (D f a)) (rc : Option (Option PV)) (ops : Array Oper) (env : Env) (o : Oper) :
    Le (opVal P C rc ops env o) (opVal P D rc ops env o) := by
  unfold opVal
  split <;> first | exact umx h _ _ | exact Le.refl _
theorem u5p {P : Program} {C D : CallT} (h : ∀ f a, Le (C f a) (D f a)) (rc : Option (Option PV)) (ops : Array Oper) (env : Env) (o : Oper) :
    Le (gval P C rc ops env o) (gval P D rc ops env o) := by
  unfold gval
  split
  · exact ugc h rc ops env o
  · split
    · exact Le.gd (ugc h rc ops env o)
    · exact Le.refl _
theorem Le.guardM {α : Type} {b : Bool} {x y : M α} (h : Le x y) : Le (guardM b x) (guardM b y) := by
  unfold Pi.guardM
  cases b
  · exact Le.refl _
  · exact h
theorem Le.noPan {x y : M PV} (h : Le x y) : Le (noPan x) (noPan y) := by
  intro H r hr
  unfold Pi.noPan at hr ⊢
  cases hx : x H with
  | none => rw [hx] at hr; simp at hr
  | some o => rw [hx] at hr; rw [h H o hx]; exact hr
theorem uew {CD DD : Option PV → CallT} (h : ∀ r f a, Le (CD r f a) (DD r f a)) {f : PV} {args : List PV} {x y rx ry : M PV} (hx : Le x y) (hr : Le rx ry) :
    Le (deferM CD f args x rx) (deferM DD f args y ry) := by
  intro H r hh
  unfold deferM at hh ⊢
  cases f with
  | fn f first caps =>
    simp only at hh ⊢
    cases hxx : x H with
    | none => rw [hxx] at hh; simp at hh
    | some o =>
      rw [hxx] at hh
      rw [hx H o hxx]
      cases o with
      | ok a H' => exact Le.bind (h _ _ _) (fun _ => hr) H' r hh
      | pan v H' =>
        refine Le.bind (h _ _ _) (fun q => ?_) H' r hh
        split
        · exact hr
        · exact Le.refl _
  | _ => simp at hh
theorem ufz {c d : Ctx} (h : c.Le d) (ops : Array Oper) : ∀ (l : List Oper) (env : Env) {k k' : Env → M PV}, (∀ e, Le (k e) (k' e)) → Le (dOps c ops l env k) (dOps d ops l env k')
  | [], env, k, k', hk => hk env
  | o :: r, env, k, k', hk => by
    rw [u5l, u5l]
    rw [← h.rc, ← h.P, ← h.pr]
    refine Le.guardM ?_
    split
    · split
      · exact Le.guardM (uew h.CD (ufz h ops r _ hk) (h.res _))
      · exact Le.refl _
    · exact Le.bind (u5p h.C _ _ _ _) (fun v => ufz h ops r _ hk)
theorem nb_some {α β : Type} {m : M α} {f : α → M β} {H : Heap} {o : Out β} : nb m f H = some o ↔ ∃ v, m H = some (.ok v H) ∧ f v H = some o := by
  unfold nb
  cases hm : m H with
  | none => simp
  | some q =>
    cases q with
    | pan v H' => simp
    | ok v H' =>
      by_cases hh : H' = H
      · subst hh
        simp
      · simp only [if_neg hh]
        constructor
        · intro h; cases h
        · rintro ⟨u, hu, _⟩
          simp only [Option.some.injEq, Out.ok.injEq] at hu
          exact absurd hu.2 hh
theorem Le.nb {α β : Type} {x y : M α} {f g : α → M β} (h : Le x y) (hf : ∀ a, Le (f a) (g a)) : Le (nb x f) (nb y g) := by
  intro H o ho
  obtain ⟨v, h1, h2⟩ := nb_some.mp ho
  exact nb_some.mpr ⟨v, h H _ h1, hf v H o h2⟩
theorem ug8 {c d : Ctx} (h : c.Le d) (ops : Array Oper) : ∀ (l : List Oper) (env : Env) {k k' : Env → M PV}, (∀ e, Le (k e) (k' e)) → Le (dOpsN c ops l env k) (dOpsN d ops l env k')
  | [], env, k, k', hk => hk env
  | o :: r, env, k, k', hk => by
    rw [u6a, u6a]
    rw [← h.rc, ← h.P, ← h.pr]
    exact Le.guardM (Le.nb (u5p h.C _ _ _ _) (fun v => ug8 h ops r _ hk))
theorem uc7 {c d : Ctx} (h : c.Le d) (ops : Array Oper) : ∀ (l : List Oper) (i : Nat) (ts : List (Nat × Touch)) (env : Env) {k k' : Env → M PV}, (∀ e, Le (k e) (k' e)) → Le (dOpsW c ops i ts l env k) (dOpsW d ops i ts l env k')
  | [], i, ts, env, k, k', hk => hk env
  | o :: r, i, ts, env, k, k', hk => by
    unfold dOpsW
    rw [← h.rc, ← h.P, ← h.pr]
    refine Le.guardM ?_
    cases u14 o
    · exact Le.nb (u5p h.C _ _ _ _) (fun v => uc7 h ops r _ _ _ hk)
    · exact Le.bind (Le.noPan (u5p h.C _ _ _ _)) (fun v => uc7 h ops r _ _ _ hk)
theorem u8d {β : Type} {c d : Ctx} (h : c.Le d) (ops : Array Oper) : ∀ (l : List Nat) (env : Env) {k k' : Env → M β}, (∀ e, Le (k e) (k' e)) → Le (dOpsL c ops l env k) (dOpsL d ops l env k')
  | [], env, k, k', hk => hk env
  | i :: r, env, k, k', hk => by
    unfold dOpsL
    cases ops[i]? with
    | none => exact Le.refl _
    | some o =>
      dsimp only
      rw [← h.rc, ← h.P, ← h.pr]
      exact Le.guardM (Le.bind (Le.noPan (u5p h.C _ _ _ _)) (fun v => u8d h ops r _ hk))
theorem chk_some {α β : Type} {m m' : M α} {x : M β} {H : Heap} {o : Out β} : chk m m' x H = some o ↔ ∃ a K, m H = some (.ok a K) ∧ m' H = some (.ok a K) ∧ x H = some o := by
  unfold chk
  cases hm : m H with
  | none => simp
  | some q =>
    cases q with
    | pan v H' => simp
    | ok a Ha =>
      cases hm' : m' H with
      | none => simp
      | some q =>
        cases q with
        | pan v H' => simp
        | ok b Hb =>
          by_cases hh : a = b ∧ Ha = Hb
          · obtain ⟨rfl, rfl⟩ := hh
            simp
          · dsimp only
            rw [if_neg hh]
            constructor
            · intro h; cases h
            · rintro ⟨a', K, h1, h2, _⟩
              simp only [Option.some.injEq, Out.ok.injEq] at h1 h2
              exact absurd ⟨h1.1.trans h2.1.symm, h1.2.trans h2.2.symm⟩ hh
theorem Le.chk {α β : Type} {m m' n n' : M α} {x y : M β} (h : Le m n) (h' : Le m' n') (hx : Le x y) : Le (chk m m' x) (chk n n' y) := by
  intro H o ho
  obtain ⟨a, K, h1, h2, h3⟩ := chk_some.mp ho
  exact chk_some.mpr ⟨a, K, h H _ h1, h' H _ h2, hx H _ h3⟩
theorem ujs {c d : Ctx} (h : c.Le d) (ops : Array Oper) (env : Env) (σ0 : List Nat) : ∀ (l : List (List Nat)) {x y : M PV}, Le x y → Le (chkL c ops env σ0 l x) (chkL d ops env σ0 l y)
  | [], x, y, hx => hx
  | σ :: r, x, y, hx => Le.chk (u8d h ops σ env (fun _ => Le.refl _)) (u8d h ops σ0 env (fun _ => Le.refl _)) (ujs h ops env σ0 r hx)
theorem u74 {β : Type} {c d : Ctx} (h : c.Le d) (ops : Array Oper) : ∀ (l : List Nat) (ts : List (Nat × Touch)) (env : Env) {k k' : Env → M β}, (∀ e, Le (k e) (k' e)) → Le (dOpsA c ops l ts env k) (dOpsA d ops l ts env k')
  | [], ts, env, k, k', hk => hk env
  | i :: r, ts, env, k, k', hk => by
    simp only [dOpsA]
    cases ops[i]? with
    | none => exact Le.refl _
    | some o =>
      dsimp only
      rw [← h.rc, ← h.P, ← h.pr]
      refine Le.guardM ?_
      cases u14 o || isAl o
      · exact Le.nb (u5p h.C _ _ _ _) (fun v => Le.guardM (u74 h ops r _ _ hk))
      · exact Le.bind (Le.noPan (u5p h.C _ _ _ _)) (fun v => Le.guardM (u74 h ops r _ _ hk))
theorem chkA_some {β : Type} {m2 m1 : M Env} {x : M β} {H : Heap} {o : Out β} : chkA m2 m1 x H = some o ↔ ∃ e2 H2 e1 H1, m2 H = some (.ok e2 H2) ∧ m1 H = some (.ok e1 H1) ∧ u6w H.length e1 H1 e2 H2 ∧ x H = some o := by
  unfold chkA
  cases hm : m2 H with
  | none => simp
  | some q =>
    cases q with
    | pan v H' => simp
    | ok a Ha =>
      cases hm' : m1 H with
      | none => simp
      | some q =>
        cases q with
        | pan v H' => simp
        | ok b Hb =>
          by_cases hh : u6w H.length b Hb a Ha
          · dsimp only
            rw [if_pos hh]
            constructor
            · intro h; exact ⟨a, Ha, b, Hb, rfl, rfl, hh, h⟩
            · rintro ⟨_, _, _, _, _, _, _, h⟩; exact h
          · dsimp only
            rw [if_neg hh]
            constructor
            · intro h; cases h
            · rintro ⟨e2, H2, e1, H1, h1, h2, h3, _⟩
              simp only [Option.some.injEq, Out.ok.injEq] at h1 h2
              obtain ⟨rfl, rfl⟩ := h1
              obtain ⟨rfl, rfl⟩ := h2
              exact absurd h3 hh
theorem Le.chkA {β : Type} {m m' n n' : M Env} {x y : M β} (h : Le m n) (h' : Le m' n') (hx : Le x y) : Le (chkA m m' x) (chkA n n' y) := by
  intro H o ho
  obtain ⟨e2, H2, e1, H1, h1, h2, h3, h4⟩ := chkA_some.mp ho
  exact chkA_some.mpr ⟨e2, H2, e1, H1, h H _ h1, h' H _ h2, h3, hx H _ h4⟩
theorem ukb {c d : Ctx} (h : c.Le d) (ops : Array Oper) (env : Env) {k k' : Env → M PV} (hk : ∀ e, Le (k e) (k' e)) : Le (dOpsAA c ops env k) (dOpsAA d ops env k') := by
  unfold dOpsAA
  split
  · exact Le.chkA (u74 h ops _ _ env fun _ => Le.refl _) (u74 h ops _ _ env fun _ => Le.refl _) (u74 h ops _ _ env hk)
  · exact Le.refl _
theorem udi {c d : Ctx} (h : c.Le d) (ops : Array Oper) (n : Nat) (env : Env) {k k' : Env → M PV} (hk : ∀ e, Le (k e) (k' e)) : Le (dOpsPN c ops n env k) (dOpsPN d ops n env k') := by
  unfold dOpsPN
  refine Le.guardM ?_
  cases ordsN ops n with
  | nil => exact Le.refl _
  | cons σ0 r => exact ujs h ops env σ0 r (u8d h ops σ0 env hk)
theorem uio {c d : Ctx} (h : c.Le d) (ops : Array Oper) (n : Nat) {k k' : Env → M PV} (hk : ∀ e, Le (k e) (k' e)) (e : Env) : Le (u5j c ops n k e) (u5j d ops n k' e) := by
  unfold u5j
  cases ops[n]? with
  | none => exact Le.refl _
  | some o =>
    dsimp only
    rw [← h.rc, ← h.P, ← h.pr]
    exact Le.guardM (Le.bind (u5p h.C _ _ _ _) (fun v => hk _))
theorem un3 {c d : Ctx} (h : c.Le d) (ops : Array Oper) (env : Env) {k k' : Env → M PV} (hk : ∀ e, Le (k e) (k' e)) : Le (dOpsP c ops env k) (dOpsP d ops env k') := by
  unfold dOpsP
  cases lastB ops
  · exact udi h ops _ env hk
  · exact udi h ops _ env (uio h ops _ hk)
theorem le_den {c d : Ctx} (h : c.Le d) {L L' : LoopT} (hL : ∀ af b env (k k' : K), (∀ e en, Le (k e en) (k' e en)) → Le (L af b env k) (L' af b env k')) :
    ∀ (co : Code) (af : List Tmp) (env : Env) (k k' : K), (∀ e en, Le (k e en) (k' e en)) → Le (den c L af co env k) (den d L' af co env k')
  | .skip, af, env, k, k', hk => hk _ _
  | .region _ ops false, af, env, k, k', hk => ufz h ops _ _ (hk _)
  | .region _ ops true, af, env, k, k', hk => by
    show Le (guardM (c.P.follows .mixedOrders && commB ops) (bif modeA ops && (c.rc.isNone && c.prot.isEmpty) then _ else bif modeP ops && c.rc.isNone then _ else bif ops.any u14 || c.rc.isSome then _ else _)) (guardM (d.P.follows .mixedOrders && commB ops) (bif modeA ops && (d.rc.isNone && d.prot.isEmpty) then _ else bif modeP ops && d.rc.isNone then _ else bif ops.any u14 || d.rc.isSome then _ else _))
    rw [h.rc, h.P, h.pr]
    refine Le.guardM ?_
    cases modeA ops && (d.rc.isNone && d.prot.isEmpty)
    case true => exact ukb h ops _ (hk _)
    cases modeP ops && d.rc.isNone
    · cases ops.any u14 || d.rc.isSome
      · exact ug8 h ops _ _ (hk _)
      · exact uc7 h ops _ _ _ _ (hk _)
    · exact un3 h ops _ (hk _)
  | .seq a b, af, env, k, k', hk => by
    refine le_den h hL a _ env _ _ fun e en => ?_
    cases e with
    | normal =>
      show Le (bif c.rc.isNone && joinB a then _ else _) (bif d.rc.isNone && joinB a then _ else _)
      rw [h.rc]
      cases d.rc.isNone && joinB a
      · exact le_den h hL b _ _ _ _ hk
      · exact hL _ _ _ _ _ hk
    | exit i => exact hk _ _
    | ret => exact hk _ _
  | .cond x a b, af, env, k, k', hk => Le.condM (le_den h hL a _ env _ _ hk) (le_den h hL b _ env _ _ hk)
  | .block id b, af, env, k, k', hk => by
    refine le_den h hL b _ env _ _ fun e en => ?_
    cases e with
    | normal => exact hk _ _
    | exit i => show Le (bif i == id then _ else _) (bif i == id then _ else _); cases (i == id) <;> exact hk _ _
    | ret => exact hk _ _
  | .loop b, af, env, k, k', hk => hL _ _ _ _ _ hk
  | .exit id, af, env, k, k', hk => hk _ _
  | .label _, af, env, k, k', hk => hk _ _
  | .ret, af, env, k, k', hk => hk _ _
  | .rangeFunc .., af, env, k, k', hk => Le.refl _
  | .scope _, af, env, k, k', hk => Le.refl _
  | .goto _, af, env, k, k', hk => Le.refl _
  | .refuse _, af, env, k, k', hk => Le.refl _
theorem le_go1 {c d : Ctx} (h : c.Le d) {L L' : LoopT} (hL : ∀ af b env (k k' : K), (∀ e en, Le (k e en) (k' e en)) → Le (L af b env k) (L' af b env k'))
    (af : List Tmp) (co : Code) (env : Env) (k k' : K) (hk : ∀ e en, Le (k e en) (k' e en)) : Le (go1 c L af co env k) (go1 d L' af co env k') := by
  cases co with
  | loop b =>
    refine le_den h hL b _ env _ _ fun e en => ?_
    cases e with
    | normal => exact hL _ _ _ _ _ hk
    | exit i => exact hk _ _
    | ret => exact hk _ _
  | _ => exact le_den h hL _ _ _ _ _ hk
structure SemT.Le (s t : SemT) : Prop where
  C : ∀ f a, Pi.Le (s.C f a) (t.C f a)
  CD : ∀ r f a, Pi.Le (s.CD r f a) (t.CD r f a)
  L : ∀ rc pr res res', (∀ e, Pi.Le (res e) (res' e)) → ∀ af b env (k k' : K), (∀ e en, Pi.Le (k e en) (k' e en)) → Pi.Le (s.L rc pr res af b env k) (t.L rc pr res' af b env k')
theorem um1 {P : Program} {s t : SemT} (h : s.Le t) (f : FuncId) (a : List PV) : Le (fnDen P s.C s.CD s.L f a) (fnDen P t.C t.CD t.L f a) := by
  unfold fnDen
  split
  · rename_i fn hfn
    split
    · refine Le.guardM (Le.trunc (le_den (c := ⟨P, protOf fn, s.C, s.CD, none, _⟩) (d := ⟨P, protOf fn, t.C, t.CD, none, _⟩) ⟨rfl, rfl, h.C, h.CD, rfl, fun e => Le.refl _⟩ (h.L _ _ _ _ (fun _ => Le.refl _)) _ _ _ _ _ fun e en => ?_))
      exact Le.refl _
    · exact Le.refl _
  · exact Le.refl _
theorem ukm {P : Program} {s t : SemT} (h : s.Le t) (rv : Option PV) (f : FuncId) (a : List PV) : Le (fnDenD P s.C s.CD s.L rv f a) (fnDenD P t.C t.CD t.L rv f a) := by
  unfold fnDenD
  split
  · rename_i fn hfn
    split
    · refine Le.guardM (Le.noPan (Le.trunc (le_den (c := ⟨P, protOf fn, s.C, s.CD, some rv, _⟩) (d := ⟨P, protOf fn, t.C, t.CD, some rv, _⟩) ⟨rfl, rfl, h.C, h.CD, rfl, fun e => Le.refl _⟩ (h.L _ _ _ _ (fun _ => Le.refl _)) _ _ _ _ _ fun e en => ?_)))
      exact Le.refl _
    · exact Le.refl _
  · exact Le.refl _
variable (P : Program) (X : ExtT)
theorem u4z : ∀ n, (sem P X n).Le (sem P X (n + 1))
  | 0 => ⟨fun _ _ => Le.fail _, fun _ _ _ => Le.fail _, fun _ _ _ _ _ _ _ _ _ _ _ => Le.fail _⟩
  | n + 1 => by
    have ih := u4z n
    refine ⟨fun f a => ?_, fun r f a => ukm ih r f a, fun rc pr res res' hres af b env k k' hk => ?_⟩
    · show Le (match X f with | some m => m a | none => _) (match X f with | some m => m a | none => _)
      split
      · exact Le.refl _
      · exact um1 ih f a
    · exact le_go1 (c := ⟨P, pr, _, _, rc, res⟩) (d := ⟨P, pr, _, _, rc, res'⟩) ⟨rfl, rfl, ih.C, ih.CD, rfl, hres⟩ (ih.L _ _ _ _ hres) _ _ _ _ _ hk
structure Conv {α : Type} (x : Nat → M α) (y : M α) : Prop where
  up : ∀ n, Le (x n) (x (n + 1))
  lim : ∀ H r, y H = some r ↔ ∃ n, x n H = some r
namespace Conv
variable {α β : Type}
theorem le {x : Nat → M α} {y : M α} (h : Conv x y) {n m : Nat} (hnm : n ≤ m) : Le (x n) (x m) := by
  induction hnm with
  | refl => exact Le.refl _
  | step _ ih => exact fun H r hr => h.up _ H r (ih H r hr)
theorem const (x : M α) : Conv (fun _ => x) x := ⟨fun _ => Le.refl _, fun H r => ⟨fun h => ⟨0, h⟩, fun ⟨_, h⟩ => h⟩⟩
theorem bind {x : Nat → M α} {y : M α} {f : Nat → α → M β} {g : α → M β} (h : Conv x y) (hf : ∀ a, Conv (fun n => f n a) (g a)) : Conv (fun n => M.bind (x n) (f n)) (M.bind y g) := by
  refine ⟨fun n => Le.bind (h.up n) (fun a => (hf a).up n), fun H r => ⟨fun hr => ?_, fun ⟨n, hr⟩ => ?_⟩⟩
  · unfold M.bind at hr
    cases hy : y H with
    | none => rw [hy] at hr; simp at hr
    | some o =>
      rw [hy] at hr
      obtain ⟨n, hn⟩ := (h.lim H o).mp hy
      cases o with
      | ok a H' =>
        obtain ⟨m, hm⟩ := ((hf a).lim H' r).mp hr
        refine ⟨max n m, ?_⟩
        show M.bind (x (max n m)) (f (max n m)) H = some r
        unfold M.bind
        rw [h.le (Nat.le_max_left n m) H _ hn]
        exact (hf a).le (Nat.le_max_right n m) H' r hm
      | pan v H' => exact ⟨n, by show M.bind (x n) (f n) H = some r; unfold M.bind; rw [hn]; exact hr⟩
  · have hr' : M.bind (x n) (f n) H = some r := hr
    unfold M.bind at hr' ⊢
    cases hx : x n H with
    | none => rw [hx] at hr'; simp at hr'
    | some o =>
      rw [hx] at hr'
      rw [(h.lim H o).mpr ⟨n, hx⟩]
      cases o with
      | ok a H' => exact ((hf a).lim H' r).mpr ⟨n, hr'⟩
      | pan v H' => exact hr'
theorem condM {c : PV} {x x' : Nat → M α} {y y' : M α} (h : Conv x y) (h' : Conv x' y') : Conv (fun n => condM c (x n) (x' n)) (condM c y y') := by
  unfold Pi.condM
  cases c with
  | bool b => cases b <;> assumption
  | _ => exact Conv.const _
theorem gd {c : PV} {w : Bool} {x : Nat → M PV} {y : M PV} (h : Conv x y) : Conv (fun n => gd c w (x n)) (gd c w y) := by
  unfold Pi.gd
  cases c with
  | bool b =>
    simp only
    cases (b == w)
    · exact Conv.const _
    · exact h
  | tup vs => cases vs <;> exact Conv.const _
  | _ => exact Conv.const _
theorem trunc {x : Nat → M PV} {y : M PV} (h : Conv x y) : Conv (fun n => trunc (x n)) (trunc y) := by
  refine ⟨fun n => Le.trunc (h.up n), fun H r => ⟨fun hr => ?_, fun ⟨n, hr⟩ => ?_⟩⟩
  · unfold Pi.trunc at hr
    cases hy : y H with
    | none => rw [hy] at hr; simp at hr
    | some o =>
      rw [hy] at hr
      obtain ⟨n, hn⟩ := (h.lim H o).mp hy
      exact ⟨n, by show Pi.trunc (x n) H = some r; unfold Pi.trunc; rw [hn]; exact hr⟩
  · have hr' : Pi.trunc (x n) H = some r := hr
    unfold Pi.trunc at hr' ⊢
    cases hx : x n H with
    | none => rw [hx] at hr'; simp at hr'
    | some o =>
      rw [hx] at hr'
      rw [(h.lim H o).mpr ⟨n, hx⟩]
      exact hr'
end Conv
structure Ctx.Conv (c : Nat → Ctx) (d : Ctx) : Prop where
  P : ∀ n, (c n).P = d.P
  pr : ∀ n, (c n).prot = d.prot
  C : ∀ f a, Pi.Conv (fun n => (c n).C f a) (d.C f a)
  CD : ∀ r f a, Pi.Conv (fun n => (c n).CD r f a) (d.CD r f a)
  rc : ∀ n, (c n).rc = d.rc
  res : ∀ n e, (c n).res e = d.res e
theorem umi {P : Program} {C : Nat → CallT} {D : CallT} (h : ∀ f a, Conv (fun n => C n f a) (D f a)) (f : PV) (a : List PV) : Conv (fun n => callV P (C n) f a) (callV P D f a) := by
  unfold callV
  cases f <;> first | exact h _ _ | exact Conv.const _
theorem ui0 {P : Program} {C : Nat → CallT} {D : CallT} (h : ∀ f a, Conv (fun n => C n f a) (D f a)) (rc : Option (Option PV)) (ops : Array Oper) (env : Env) (o : Oper) :
    Conv (fun n => opVal P (C n) rc ops env o) (opVal P D rc ops env o) := by
  unfold opVal
  split <;> first | exact umi h _ _ | exact Conv.const _
theorem u5e {P : Program} {C : Nat → CallT} {D : CallT} (h : ∀ f a, Conv (fun n => C n f a) (D f a)) (rc : Option (Option PV)) (ops : Array Oper) (env : Env) (o : Oper) :
    Conv (fun n => gval P (C n) rc ops env o) (gval P D rc ops env o) := by
  unfold gval
  split
  · exact ui0 h rc ops env o
  · split
    · exact Conv.gd (ui0 h rc ops env o)
    · exact Conv.const _
theorem Conv.guardM {α : Type} {b : Bool} {x : Nat → M α} {y : M α} (h : Conv x y) : Conv (fun n => guardM b (x n)) (guardM b y) := by
  unfold Pi.guardM
  cases b
  · exact Conv.const _
  · exact h
theorem Conv.noPan {x : Nat → M PV} {y : M PV} (h : Conv x y) : Conv (fun n => noPan (x n)) (noPan y) := by
  refine ⟨fun n => Le.noPan (h.up n), fun H r => ⟨fun hr => ?_, fun ⟨n, hr⟩ => ?_⟩⟩
  · unfold Pi.noPan at hr
    cases hy : y H with
    | none => rw [hy] at hr; simp at hr
    | some o =>
      rw [hy] at hr
      obtain ⟨n, hn⟩ := (h.lim H o).mp hy
      exact ⟨n, by show Pi.noPan (x n) H = some r; unfold Pi.noPan; rw [hn]; exact hr⟩
  · have hr' : Pi.noPan (x n) H = some r := hr
    unfold Pi.noPan at hr' ⊢
    cases hx : x n H with
    | none => rw [hx] at hr'; simp at hr'
    | some o =>
      rw [hx] at hr'
      rw [(h.lim H o).mpr ⟨n, hx⟩]
      exact hr'
theorem ulw {CD : Nat → Option PV → CallT} {DD : Option PV → CallT} (h : ∀ r f a, Conv (fun n => CD n r f a) (DD r f a)) {f : PV} {args : List PV} {x : Nat → M PV} {y rx : M PV} (hx : Conv x y) :
    Conv (fun n => deferM (CD n) f args (x n) rx) (deferM DD f args y rx) := by
  cases f with
  | fn f first caps =>
    have hok := fun (a : PV) => Conv.bind (h none f (first ++ args ++ caps)) (fun (_ : PV) => Conv.const rx)
    have hpan := fun (v : PV) => Conv.bind (h (some v) f (first ++ args ++ caps)) (fun (q : PV) => Conv.const (match q with | .tup [] => rx | _ => M.fail))
    refine ⟨fun n => uew (fun r g a => (h r g a).up n) (hx.up n) (Le.refl _), fun H r => ⟨fun hr => ?_, fun ⟨n, hr⟩ => ?_⟩⟩
    · unfold deferM at hr
      simp only at hr
      cases hy : y H with
      | none => rw [hy] at hr; simp at hr
      | some o =>
        rw [hy] at hr
        obtain ⟨n, hn⟩ := (hx.lim H o).mp hy
        cases o with
        | ok a H' =>
          obtain ⟨m, hm⟩ := ((hok a).lim H' r).mp hr
          refine ⟨max n m, ?_⟩
          show deferM _ _ _ _ _ H = some r
          unfold deferM
          simp only
          rw [hx.le (Nat.le_max_left n m) H _ hn]
          exact (hok a).le (Nat.le_max_right n m) H' r hm
        | pan v H' =>
          obtain ⟨m, hm⟩ := ((hpan v).lim H' r).mp hr
          refine ⟨max n m, ?_⟩
          show deferM _ _ _ _ _ H = some r
          unfold deferM
          simp only
          rw [hx.le (Nat.le_max_left n m) H _ hn]
          exact (hpan v).le (Nat.le_max_right n m) H' r hm
    · have hr' : deferM (CD n) (.fn f first caps) args (x n) rx H = some r := hr
      unfold deferM at hr' ⊢
      simp only at hr' ⊢
      cases hxx : x n H with
      | none => rw [hxx] at hr'; simp at hr'
      | some o =>
        rw [hxx] at hr'
        rw [(hx.lim H o).mpr ⟨n, hxx⟩]
        cases o with
        | ok a H' => exact ((hok a).lim H' r).mpr ⟨n, hr'⟩
        | pan v H' => exact ((hpan v).lim H' r).mpr ⟨n, hr'⟩
  | _ => exact Conv.const (fun _ => none)
theorem ufr {c : Nat → Ctx} {d : Ctx} (h : Ctx.Conv c d) (ops : Array Oper) : ∀ (l : List Oper) (env : Env) {k : Nat → Env → M PV} {k' : Env → M PV}, (∀ e, Conv (fun n => k n e) (k' e)) →
    Conv (fun n => dOps (c n) ops l env (k n)) (dOps d ops l env k')
  | [], env, k, k', hk => hk env
  | o :: r, env, k, k', hk => by
    simp only [u5l]
    simp only [h.rc, h.P, h.res, h.pr]
    refine Conv.guardM ?_
    split
    · split
      · exact Conv.guardM (ulw h.CD (ufr h ops r _ hk))
      · exact Conv.const _
    · exact Conv.bind (u5e h.C _ _ _ _) (fun v => ufr h ops r _ hk)
theorem Conv.nb {α β : Type} {x : Nat → M α} {y : M α} {f : Nat → α → M β} {g : α → M β} (h : Conv x y) (hf : ∀ a, Conv (fun n => f n a) (g a)) : Conv (fun n => nb (x n) (f n)) (nb y g) := by
  refine ⟨fun n => Le.nb (h.up n) (fun a => (hf a).up n), fun H r => ⟨fun hr => ?_, fun ⟨n, hr⟩ => ?_⟩⟩
  · obtain ⟨v, h1, h2⟩ := nb_some.mp hr
    obtain ⟨n, hn⟩ := (h.lim H _).mp h1
    obtain ⟨m, hm⟩ := ((hf v).lim H r).mp h2
    exact ⟨max n m, nb_some.mpr ⟨v, h.le (Nat.le_max_left n m) H _ hn, (hf v).le (Nat.le_max_right n m) H r hm⟩⟩
  · obtain ⟨v, h1, h2⟩ := nb_some.mp hr
    exact nb_some.mpr ⟨v, (h.lim H _).mpr ⟨n, h1⟩, ((hf v).lim H r).mpr ⟨n, h2⟩⟩
theorem uho {c : Nat → Ctx} {d : Ctx} (h : Ctx.Conv c d) (ops : Array Oper) : ∀ (l : List Oper) (env : Env) {k : Nat → Env → M PV} {k' : Env → M PV}, (∀ e, Conv (fun n => k n e) (k' e)) →
    Conv (fun n => dOpsN (c n) ops l env (k n)) (dOpsN d ops l env k')
  | [], env, k, k', hk => hk env
  | o :: r, env, k, k', hk => by
    simp only [u6a]
    simp only [h.rc, h.P, h.pr]
    exact Conv.guardM (Conv.nb (u5e h.C _ _ _ _) (fun v => uho h ops r _ hk))
theorem uck {c : Nat → Ctx} {d : Ctx} (h : Ctx.Conv c d) (ops : Array Oper) : ∀ (l : List Oper) (i : Nat) (ts : List (Nat × Touch)) (env : Env) {k : Nat → Env → M PV} {k' : Env → M PV}, (∀ e, Conv (fun n => k n e) (k' e)) →
    Conv (fun n => dOpsW (c n) ops i ts l env (k n)) (dOpsW d ops i ts l env k')
  | [], i, ts, env, k, k', hk => hk env
  | o :: r, i, ts, env, k, k', hk => by
    simp only [dOpsW]
    simp only [h.rc, h.P, h.pr]
    refine Conv.guardM ?_
    cases u14 o
    · exact Conv.nb (u5e h.C _ _ _ _) (fun v => uck h ops r _ _ _ hk)
    · exact Conv.bind (Conv.noPan (u5e h.C _ _ _ _)) (fun v => uck h ops r _ _ _ hk)
theorem u8h {β : Type} {c : Nat → Ctx} {d : Ctx} (h : Ctx.Conv c d) (ops : Array Oper) : ∀ (l : List Nat) (env : Env) {k : Nat → Env → M β} {k' : Env → M β}, (∀ e, Conv (fun n => k n e) (k' e)) →
    Conv (fun n => dOpsL (c n) ops l env (k n)) (dOpsL d ops l env k')
  | [], env, k, k', hk => hk env
  | i :: r, env, k, k', hk => by
    simp only [dOpsL]
    cases ops[i]? with
    | none => exact Conv.const _
    | some o =>
      dsimp only
      simp only [h.rc, h.P, h.pr]
      exact Conv.guardM (Conv.bind (Conv.noPan (u5e h.C _ _ _ _)) (fun v => u8h h ops r _ hk))
theorem Conv.chk {α β : Type} {m m' : Nat → M α} {n n' : M α} {x : Nat → M β} {y : M β} (h : Conv m n) (h' : Conv m' n') (hx : Conv x y) : Conv (fun i => chk (m i) (m' i) (x i)) (chk n n' y) := by
  refine ⟨fun i => Le.chk (h.up i) (h'.up i) (hx.up i), fun H r => ⟨fun hr => ?_, fun ⟨i, hr⟩ => ?_⟩⟩
  · obtain ⟨a, K, h1, h2, h3⟩ := chk_some.mp hr
    obtain ⟨i1, j1⟩ := (h.lim H _).mp h1
    obtain ⟨i2, j2⟩ := (h'.lim H _).mp h2
    obtain ⟨i3, j3⟩ := (hx.lim H _).mp h3
    exact ⟨max i1 (max i2 i3), chk_some.mpr ⟨a, K, h.le (by omega) H _ j1, h'.le (by omega) H _ j2, hx.le (by omega) H _ j3⟩⟩
  · obtain ⟨a, K, h1, h2, h3⟩ := chk_some.mp hr
    exact chk_some.mpr ⟨a, K, (h.lim H _).mpr ⟨i, h1⟩, (h'.lim H _).mpr ⟨i, h2⟩, (hx.lim H _).mpr ⟨i, h3⟩⟩
theorem uli {c : Nat → Ctx} {d : Ctx} (h : Ctx.Conv c d) (ops : Array Oper) (env : Env) (σ0 : List Nat) : ∀ (l : List (List Nat)) {x : Nat → M PV} {y : M PV}, Conv x y → Conv (fun n => chkL (c n) ops env σ0 l (x n)) (chkL d ops env σ0 l y)
  | [], x, y, hx => hx
  | σ :: r, x, y, hx => Conv.chk (u8h h ops σ env (fun _ => Conv.const _)) (u8h h ops σ0 env (fun _ => Conv.const _)) (uli h ops env σ0 r hx)
theorem u79 {β : Type} {c : Nat → Ctx} {d : Ctx} (h : Ctx.Conv c d) (ops : Array Oper) : ∀ (l : List Nat) (ts : List (Nat × Touch)) (env : Env) {k : Nat → Env → M β} {k' : Env → M β}, (∀ e, Conv (fun n => k n e) (k' e)) →
    Conv (fun n => dOpsA (c n) ops l ts env (k n)) (dOpsA d ops l ts env k')
  | [], ts, env, k, k', hk => hk env
  | i :: r, ts, env, k, k', hk => by
    simp only [dOpsA]
    cases ops[i]? with
    | none => exact Conv.const _
    | some o =>
      dsimp only
      simp only [h.rc, h.P, h.pr]
      refine Conv.guardM ?_
      cases u14 o || isAl o
      · exact Conv.nb (u5e h.C _ _ _ _) (fun v => Conv.guardM (u79 h ops r _ _ hk))
      · exact Conv.bind (Conv.noPan (u5e h.C _ _ _ _)) (fun v => Conv.guardM (u79 h ops r _ _ hk))
theorem Conv.chkA {β : Type} {m m' : Nat → M Env} {n n' : M Env} {x : Nat → M β} {y : M β} (h : Conv m n) (h' : Conv m' n') (hx : Conv x y) : Conv (fun i => chkA (m i) (m' i) (x i)) (chkA n n' y) := by
  refine ⟨fun i => Le.chkA (h.up i) (h'.up i) (hx.up i), fun H r => ⟨fun hr => ?_, fun ⟨i, hr⟩ => ?_⟩⟩
  · obtain ⟨e2, H2, e1, H1, h1, h2, h3, h4⟩ := chkA_some.mp hr
    obtain ⟨i1, j1⟩ := (h.lim H _).mp h1
    obtain ⟨i2, j2⟩ := (h'.lim H _).mp h2
    obtain ⟨i3, j3⟩ := (hx.lim H _).mp h4
    exact ⟨max i1 (max i2 i3), chkA_some.mpr ⟨e2, H2, e1, H1, h.le (by omega) H _ j1, h'.le (by omega) H _ j2, h3, hx.le (by omega) H _ j3⟩⟩
  · obtain ⟨e2, H2, e1, H1, h1, h2, h3, h4⟩ := chkA_some.mp hr
    exact chkA_some.mpr ⟨e2, H2, e1, H1, (h.lim H _).mpr ⟨i, h1⟩, (h'.lim H _).mpr ⟨i, h2⟩, h3, (hx.lim H _).mpr ⟨i, h4⟩⟩
theorem uku {c : Nat → Ctx} {d : Ctx} (h : Ctx.Conv c d) (ops : Array Oper) (env : Env) {k : Nat → Env → M PV} {k' : Env → M PV} (hk : ∀ e, Conv (fun n => k n e) (k' e)) : Conv (fun n => dOpsAA (c n) ops env (k n)) (dOpsAA d ops env k') := by
  unfold dOpsAA
  split
  · exact Conv.chkA (u79 h ops _ _ env fun _ => Conv.const _) (u79 h ops _ _ env fun _ => Conv.const _) (u79 h ops _ _ env hk)
  · exact Conv.const _
theorem uej {c : Nat → Ctx} {d : Ctx} (h : Ctx.Conv c d) (ops : Array Oper) (m : Nat) (env : Env) {k : Nat → Env → M PV} {k' : Env → M PV} (hk : ∀ e, Conv (fun n => k n e) (k' e)) : Conv (fun n => dOpsPN (c n) ops m env (k n)) (dOpsPN d ops m env k') := by
  unfold dOpsPN
  refine Conv.guardM ?_
  cases ordsN ops m with
  | nil => exact Conv.const _
  | cons σ0 r => exact uli h ops env σ0 r (u8h h ops σ0 env hk)
theorem uir {c : Nat → Ctx} {d : Ctx} (h : Ctx.Conv c d) (ops : Array Oper) (m : Nat) {k : Nat → Env → M PV} {k' : Env → M PV} (hk : ∀ e, Conv (fun n => k n e) (k' e)) (e : Env) : Conv (fun n => u5j (c n) ops m (k n) e) (u5j d ops m k' e) := by
  unfold u5j
  cases ops[m]? with
  | none => exact Conv.const _
  | some o =>
    dsimp only
    simp only [h.rc, h.P, h.pr]
    exact Conv.guardM (Conv.bind (u5e h.C _ _ _ _) (fun v => hk _))
theorem un0 {c : Nat → Ctx} {d : Ctx} (h : Ctx.Conv c d) (ops : Array Oper) (env : Env) {k : Nat → Env → M PV} {k' : Env → M PV} (hk : ∀ e, Conv (fun n => k n e) (k' e)) : Conv (fun n => dOpsP (c n) ops env (k n)) (dOpsP d ops env k') := by
  unfold dOpsP
  cases lastB ops
  · exact uej h ops _ env hk
  · exact uej h ops _ env (uir h ops _ hk)
theorem cv_den {c : Nat → Ctx} {d : Ctx} (h : Ctx.Conv c d) {L : Nat → LoopT} {L' : LoopT}
    (hL : ∀ af b env (k : Nat → K) (k' : K), (∀ e en, Conv (fun n => k n e en) (k' e en)) → Conv (fun n => L n af b env (k n)) (L' af b env k')) :
    ∀ (co : Code) (af : List Tmp) (env : Env) (k : Nat → K) (k' : K), (∀ e en, Conv (fun n => k n e en) (k' e en)) → Conv (fun n => den (c n) (L n) af co env (k n)) (den d L' af co env k')
  | .skip, af, env, k, k', hk => hk _ _
  | .region _ ops false, af, env, k, k', hk => ufr h ops _ _ (hk _)
  | .region _ ops true, af, env, k, k', hk => by
    show Conv (fun n => guardM ((c n).P.follows .mixedOrders && commB ops) (bif modeA ops && ((c n).rc.isNone && (c n).prot.isEmpty) then dOpsAA (c n) ops env (k n .normal) else bif modeP ops && (c n).rc.isNone then dOpsP (c n) ops env (k n .normal) else bif ops.any u14 || (c n).rc.isSome then dOpsW (c n) ops 0 [] ops.toList env (k n .normal) else dOpsN (c n) ops ops.toList env (k n .normal))) (guardM (d.P.follows .mixedOrders && commB ops) (bif modeA ops && (d.rc.isNone && d.prot.isEmpty) then _ else bif modeP ops && d.rc.isNone then _ else bif ops.any u14 || d.rc.isSome then _ else _))
    simp only [h.rc, h.P, h.pr]
    refine Conv.guardM ?_
    cases modeA ops && (d.rc.isNone && d.prot.isEmpty)
    case true => exact uku h ops _ (hk _)
    cases modeP ops && d.rc.isNone
    · cases ops.any u14 || d.rc.isSome
      · exact uho h ops _ _ (hk _)
      · exact uck h ops _ _ _ _ (hk _)
    · exact un0 h ops _ (hk _)
  | .seq a b, af, env, k, k', hk => by
    refine cv_den h hL a _ env (fun n => fun | .normal, env' => bif (c n).rc.isNone && joinB a then L n af b (keep ((rw b).1 ++ af) env') (k n) else den (c n) (L n) af b env' (k n) | e, env' => k n e env') (fun | .normal, env' => bif d.rc.isNone && joinB a then L' af b (keep ((rw b).1 ++ af) env') k' else den d L' af b env' k' | e, env' => k' e env') fun e en => ?_
    cases e with
    | normal =>
      show Conv (fun n => bif (c n).rc.isNone && joinB a then L n af b (keep ((rw b).1 ++ af) en) (k n) else den (c n) (L n) af b en (k n)) (bif d.rc.isNone && joinB a then _ else _)
      simp only [h.rc]
      cases d.rc.isNone && joinB a
      · exact cv_den h hL b _ _ _ _ hk
      · exact hL _ _ _ _ _ hk
    | exit i => exact hk _ _
    | ret => exact hk _ _
  | .cond x a b, af, env, k, k', hk => Conv.condM (cv_den h hL a _ env _ _ hk) (cv_den h hL b _ env _ _ hk)
  | .block id b, af, env, k, k', hk => by
    refine cv_den h hL b _ env (fun n => fun | .exit i, env' => bif i == id then k n .normal env' else k n (.exit i) env' | e, env' => k n e env') (fun | .exit i, env' => bif i == id then k' .normal env' else k' (.exit i) env' | e, env' => k' e env') fun e en => ?_
    cases e with
    | normal => exact hk _ _
    | exit i => cases hi : (i == id) <;> simp only [hi, cond_true, cond_false] <;> exact hk _ _
    | ret => exact hk _ _
  | .loop b, af, env, k, k', hk => hL _ _ _ _ _ hk
  | .exit id, af, env, k, k', hk => hk _ _
  | .label _, af, env, k, k', hk => hk _ _
  | .ret, af, env, k, k', hk => hk _ _
  | .rangeFunc .., af, env, k, k', hk => Conv.const _
  | .scope _, af, env, k, k', hk => Conv.const _
  | .goto _, af, env, k, k', hk => Conv.const _
  | .refuse _, af, env, k, k', hk => Conv.const _
theorem cv_go1 {c : Nat → Ctx} {d : Ctx} (h : Ctx.Conv c d) {L : Nat → LoopT} {L' : LoopT}
    (hL : ∀ af b env (k : Nat → K) (k' : K), (∀ e en, Conv (fun n => k n e en) (k' e en)) → Conv (fun n => L n af b env (k n)) (L' af b env k'))
    (af : List Tmp) (co : Code) (env : Env) (k : Nat → K) (k' : K) (hk : ∀ e en, Conv (fun n => k n e en) (k' e en)) : Conv (fun n => go1 (c n) (L n) af co env (k n)) (go1 d L' af co env k') := by
  cases co with
  | loop b =>
    refine cv_den h hL b _ env (fun n => fun | .normal, env' => L n af (.loop b) (keep (alive af b) env') (k n) | e, env' => k n e env') (fun | .normal, env' => L' af (.loop b) (keep (alive af b) env') k' | e, env' => k' e env') fun e en => ?_
    cases e with
    | normal => exact hL _ _ _ _ _ hk
    | exit i => exact hk _ _
    | ret => exact hk _ _
  | _ => exact cv_den h hL _ _ _ _ _ hk
noncomputable def limM {α : Type} (x : Nat → M α) : M α := fun H => by
  classical
  exact if h : ∃ r n, x n H = some r then some (Classical.choose h) else none
theorem Conv.limM {α : Type} {x : Nat → M α} (up : ∀ n, Le (x n) (x (n + 1))) : Conv x (limM x) := by
  refine ⟨up, fun H r => ?_⟩
  have le : ∀ {n m : Nat}, n ≤ m → Le (x n) (x m) := by
    intro n m hnm
    induction hnm with
    | refl => exact Le.refl _
    | step _ ih => exact fun H r hr => up _ H r (ih H r hr)
  unfold Pi.limM
  constructor
  · intro h
    split at h
    · rename_i hh
      obtain ⟨n, hn⟩ := Classical.choose_spec hh
      simp only [Option.some.injEq] at h
      exact ⟨n, h ▸ hn⟩
    · simp at h
  · rintro ⟨n, hn⟩
    have hh : ∃ r n, x n H = some r := ⟨r, n, hn⟩
    rw [dif_pos hh]
    obtain ⟨m, hm⟩ := Classical.choose_spec hh
    have h1 := le (Nat.le_max_left n m) H _ hn
    have h2 := le (Nat.le_max_right n m) H _ hm
    rw [h1] at h2
    exact h2.symm
noncomputable def callW (f : FuncId) (a : List PV) : M PV := limM fun n => (sem P X n).C f a
noncomputable def callDW (r : Option PV) (f : FuncId) (a : List PV) : M PV := limM fun n => (sem P X n).CD r f a
noncomputable def loopW (rc : Option (Option PV)) (pr : List Tmp) (res : Env → M PV) : LoopT := fun af b env k => limM fun n => (sem P X n).L rc pr res af b env k
noncomputable def ctxW (rc : Option (Option PV)) (pr : List Tmp) (res : Env → M PV) : Ctx := ⟨P, pr, callW P X, callDW P X, rc, res⟩
theorem uc5 (f : FuncId) (a : List PV) : Conv (fun n => (sem P X n).C f a) (callW P X f a) := Conv.limM fun n => (u4z P X n).C f a
theorem uha (r : Option PV) (f : FuncId) (a : List PV) : Conv (fun n => (sem P X n).CD r f a) (callDW P X r f a) := Conv.limM fun n => (u4z P X n).CD r f a
theorem uf9 (rc : Option (Option PV)) (pr : List Tmp) (res : Env → M PV) : ∀ (af : List Tmp) (b : Code) (env : Env) (k : Nat → K) (k' : K), (∀ e en, Conv (fun n => k n e en) (k' e en)) →
    Conv (fun n => (sem P X n).L rc pr res af b env (k n)) (loopW P X rc pr res af b env k') := by
  intro af b env k k' hk
  have up1 : ∀ n, Le ((sem P X n).L rc pr res af b env k') ((sem P X (n + 1)).L rc pr res af b env k') := fun n => (u4z P X n).L rc pr res res (fun _ => Le.refl _) _ _ _ _ _ (fun _ _ => Le.refl _)
  have up2 : ∀ n, Le ((sem P X n).L rc pr res af b env (k n)) ((sem P X (n + 1)).L rc pr res af b env (k (n + 1))) := fun n => (u4z P X n).L rc pr res res (fun _ => Le.refl _) _ _ _ _ _ (fun e en => (hk e en).up n)
  have hlim := Conv.limM up1
  -- at one depth: what is behind grows
  have key : ∀ n af b env, (k : Nat → K) → (k' : K) → (∀ e en, Conv (fun n => k n e en) (k' e en)) → Conv (fun m => (sem P X n).L rc pr res af b env (k m)) ((sem P X n).L rc pr res af b env k') := by
    intro n
    induction n with
    | zero => exact fun _ _ _ _ _ _ => Conv.const _
    | succ n ih =>
      intro af b env k k' hk
      exact cv_go1 (c := fun _ => ⟨P, pr, (sem P X n).C, (sem P X n).CD, rc, res⟩) ⟨fun _ => rfl, fun _ => rfl, fun _ _ => Conv.const _, fun _ _ _ => Conv.const _, fun _ => rfl, fun _ _ => rfl⟩
        (L := fun _ => (sem P X n).L rc pr res) (fun af b env k k' hk => ih af b env k k' hk) _ _ _ _ _ hk
  refine ⟨up2, fun H r => ⟨fun hr => ?_, fun ⟨n, hr⟩ => ?_⟩⟩
  · obtain ⟨n, hn⟩ := (hlim.lim H r).mp hr
    obtain ⟨m, hm⟩ := ((key n af b env k k' hk).lim H r).mp hn
    refine ⟨max n m, ?_⟩
    have h1 := (key n af b env k k' hk).le (Nat.le_max_right n m) H r hm
    have h2 : ∀ {a b' : Nat}, a ≤ b' → Le ((sem P X a).L rc pr res af b env (k (max n m))) ((sem P X b').L rc pr res af b env (k (max n m))) := by
      intro a b' hab
      induction hab with
      | refl => exact Le.refl _
      | step _ ih => exact fun H r hr => (u4z P X _).L rc pr res res (fun _ => Le.refl _) _ _ _ _ _ (fun _ _ => Le.refl _) H r (ih H r hr)
    exact h2 (Nat.le_max_left n m) H r h1
  · exact (hlim.lim H r).mpr ⟨n, ((key n af b env k k' hk).lim H r).mpr ⟨n, hr⟩⟩
theorem ul4 {α : Type} {x : Nat → M α} {y z : M α} (h : Conv x y) (h' : Conv (fun n => x (n + 1)) z) : y = z := by
  funext H
  cases hz : z H with
  | some r =>
    obtain ⟨n, hn⟩ := (h'.lim H r).mp hz
    exact (h.lim H r).mpr ⟨n + 1, hn⟩
  | none =>
    cases hy : y H with
    | none => rfl
    | some r =>
      obtain ⟨n, hn⟩ := (h.lim H r).mp hy
      have := (h'.lim H r).mpr ⟨n, h.up n H r hn⟩
      rw [hz] at this
      cases this
theorem umv (f : FuncId) (a : List PV) : Conv (fun n => fnDen P (sem P X n).C (sem P X n).CD (sem P X n).L f a) (fnDen P (callW P X) (callDW P X) (loopW P X) f a) := by
  unfold fnDen
  split
  · rename_i fn hfn
    split
    · refine Conv.guardM (Conv.trunc (cv_den (c := fun n => ⟨P, protOf fn, (sem P X n).C, (sem P X n).CD, none, resM P fn⟩) (d := ⟨P, protOf fn, callW P X, callDW P X, none, resM P fn⟩) ⟨fun _ => rfl, fun _ => rfl, uc5 P X, uha P X, fun _ => rfl, fun _ _ => rfl⟩ (L := fun n => (sem P X n).L none (protOf fn) _) (uf9 P X none _ _) _ _ _ _ _ fun e en => ?_))
      exact Conv.const _
    · exact Conv.const _
  · exact Conv.const _
theorem u0o {f : FuncId} (h : X f = none) (a : List PV) : callW P X f a = fnDen P (callW P X) (callDW P X) (loopW P X) f a := by
  refine ul4 (uc5 P X f a) ?_
  show Conv (fun n => match X f with | some m => m a | none => fnDen P (sem P X n).C (sem P X n).CD (sem P X n).L f a) _
  rw [h]
  exact umv P X f a
theorem uma (rc : Option (Option PV)) (pr : List Tmp) (res : Env → M PV) (af : List Tmp) (b : Code) (env : Env) (k : K) :
    loopW P X rc pr res af b env k = go1 (ctxW P X rc pr res) (loopW P X rc pr res) af b env k := by
  refine ul4 (uf9 P X rc pr res af b env (fun _ => k) k (fun _ _ => Conv.const _)) ?_
  exact cv_go1 (c := fun n => ⟨P, pr, (sem P X n).C, (sem P X n).CD, rc, res⟩) ⟨fun _ => rfl, fun _ => rfl, uc5 P X, uha P X, fun _ => rfl, fun _ _ => rfl⟩ (L := fun n => (sem P X n).L rc pr res) (uf9 P X rc pr res) _ _ _ _ _ (fun _ _ => Conv.const _)
end Go.Proofs.YtiiepllnnjjmaaaDoor.Pi
namespace Go.Proofs.YtiiepllnnjjmaaaDoor.Pi
inductive Owner where
  | tmp (t : Nat) | cell (id o : Nat) | res | sub (L : Owner) (j : Nat) | up (L : Owner) | dead
  deriving DecidableEq
structure G where
  ι : List Nat
  im : Nat → Nat → Option Value
  ow : Nat → Option (Owner × Nat)
inductive RepF (im : Nat → Nat → Option Value) : PV → Value → Prop
  | int (k n) : RepF im (.int k n) (.int k n)
  | bool (b) : RepF im (.bool b) (.bool b)
  | str (s) : RepF im (.str s) (.string s)
  | nil : RepF im .nil (.pointer none)
  | nilfn : RepF im .nilfn .nilFunc
  | niliface : RepF im .niliface .nilIface
  | snil (sz) : RepF im (.slice false true sz []) (.slice none 0 0)
  | slice {g o cap sz : Nat} {sp : Option Nat} {xs : List PV} (vs : Nat → Nat → Value) (hsp : sp = none ∨ cap = 0) (hc : xs.length ≤ cap) (hsz : ∀ (i : Nat) (x : PV), xs[i]? = some x → x.cells.length = sz)
      (him : ∀ (i : Nat) (x : PV) (j : Nat) (c : PV), xs[i]? = some x → x.cells[j]? = some c → im g (o + i * sz + j) = some (vs i j))
      (hr : ∀ (i : Nat) (x : PV) (j : Nat) (c : PV), xs[i]? = some x → x.cells[j]? = some c → RepF im c (vs i j)) :
      RepF im (.slice false false sz xs) (.slice (some ⟨g, o, sp⟩) xs.length cap)
inductive Rep (ι : List Nat) (im : Nat → Nat → Option Value) : PV → Value → Prop
  | flat {p v} (h : RepF im p v) : Rep ι im p v
  | ptr {id off g : Nat} (h : ι[id]? = some g) : Rep ι im (.ptr id off) (.pointer (some ⟨g, off, none⟩))
  | elem {g o : Nat} {cs : List PV} (vs : Nat → Value) (him : ∀ (j : Nat) (c : PV), cs[j]? = some c → im g (o + j) = some (vs j)) (hr : ∀ (j : Nat) (c : PV), cs[j]? = some c → RepF im c (vs j)) :
      Rep ι im (.elem cs) (.pointer (some ⟨g, o, none⟩))
  | fn {f : FuncId} {first caps : List PV} {fv cv : Array Value} (h1 : fv.size = first.length) (h2 : cv.size = caps.length)
      (r1 : ∀ (j : Nat) (c : PV) (v : Value), first[j]? = some c → fv[j]? = some v → Rep ι im c v) (r2 : ∀ (j : Nat) (c : PV) (v : Value), caps[j]? = some c → cv[j]? = some v → Rep ι im c v) :
      Rep ι im (.fn f first caps) (.func (.func f) fv cv)
  | iface {t p v} (h : Rep ι im p v) : Rep ι im (.iface t p) (.iface t v)
  | agg {cs : List PV} {vs : Array Value} (h1 : vs.size = cs.length) (hc : ∀ (j : Nat) (c : PV), cs[j]? = some c → isCell c = true)
      (r : ∀ (j : Nat) (c : PV) (v : Value), cs[j]? = some c → vs[j]? = some v → Rep ι im c v) : Rep ι im (.agg cs) (.agg vs)
inductive RepS (g : G) (L : Owner) : PV → Value → Prop
  | undef (v) : RepS g L .undef v
  | pure {p v} (h : Rep g.ι g.im p v) : RepS g L p v
  | own {b o cap sz : Nat} {xs : List PV} {s : Nat} (vs : Nat → Nat → Value) (hc : xs.length ≤ cap) (hsz : ∀ (i : Nat) (x : PV), xs[i]? = some x → x.cells.length = sz)
      (him : ∀ (i : Nat) (x : PV) (j : Nat) (c : PV), xs[i]? = some x → x.cells[j]? = some c → g.im b (o + i * sz + j) = some (vs i j))
      (hr : ∀ (i : Nat) (x : PV) (j : Nat) (c : PV), xs[i]? = some x → x.cells[j]? = some c → RepF g.im c (vs i j))
      (how : g.ow b = some (L, s)) (hs : o + cap * sz ≤ s) (hroom : ∀ off, o + xs.length * sz ≤ off → g.im b off = none) :
      RepS g L (.slice true false sz xs) (.slice (some ⟨b, o, none⟩) xs.length cap)
inductive RepT (g : G) (L : Owner) : PV → Value → Prop
  | one {p v} (h : RepS g L p v) : RepT g L p v
  | tup {ps : List PV} {vs : Array Value} (h1 : vs.size = ps.length) (r : ∀ (j : Nat) (p : PV) (v : Value), ps[j]? = some p → vs[j]? = some v → RepS g (.sub L j) p v) : RepT g L (.tup ps) (.tuple vs)
  | aggo {ps : List PV} {vs : Array Value} (h1 : vs.size = ps.length) (hc : ∀ (j : Nat) (c : PV), ps[j]? = some c → isCell c = true) (r : ∀ (j : Nat) (p : PV) (v : Value), ps[j]? = some p → vs[j]? = some v → RepS g (.sub L j) p v) : RepT g L (.aggo ps) (.agg vs)
def BoxOk (g : G) (w : World) (id b : Nat) : Box → Prop
  | .cells cs => g.ow b = none ∧ (∀ o, g.im b o = none) ∧ ∃ vs T, w.heap[b]? = some (.cells vs T (0, 0)) ∧ vs.size = cs.length ∧
      ∀ (o : Nat) (c : PV) (v : Value), cs[o]? = some c → vs[o]? = some v → RepS g (.cell id o) c v ∧ isCell c = true ∧ c.low (id + 1) = true
  | .iter s pos => g.ow b = none ∧ (∀ o, g.im b o = none) ∧ w.heap[b]? = some (.stringIter s pos)
  | .dead => b < w.heap.size
def GlobOk (im : Nat → Nat → Option Value) : Prop := ∀ b, GT b = .undef ∨ Rep [] im (GT b) (.pointer (some ⟨b, 0, none⟩))
structure Inv (g : G) (H : Heap) (w : World) : Prop where
  len : g.ι.length = H.length
  nd : ∀ (i j b : Nat), g.ι[i]? = some b → g.ι[j]? = some b → i = j
  im : ∀ b o v, g.im b o = some v → w.cell? ⟨b, o, none⟩ = some v
  ow : ∀ (b : Nat) (L : Owner) (s : Nat), g.ow b = some (L, s) → ∃ cs T, w.heap[b]? = some (.cells cs T (0, 0)) ∧ cs.size = s
  box : ∀ (id b : Nat) (x : Box), g.ι[id]? = some b → H[id]? = some x → BoxOk g w id b x
  gl : GlobOk g.im
structure Grow (S : Owner → Prop) (g g' : G) : Prop where
  ι : ∀ (i b : Nat), g.ι[i]? = some b → g'.ι[i]? = some b
  im : ∀ b o v, g.im b o = some v → g'.im b o = some v
  ow : ∀ (b : Nat) (L : Owner) (s : Nat), S L → g.ow b = some (L, s) → g'.ow b = some (L, s) ∧ ∀ o, g.im b o = none → g'.im b o = none
theorem Grow.refl (S : Owner → Prop) (g : G) : Grow S g g := ⟨fun _ _ h => h, fun _ _ _ h => h, fun _ _ _ _ h => ⟨h, fun _ h => h⟩⟩
theorem Grow.trans {S : Owner → Prop} {a b c : G} (h : Grow S a b) (k : Grow S b c) : Grow S a c :=
  ⟨fun i x hx => k.ι i x (h.ι i x hx), fun x o v hv => k.im x o v (h.im x o v hv), fun x L s hL hx =>
    let ⟨h1, h2⟩ := h.ow x L s hL hx
    let ⟨k1, k2⟩ := k.ow x L s hL h1
    ⟨k1, fun o ho => k2 o (h2 o ho)⟩⟩
theorem Grow.sub {S S' : Owner → Prop} {a b : G} (h : Grow S a b) (hs : ∀ L, S' L → S L) : Grow S' a b := ⟨h.ι, h.im, fun x L s hL hx => h.ow x L s (hs L hL) hx⟩
theorem RepF.mono {im im' : Nat → Nat → Option Value} (him : ∀ b o v, im b o = some v → im' b o = some v) {p : PV} {v : Value} (h : RepF im p v) : RepF im' p v := by
  induction h with
  | int k n => exact .int k n
  | bool b => exact .bool b
  | str s => exact .str s
  | nil => exact .nil
  | nilfn => exact .nilfn
  | niliface => exact .niliface
  | snil sz => exact .snil sz
  | slice vs hsp hc hsz hm _ ih => exact .slice vs hsp hc hsz (fun i x j c h1 h2 => him _ _ _ (hm i x j c h1 h2)) ih
theorem Rep.mono {ι ι' : List Nat} {im im' : Nat → Nat → Option Value} (hι : ∀ (i b : Nat), ι[i]? = some b → ι'[i]? = some b) (him : ∀ b o v, im b o = some v → im' b o = some v) {p : PV} {v : Value} (h : Rep ι im p v) : Rep ι' im' p v := by
  induction h with
  | flat h => exact .flat (h.mono him)
  | ptr h => exact .ptr (hι _ _ h)
  | elem vs hm hr => exact .elem vs (fun j c h => him _ _ _ (hm j c h)) (fun j c h => (hr j c h).mono him)
  | fn h1 h2 _ _ ih1 ih2 => exact .fn h1 h2 ih1 ih2
  | iface _ ih => exact .iface ih
  | agg h1 hc _ ih => exact .agg h1 hc ih
theorem GlobOk.mono {im im' : Nat → Nat → Option Value} (him : ∀ b o v, im b o = some v → im' b o = some v) (h : GlobOk im) : GlobOk im' := fun b => (h b).imp id fun h => h.mono (fun _ _ h => h) him
theorem RepS.mono {S : Owner → Prop} {g g' : G} (hg : Grow S g g') {L : Owner} (hL : S L) {p : PV} {v : Value} (h : RepS g L p v) : RepS g' L p v := by
  cases h with
  | undef => exact .undef v
  | pure h => exact .pure (h.mono hg.ι hg.im)
  | own vs hc hsz him hr how hs hroom =>
    obtain ⟨h1, h2⟩ := hg.ow _ _ _ hL how
    exact .own vs hc hsz (fun i x j c a b => hg.im _ _ _ (him i x j c a b)) (fun i x j c a b => (hr i x j c a b).mono hg.im) h1 hs (fun off ho => h2 _ (hroom off ho))
theorem RepT.mono {S : Owner → Prop} {g g' : G} (hg : Grow S g g') {L : Owner} (hL : S L) (hsub : ∀ j, S (.sub L j)) {p : PV} {v : Value} (h : RepT g L p v) : RepT g' L p v := by
  cases h with
  | one h => exact .one (h.mono hg hL)
  | tup h1 r => exact .tup h1 fun j p v a b => (r j p v a b).mono hg (hsub j)
  | aggo h1 hc r => exact .aggo h1 hc fun j p v a b => (r j p v a b).mono hg (hsub j)
theorem RepS.strip {g : G} {L L' : Owner} {p : PV} {v : Value} (h : RepS g L p v) : RepS g L' (stripC p) v := by
  cases h with
  | undef => exact .undef v
  | pure h =>
    cases h with
    | flat h => cases h <;> (simp only [stripC]; first | exact .pure (.flat (.int _ _)) | exact .pure (.flat (.bool _)) | exact .pure (.flat (.str _)) | exact .pure (.flat .nil) | exact .pure (.flat .nilfn) | exact .pure (.flat .niliface) | exact .pure (.flat (.snil _)) | skip)
                case slice vs hsp hc hsz him hr => exact .pure (.flat (.slice vs hsp hc hsz him hr))
    | ptr h => exact .pure (.ptr h)
    | elem vs a b => exact .pure (.elem vs a b)
    | fn a b c d => exact .pure (.fn a b c d)
    | iface a => exact .pure (.iface a)
    | agg a b c => exact .pure (.agg a b c)
  | own vs hc hsz him hr how hs hroom => exact .pure (.flat (.slice vs (.inl rfl) hc hsz him hr))
theorem RepS.toRep {g : G} {L : Owner} {p : PV} {v : Value} (h : RepS g L p v) (hu : u9y p = false) : Rep g.ι g.im (stripC p) v := by
  have h2 := h.strip (L' := L)
  generalize hq : stripC p = q at h2
  cases h2 with
  | undef =>
    cases p <;> simp [stripC] at hq
    simp [u9y] at hu
  | pure h => exact h
  | own => cases p <;> simp [stripC] at hq
theorem Rep.stripC {ι : List Nat} {im : Nat → Nat → Option Value} {p : PV} {v : Value} (h : Rep ι im p v) : Pi.stripC p = p := by
  cases h with
  | flat h => cases h <;> rfl
  | _ => rfl
theorem RepT.strip {g : G} {L L' : Owner} {p : PV} {v : Value} (h : RepT g L p v) : RepT g L' (strip p) v := by
  cases h with
  | one h =>
    cases p with
    | tup vs =>
      cases h with
      | pure h => cases h with
        | flat h => cases h
    | aggo vs =>
      cases h with
      | pure h => cases h with
        | flat h => cases h
    | slice o z sz xs => exact .one h.strip
    | _ => exact .one (h.strip (L' := L'))
  | tup h1 r =>
    refine .tup (by simpa using h1) fun j p v hp hv => ?_
    simp only [List.getElem?_map, Option.map_eq_some_iff] at hp
    obtain ⟨q, hq, rfl⟩ := hp
    exact (r j q v hq hv).strip
  | aggo h1 hc r =>
    refine .one (.pure (.agg (by simpa using h1) (fun j c hj => ?_) fun j p v hp hv => ?_))
    · simp only [List.getElem?_map, Option.map_eq_some_iff] at hj
      obtain ⟨q, hq, rfl⟩ := hj
      have := hc j q hq
      cases q <;> first | rfl | simp [isCell] at this
    · simp only [List.getElem?_map, Option.map_eq_some_iff] at hp
      obtain ⟨q, hq, rfl⟩ := hp
      have := hc j q hq
      exact (r j q v hq hv).toRep (by cases q <;> first | rfl | simp [isCell] at this)
def IsTmp : Owner → Prop
  | .tmp _ => True
  | .sub L _ => IsTmp L
  | _ => False
def IsUp : Owner → Prop
  | .up _ => True
  | _ => False
def u4f : Owner → Prop
  | .cell _ _ => False
  | _ => True
def IsCell : Owner → Prop
  | .cell _ _ => True
  | _ => False
structure Glob (g : G) (w : World) (g' : G) (w' : World) : Prop where
  os : w'.os = w.os
  tape : w'.tape = w.tape
  output : w'.output = w.output
  size : w.heap.size ≤ w'.heap.size
  old : ∀ (b : Nat), b < w.heap.size → g.ow b = none → b ∉ g.ι → g'.ow b = none ∧ b ∉ g'.ι ∧ w'.heap[b]? = w.heap[b]?
  up : Grow IsUp g g'
theorem Glob.refl (g : G) (w : World) : Glob g w g w := ⟨rfl, rfl, rfl, Nat.le_refl _, fun _ _ h k => ⟨h, k, rfl⟩, Grow.refl _ _⟩
theorem Glob.trans {g g' g'' : G} {w w' w'' : World} (h : Glob g w g' w') (k : Glob g' w' g'' w'') : Glob g w g'' w'' :=
  ⟨k.os.trans h.os, k.tape.trans h.tape, k.output.trans h.output, Nat.le_trans h.size k.size, fun b hb h1 h2 =>
    let ⟨a1, a2, a3⟩ := h.old b hb h1 h2
    let ⟨c1, c2, c3⟩ := k.old b (Nat.lt_of_lt_of_le hb h.size) a1 a2
    ⟨c1, c2, c3.trans a3⟩, h.up.trans k.up⟩
theorem BoxOk.mono {g g' : G} {w w' : World} {id b : Nat} {x : Box} (h : BoxOk g w id b x) (hg : Grow IsCell g g')
    (ho : g.ow b = none → g'.ow b = none) (hi : (∀ o, g.im b o = none) → ∀ o, g'.im b o = none) (hb : w'.heap[b]? = w.heap[b]?) (hs : w.heap.size ≤ w'.heap.size) : BoxOk g' w' id b x := by
  cases x with
  | cells cs =>
    obtain ⟨h1, h2, vs, T, h3, h4, h5⟩ := h
    exact ⟨ho h1, hi h2, vs, T, hb.trans h3, h4, fun o c v hc hv => let ⟨a, r⟩ := h5 o c v hc hv; ⟨a.mono hg (L := .cell id o) True.intro, r⟩⟩
  | iter s pos =>
    obtain ⟨h1, h2, h3⟩ := h
    exact ⟨ho h1, hi h2, hb.trans h3⟩
  | dead => exact Nat.lt_of_lt_of_le h hs
theorem Inv.lt_im {g : G} {H : Heap} {w : World} (h : Inv g H w) {b o : Nat} {v : Value} (hv : g.im b o = some v) : b < w.heap.size := by
  have := h.im b o v hv
  unfold World.cell? at this
  split at this
  · rename_i hb
    exact (Array.getElem?_eq_some_iff.mp hb).1
  · simp at this
theorem Inv.lt_ow {g : G} {H : Heap} {w : World} (h : Inv g H w) {b : Nat} {L : Owner} {s : Nat} (hv : g.ow b = some (L, s)) : b < w.heap.size := by
  obtain ⟨cs, T, hb, _⟩ := h.ow b L s hv
  exact (Array.getElem?_eq_some_iff.mp hb).1
theorem Inv.lt_ι {g : G} {H : Heap} {w : World} (h : Inv g H w) {i b : Nat} (hv : g.ι[i]? = some b) : b < w.heap.size := by
  have hi : i < g.ι.length := (List.getElem?_eq_some_iff.mp hv).1
  rw [h.len] at hi
  have hx : H[i]? = some H[i] := List.getElem?_eq_getElem hi
  have := h.box i b H[i] hv hx
  generalize H[i] = x at this
  cases x with
  | cells cs => obtain ⟨_, _, vs, T, h3, _⟩ := this; exact (Array.getElem?_eq_some_iff.mp h3).1
  | iter s p => obtain ⟨_, _, h3⟩ := this; exact (Array.getElem?_eq_some_iff.mp h3).1
  | dead => exact this
end Go.Proofs.YtiiepllnnjjmaaaDoor.Pi
namespace Go.Proofs.YtiiepllnnjjmaaaDoor.Pi
variable {P : Program} {g : G} {L : Owner} {w : World}
theorem RepS.int {k : IntKind} {n : Int} {v : Value} (h : RepS g L (.int k n) v) : v = .int k n := by
  cases h with
  | pure h => cases h with
    | flat h => cases h; rfl
theorem RepS.bool {b : Bool} {v : Value} (h : RepS g L (.bool b) v) : v = .bool b := by
  cases h with
  | pure h => cases h with
    | flat h => cases h; rfl
theorem RepS.str {s : ByteArray} {v : Value} (h : RepS g L (.str s) v) : v = .string s := by
  cases h with
  | pure h => cases h with
    | flat h => cases h; rfl
theorem RepT.int {k : IntKind} {n : Int} {v : Value} (h : RepT g L (.int k n) v) : v = .int k n := by cases h with | one h => exact h.int
theorem RepT.bool {b : Bool} {v : Value} (h : RepT g L (.bool b) v) : v = .bool b := by cases h with | one h => exact h.bool
theorem RepT.str {s : ByteArray} {v : Value} (h : RepT g L (.str s) v) : v = .string s := by cases h with | one h => exact h.str
theorem RepT.nil {v : Value} (h : RepT g L .nil v) : v = .pointer none := by
  cases h with
  | one h => cases h with
    | pure h => cases h with
      | flat h => cases h; rfl
theorem RepT.nilfn {v : Value} (h : RepT g L .nilfn v) : v = .nilFunc := by
  cases h with
  | one h => cases h with
    | pure h => cases h with
      | flat h => cases h; rfl
theorem RepT.niliface {v : Value} (h : RepT g L .niliface v) : v = .nilIface := by
  cases h with
  | one h => cases h with
    | pure h => cases h with
      | flat h => cases h; rfl
theorem RepT.ptr {id off : Nat} {v : Value} (h : RepT g L (.ptr id off) v) : ∃ b, g.ι[id]? = some b ∧ v = .pointer (some ⟨b, off, none⟩) := by
  cases h with
  | one h => cases h with
    | pure h => cases h with
      | flat h => cases h
      | ptr h => exact ⟨_, h, rfl⟩
theorem RepT.elem {cs : List PV} {v : Value} (h : RepT g L (.elem cs) v) : ∃ b o, ∃ vs : Nat → Value, v = .pointer (some ⟨b, o, none⟩) ∧
    (∀ (j : Nat) (c : PV), cs[j]? = some c → g.im b (o + j) = some (vs j)) ∧ ∀ (j : Nat) (c : PV), cs[j]? = some c → RepF g.im c (vs j) := by
  cases h with
  | one h => cases h with
    | pure h => cases h with
      | flat h => cases h
      | elem vs a b => exact ⟨_, _, vs, rfl, a, b⟩
theorem RepT.agg {cs : List PV} {v : Value} (h : RepT g L (.agg cs) v) : ∃ vs : Array Value, v = .agg vs ∧ vs.size = cs.length ∧ (∀ (j : Nat) (c : PV), cs[j]? = some c → isCell c = true) ∧
    ∀ (j : Nat) (c : PV) (u : Value), cs[j]? = some c → vs[j]? = some u → Rep g.ι g.im c u := by
  cases h with
  | one h => cases h with
    | pure h => cases h with
      | flat h => cases h
      | agg a b c => exact ⟨_, rfl, a, b, c⟩
theorem RepT.fn {f : FuncId} {first caps : List PV} {v : Value} (h : RepT g L (.fn f first caps) v) : ∃ fv cv : Array Value, v = .func (.func f) fv cv ∧ fv.size = first.length ∧ cv.size = caps.length ∧
    (∀ (j : Nat) (c : PV) (u : Value), first[j]? = some c → fv[j]? = some u → Rep g.ι g.im c u) ∧ ∀ (j : Nat) (c : PV) (u : Value), caps[j]? = some c → cv[j]? = some u → Rep g.ι g.im c u := by
  cases h with
  | one h => cases h with
    | pure h => cases h with
      | flat h => cases h
      | fn a b c d => exact ⟨_, _, rfl, a, b, c, d⟩
theorem RepT.iface {t : TypeId} {p : PV} {v : Value} (h : RepT g L (.iface t p) v) : ∃ u, v = .iface t u ∧ Rep g.ι g.im p u := by
  cases h with
  | one h => cases h with
    | pure h => cases h with
      | flat h => cases h
      | iface h => exact ⟨_, rfl, h⟩
theorem RepT.tupI {ps : List PV} {v : Value} (h : RepT g L (.tup ps) v) : ∃ vs : Array Value, v = .tuple vs ∧ vs.size = ps.length ∧ ∀ (j : Nat) (p : PV) (u : Value), ps[j]? = some p → vs[j]? = some u → RepS g (.sub L j) p u := by
  cases h with
  | one h => cases h with
    | pure h => cases h with
      | flat h => cases h
  | tup a b => exact ⟨_, rfl, a, b⟩
theorem RepT.slice {o z : Bool} {sz : Nat} {xs : List PV} {v : Value} (h : RepT g L (.slice o z sz xs) v) :
    (z = true ∧ o = false ∧ xs = [] ∧ v = .slice none 0 0) ∨ (z = false ∧ ∃ b off cap sp, ∃ vs : Nat → Nat → Value, v = .slice (some ⟨b, off, sp⟩) xs.length cap ∧ (sp = none ∨ cap = 0) ∧ xs.length ≤ cap ∧
      (∀ (i : Nat) (x : PV), xs[i]? = some x → x.cells.length = sz) ∧
      (∀ (i : Nat) (x : PV) (j : Nat) (c : PV), xs[i]? = some x → x.cells[j]? = some c → g.im b (off + i * sz + j) = some (vs i j)) ∧
      (∀ (i : Nat) (x : PV) (j : Nat) (c : PV), xs[i]? = some x → x.cells[j]? = some c → RepF g.im c (vs i j)) ∧
      (o = true → sp = none ∧ ∃ s, g.ow b = some (L, s) ∧ off + cap * sz ≤ s ∧ ∀ k, off + xs.length * sz ≤ k → g.im b k = none)) := by
  cases h with
  | one h => cases h with
    | pure h => cases h with
      | flat h => cases h with
        | snil => exact .inl ⟨rfl, rfl, rfl, rfl⟩
        | slice vs hsp hc hsz him hr => exact .inr ⟨rfl, _, _, _, _, vs, rfl, hsp, hc, hsz, him, hr, fun h => by cases h⟩
    | own vs hc hsz him hr how hs hroom => exact .inr ⟨rfl, _, _, _, _, vs, rfl, .inl rfl, hc, hsz, him, hr, fun _ => ⟨rfl, _, how, hs, hroom⟩⟩
theorem rT {p : PV} {v : Value} (h : Rep g.ι g.im p v) (L : Owner) : RepT g L p v := .one (.pure h)
theorem rF {p : PV} {v : Value} (h : RepF g.im p v) (L : Owner) : RepT g L p v := .one (.pure (.flat h))
theorem rInt (k : IntKind) (n : Int) (L : Owner) : RepT g L (.int k n) (.int k n) := rF (.int k n) L
theorem rBool (b : Bool) (L : Owner) : RepT g L (.bool b) (.bool b) := rF (.bool b) L
theorem rStr (s : ByteArray) (L : Owner) : RepT g L (.str s) (.string s) := rF (.str s) L
theorem ugd {v : Value} {p : PV} (h : ofVC v = some p) : RepF g.im p v := by
  unfold ofVC at h
  split at h <;> simp only [Option.some.injEq, reduceCtorEq] at h <;> subst h
  · exact .int _ _
  · exact .bool _
  · exact .str _
  · exact .nil
  · exact .snil _
  · exact .nilfn
  · exact .niliface
theorem uaa {v : Value} {p : PV} (h : ofVC v = some p) : isCell p = true := by
  unfold ofVC at h
  split at h <;> simp only [Option.some.injEq, reduceCtorEq] at h <;> subst h <;> rfl
theorem ucg : ∀ {vs : List Value} {ps : List PV}, ofVs vs = some ps → ps.length = vs.length ∧ (∀ (j : Nat) (c : PV), ps[j]? = some c → isCell c = true) ∧ ∀ (j : Nat) (c : PV) (u : Value), ps[j]? = some c → vs[j]? = some u → RepF g.im c u
  | [], ps, h => by
    simp only [ofVs, Option.some.injEq] at h
    subst h
    exact ⟨rfl, fun j c h => by simp at h, fun j c u h => by simp at h⟩
  | v :: r, ps, h => by
    simp only [ofVs] at h
    split at h
    · rename_i a b ha hb
      simp only [Option.some.injEq] at h
      subst h
      obtain ⟨h1, h2, h3⟩ := ucg hb
      refine ⟨by simp [h1], fun j c hc => ?_, fun j c u hc hu => ?_⟩
      · cases j with
        | zero => simp at hc; subst hc; exact uaa ha
        | succ j => exact h2 j c (by simpa using hc)
      · cases j with
        | zero => simp at hc hu; subst hc; subst hu; exact ugd ha
        | succ j => exact h3 j c u (by simpa using hc) (by simpa using hu)
    · simp at h
theorem u8v (v : Value) (L : Owner) : RepT g L (ofV v) v := by
  unfold ofV
  split
  · rename_i cs
    split
    · rename_i l hl
      obtain ⟨h1, h2, h3⟩ := ucg (g := g) hl
      exact rT (.agg (by simpa using h1.symm) h2 (fun j c u a b => .flat (h3 j c u a (by simpa using b)))) L
    · exact .one (.undef _)
  · rename_i f a b
    cases h : (a.size == 0 && b.size == 0)
    · exact .one (.undef _)
    · simp only [Bool.and_eq_true, beq_iff_eq] at h
      exact rT (.fn h.1 h.2 (fun j c v h => by simp at h) (fun j c v h => by simp at h)) L
  · cases h : ofVC v with
    | none => exact .one (.undef _)
    | some p => exact rF (ugd h) L
structure TOk (x : Nat) (g : G) (env : Env) (tm : Array Value) : Prop where
  one : x ≤ 1
  len : env.length = tm.size + x
  val : ∀ (t : Nat) (v : Value) (p : PV), tm[t]? = some v → env[t]? = some p → RepT g (.tmp t) p v
  slot : ∀ (t : Nat) (p : PV), tm.size ≤ t → env[t]? = some p → p = .undef ∨ p = .tup []
variable {x : Nat} {env : Env} {a : Act}
def whose : Operand → Owner
  | .tmp t => .tmp t
  | _ => .res
theorem ev_tmp {tm : Array Value} (h : TOk x g env tm) (t : Nat) : RepT g (.tmp t) (env.getD t .undef) (tm.getD t undef) := by
  simp only [List.getD_eq_getElem?_getD, Array.getD_eq_getD_getElem?]
  cases hv : tm[t]? with
  | some v =>
    have ht : t < tm.size := (Array.getElem?_eq_some_iff.mp hv).1
    have hl := h.len
    have hlt : t < env.length := by omega
    have hp : env[t]? = some env[t] := List.getElem?_eq_getElem hlt
    rw [hp]
    exact h.val t v _ hv hp
  | none =>
    have ht : tm.size ≤ t := by simpa using hv
    cases hp : env[t]? with
    | none => exact .one (.undef _)
    | some p =>
      rcases h.slot t p ht hp with rfl | rfl
      · exact .one (.undef _)
      · exact .tup rfl (fun j p v h => by simp at h)
theorem ev_rep {H : Heap} {w : World} (hi : Inv g H w) (h : TOk x g env a.tmps) (o : Operand) : RepT g (whose o) (ev env o) (a.eval o) := by
  cases o with
  | tmp t => exact ev_tmp h t
  | const v => exact u8v v _
  | global b =>
    show RepT g _ (GT b) _
    rcases hi.gl b with e | e
    · rw [e]; exact .one (.undef _)
    · exact .one (.pure (e.mono (fun i b h => by simp at h) (fun _ _ _ h => h)))
  | func f => exact rT (.fn rfl rfl (fun j c v h => by simp at h) (fun j c v h => by simp at h)) _
theorem TOk.mono {S : Owner → Prop} {g' : G} (hg : Grow S g g') (hS : ∀ L, IsTmp L → S L) {tm : Array Value} (h : TOk x g env tm) : TOk x g' env tm :=
  ⟨h.one, h.len, fun t v p hv hp => (h.val t v p hv hp).mono hg (hS (.tmp t) True.intro) (fun j => hS (.sub (.tmp t) j) True.intro), h.slot⟩
theorem TOk.put {tm : Array Value} (h : TOk x g env tm) {d : Nat} {p : PV} {v : Value} (hd : x = 0 ∨ d + 1 < env.length) (hr : RepT g (.tmp d) p v) : TOk x g (env.set d p) (tm.setIfInBounds d v) := by
  have hl := h.len
  have hx1 := h.one
  refine ⟨h.one, by simp [h.len], fun t u q hu hq => ?_, fun t q ht hq => ?_⟩
  · by_cases e : d = t
    · subst e
      have h1 : d < tm.size := by have := (Array.getElem?_eq_some_iff.mp hu).1; simpa using this
      have h2 : d < env.length := by omega
      rw [List.getElem?_set_self h2] at hq
      rw [Array.getElem?_setIfInBounds_self_of_lt h1] at hu
      simp only [Option.some.injEq] at hq hu
      subst hq; subst hu
      exact hr
    · rw [List.getElem?_set_ne e] at hq
      rw [Array.getElem?_setIfInBounds_ne e] at hu
      exact h.val t u q hu hq
  · simp only [Array.size_setIfInBounds] at ht
    by_cases e : d = t
    · subst e
      have h2 : d < env.length := by
        have := (List.getElem?_eq_some_iff.mp hq).1
        simpa using this
      rcases hd with hd | hd
      · omega
      · omega
    · rw [List.getElem?_set_ne e] at hq
      exact h.slot t q ht hq
theorem u7g {p : PV} (h : p = .undef ∨ p = .tup []) : strip p = p := by rcases h with rfl | rfl <;> rfl
theorem u5f {p : PV} (i : Nat) (h : p = .undef ∨ p = .tup []) : tupDrop i p = p := by rcases h with rfl | rfl <;> rfl
theorem RepT.tupDrop {p : PV} {v : Value} (h : RepT g L p v) (i : Nat) : RepT g L (tupDrop i p) v := by
  cases p with
  | tup ps =>
    obtain ⟨vs, rfl, h1, h2⟩ := h.tupI
    refine .tup (by simpa using h1) fun j q u hq hu => ?_
    by_cases e : i = j
    · subst e
      have hi : i < ps.length := by
        have := (List.getElem?_eq_some_iff.mp hq).1
        simpa using this
      rw [List.getElem?_set_self hi] at hq
      simp only [Option.some.injEq] at hq
      subst hq
      have : ps.getD i .undef = ps[i] := by simp [List.getD, List.getElem?_eq_getElem hi]
      rw [this]
      exact (h2 i ps[i] u (List.getElem?_eq_getElem hi) hu).strip
    · rw [List.getElem?_set_ne e] at hq
      exact h2 j q u hq hu
  | aggo ps => exact h.strip
  | _ => exact h
theorem TOk.change {tm : Array Value} (h : TOk x g env tm) (s : Nat) (f : PV → PV) (hf : ∀ p v, RepT g (.tmp s) p v → RepT g (.tmp s) (f p) v) (hs : ∀ p, p = .undef ∨ p = .tup [] → f p = p) :
    TOk x g (env.set s (f (env.getD s .undef))) tm := by
  have hl := h.len
  have hx1 := h.one
  refine ⟨h.one, by simp [h.len], fun t u q hu hq => ?_, fun t q ht hq => ?_⟩
  · by_cases e : s = t
    · subst e
      have h2 : s < env.length := by
        have := (List.getElem?_eq_some_iff.mp hq).1
        simpa using this
      rw [List.getElem?_set_self h2] at hq
      simp only [Option.some.injEq] at hq
      subst hq
      have : env.getD s .undef = env[s] := by simp [List.getD, List.getElem?_eq_getElem h2]
      rw [this]
      exact hf _ _ (h.val s u _ hu (List.getElem?_eq_getElem h2))
    · rw [List.getElem?_set_ne e] at hq
      exact h.val t u q hu hq
  · by_cases e : s = t
    · subst e
      have h2 : s < env.length := by
        have := (List.getElem?_eq_some_iff.mp hq).1
        simpa using this
      rw [List.getElem?_set_self h2] at hq
      simp only [Option.some.injEq] at hq
      subst hq
      have : env.getD s .undef = env[s] := by simp [List.getD, List.getElem?_eq_getElem h2]
      rw [this]
      have := h.slot s _ ht (List.getElem?_eq_getElem h2)
      rw [hs _ this]
      exact this
    · rw [List.getElem?_set_ne e] at hq
      exact h.slot t q ht hq
theorem TOk.giveUp {tm : Array Value} (h : TOk x g env tm) (s : Option (Tmp × Option Nat)) : TOk x g (giveUp env s) tm := by
  unfold Pi.giveUp
  split
  · exact h.change _ strip (fun p v hp => hp.strip) (fun p => u7g)
  · exact h.change _ (tupDrop _) (fun p v hp => hp.tupDrop _) (fun p => u5f _)
  · exact h
theorem u37 (s : Option (Tmp × Option Nat)) : (giveUp env s).length = env.length := by
  unfold Pi.giveUp
  split <;> simp
end Go.Proofs.YtiiepllnnjjmaaaDoor.Pi
namespace Go.Proofs.YtiiepllnnjjmaaaDoor.Pi
variable {P : Program} {g : G} {L L' : Owner} {w : World} {H : Heap}
def PureRes (P : Program) (g : G) (w : World) (H : Heap) (s : Sem Value) (out : Out PV) : Prop :=
  ∃ v cv, out = .ok v H ∧ s.run P w = .ok cv w ∧ ∀ L, RepT g L v cv
theorem u0d {s : Sem Value} {v : PV} {cv : Value} {out : Out PV} (h : M.pure v H = some out) (hr : s.run P w = .ok cv w) (hv : ∀ L, RepT g L v cv) : PureRes P g w H s out := by
  simp only [M.pure, Option.some.injEq] at h
  exact ⟨v, cv, h.symm, hr, hv⟩
theorem uch {op : BinOp} {k : IntKind} {a b : Int} {out : Out PV} (h : intOp op k a b H = some out) (hs : op ≠ .shl) (hs' : op ≠ .shr) :
    PureRes P g w H (match op with
      | .add | .sub | .mul => Op.intArith op k a b
      | .quo | .rem => Op.intDiv op k a b
      | .and | .or | .xor | .andNot => Op.intBits op k a b
      | _ => Op.intCmp op a b) out := by
  cases op <;> simp only [intOp] at h
  case quo =>
    by_cases hb : b = 0
    · simp [hb, M.fail] at h
    · have : (b == 0) = false := by simpa using hb
      rw [this] at h
      exact u0d h (by simp [Op.intDiv, hb]) (fun L => rInt _ _ L)
  case rem =>
    by_cases hb : b = 0
    · simp [hb, M.fail] at h
    · have : (b == 0) = false := by simpa using hb
      rw [this] at h
      exact u0d h (by simp [Op.intDiv, hb]) (fun L => rInt _ _ L)
  case shl => exact absurd rfl hs
  case shr => exact absurd rfl hs'
  all_goals first
    | exact u0d h rfl (fun L => rInt _ _ L)
    | exact u0d h (by simp [Op.intArith]) (fun L => rInt _ _ L)
    | exact u0d h (by simp [Op.intBits]) (fun L => rInt _ _ L)
    | exact u0d h (by simp [Op.intCmp]) (fun L => rBool _ L)
theorem um3 {op : BinOp} {a b : ByteArray} {out : Out PV} (h : strOp op a b H = some out) : PureRes P g w H (Op.stringOp op a b) out := by
  cases op <;> simp only [strOp] at h
  case add =>
    by_cases hb : ((a.size + b.size : Nat) : Int) ≤ IntKind.i64.max
    · rw [decide_eq_true hb] at h
      have hn : ¬ ((a.size + b.size : Nat) : Int) > IntKind.i64.max := by omega
      exact u0d h (by simp only [Op.stringOp]; rw [if_neg hn]; rfl) (fun L => rStr _ L)
    · rw [decide_eq_false hb] at h
      simp [M.fail] at h
  all_goals first
    | (simp [M.fail] at h; done)
    | exact u0d h (by simp [Op.stringOp]) (fun L => rBool _ L)
theorem uh4 {op : BinOp} {ek : EqK} {k k' : IntKind} {a b : Int} {out : Out PV} (ho : op = .shl ∨ op = .shr) (h : bi op ek (.int k a) (.int k' b) H = some out) : PureRes P g w H (Op.shift op k a k' b) out := by
  rcases ho with rfl | rfl <;> simp only [bi] at h
  all_goals
    by_cases hb : b < 0
    · rw [decide_eq_true hb] at h
      simp [M.fail] at h
    · rw [decide_eq_false hb] at h
      exact u0d h (by simp only [Op.shift]; rw [if_neg hb]; rfl) (fun L => rInt _ _ L)
theorem un_ok {op : UnOp} {p : PV} {u : Value} {out : Out PV} (h : un op p H = some out) (hp : RepT g L p u) : PureRes P g w H (Op.unary op u) out := by
  unfold un at h
  split at h
  · obtain rfl := hp.int
    exact uch (op := .sub) h (by simp) (by simp)
  · obtain rfl := hp.int
    exact uch (op := .xor) h (by simp) (by simp)
  · obtain rfl := hp.bool
    exact u0d h (by simp [Op.unary]) (fun L => rBool _ L)
  · simp [M.fail] at h
theorem une {c a b : PV} {u v : Value} {uc : Value} {out : Out PV} (h : pick c a b H = some out) (hc : RepT g L c uc) {La Lb : Owner} (ha : RepT g La a u) (hb : RepT g Lb b v) :
    PureRes P g w H (do pure (if ← asBool uc then u else v)) out := by
  unfold pick at h
  split at h
  · rename_i t
    obtain rfl := hc.bool
    cases t
    · exact u0d h (by simp [asBool]) (fun L => hb.strip)
    · exact u0d h (by simp [asBool]) (fun L => ha.strip)
  · simp [M.fail] at h
theorem u9p {t : TypeId} {k : SK} {vs : Array Value} {i : Nat} {v : Value} (ht : skOf P t = some k) (hv : vs[i]? = some v) : (part t vs i).run P w = .ok v w := by
  unfold skOf at ht
  split at ht
  all_goals first
    | (rename_i hu; simp [part, isAgg, run_underlying hu, hv]; done)
    | (rename_i k hu; simp [part, isAgg, run_underlying hu, hv]; done)
    | simp at ht
theorem ug1 {d : Nat} {t : TypeId} {k : SK} {p q : PV} {u v : Value} {b : Bool} (h : u18 k p q = some b) (hp : RepT g L p u) (hq : RepT g L' q v)
    (ht : skOf P t = some k) : (Op.equalIn (d + 1) t u v).run P w = .ok b w := by
  unfold skOf at ht
  split at ht
  · rename_i kk hu
    simp only [Option.some.injEq] at ht
    subst ht
    cases p <;> first | (simp only [u18, reduceCtorEq] at h; done) | skip
    cases q <;> first | (simp only [u18, reduceCtorEq] at h; done) | skip
    rename_i k a k' c
    obtain rfl := hp.int
    obtain rfl := hq.int
    simp only [u18] at h
    by_cases hk : k = k'
    · rw [decide_eq_true hk] at h
      simp only [cond_true, Option.some.injEq] at h
      subst h
      simp [Op.equalIn, run_underlying hu, hk]
    · rw [decide_eq_false hk] at h
      simp at h
  · rename_i hu
    simp only [Option.some.injEq] at ht
    subst ht
    cases p <;> first | (simp only [u18, reduceCtorEq] at h; done) | skip
    cases q <;> first | (simp only [u18, reduceCtorEq] at h; done) | skip
    obtain rfl := hp.bool
    obtain rfl := hq.bool
    simp only [u18, Option.some.injEq] at h
    subst h
    simp [Op.equalIn, run_underlying hu]
  · rename_i hu
    simp only [Option.some.injEq] at ht
    subst ht
    cases p <;> first | (simp only [u18, reduceCtorEq] at h; done) | skip
    cases q <;> first | (simp only [u18, reduceCtorEq] at h; done) | skip
    obtain rfl := hp.str
    obtain rfl := hq.str
    simp only [u18, Option.some.injEq] at h
    subst h
    simp [Op.equalIn, run_underlying hu]
  · simp at ht
theorem u8q : ∀ (k1 k2 : List SK) (x y : List PV) (b : Bool), u12 (k1 ++ k2) x y = some b →
    ∃ b1, u12 k1 (x.take k1.length) (y.take k1.length) = some b1 ∧ (b1 = false → b = false) ∧ (b1 = true → u12 k2 (x.drop k1.length) (y.drop k1.length) = some b)
  | [], k2, x, y, b, h => ⟨true, rfl, (fun h => by cases h), fun _ => h⟩
  | k :: k1, k2, [], y, b, h => by simp [u12] at h
  | k :: k1, k2, a :: x, [], b, h => by simp [u12] at h
  | k :: k1, k2, a :: x, c :: y, b, h => by
    simp only [List.cons_append, u12] at h
    simp only [List.length_cons, List.take_succ_cons, List.drop_succ_cons, u12]
    cases he : u18 k a c with
    | none => rw [he] at h; simp at h
    | some e =>
      rw [he] at h
      cases e with
      | false =>
        simp only [Option.some.injEq] at h
        exact ⟨false, rfl, fun _ => h.symm, fun h => by cases h⟩
      | true =>
        simp only at h ⊢
        exact u8q k1 k2 x y b h
def u5m (g : G) (i : Nat) (x : List PV) (xs : Array Value) : Prop := ∀ (j : Nat) (c : PV), x[j]? = some c → ∃ u, xs[i + j]? = some u ∧ Rep g.ι g.im c u
def NestOk (P : Program) (g : G) (w : World) (n : Nat) (nest : TypeId → Option (List SK)) : Prop :=
  ∀ t ks, nest t = some ks → ks.length = tsize P t ∧ (∃ fs, P.underlying t = some (.struct fs)) ∧ ∀ d x y (xs ys : Array Value) b, n ≤ d → u12 ks x y = some b → u5m g 0 x xs → u5m g 0 y ys → (Op.equalIn (d + 1) t (.agg xs) (.agg ys)).run P w = .ok b w
theorem ufl {t : TypeId} {fs : Array Field} {vs : Array Value} {i : Nat} (hu : P.underlying t = some (.struct fs)) (hs : ∃ n, P.info? t = some n) : (part t vs i).run P w = .ok (.agg (vs.extract i (i + tsize P t))) w := by
  obtain ⟨info, hi⟩ := hs
  have h1 : (isAgg t).run P w = .ok true w := by simp [isAgg, run_underlying hu]
  have h2 : (sizeOf t).run P w = .ok (tsize P t) w := by simp [sizeOf, typeInfo, hi, tsize]
  unfold part
  simp only [Sem.run_bind, h1, h2, Result.andThen_ok, if_true, Sem.run_pure]
theorem eqL_ok {n : Nat} {nest : TypeId → Option (List SK)} (hn : NestOk P g w n nest) {d : Nat} (hd : n ≤ d) : ∀ (fs : List Field) (i : Nat) (ks : List SK) (x y : List PV) (xs ys : Array Value) (b : Bool), plainL nest P i fs = some ks → u12 ks x y = some b →
    u5m g i x xs → u5m g i y ys → (Op.eqFields (d + 1) xs ys fs).run P w = .ok b w
  | [], i, ks, x, y, xs, ys, b, hf, h, hx, hy => by
    simp only [plainL, Option.some.injEq] at hf
    subst hf
    cases x <;> cases y <;> simp [u12] at h
    subst h
    simp [Op.eqFields]
  | f :: r, i, ks, x, y, xs, ys, b, hf, h, hx, hy => by
    simp only [plainL] at hf
    cases hc : (f.offset == i && f.name != "_") with
    | false => rw [hc] at hf; simp at hf
    | true =>
      rw [hc] at hf
      simp only [Bool.and_eq_true, beq_iff_eq, bne_iff_ne] at hc
      obtain ⟨ho, hnm⟩ := hc
      simp only [cond_true] at hf
      cases hk : skOf P f.type with
      | some k =>
        rw [hk] at hf
        dsimp only at hf
        cases hks : plainL nest P (i + 1) r with
        | none => rw [hks] at hf; cases hf
        | some ks' =>
          rw [hks] at hf
          simp only [Option.some.injEq] at hf
          subst hf
          cases x with
          | nil => simp [u12] at h
          | cons a x =>
            cases y with
            | nil => simp [u12] at h
            | cons c y =>
              obtain ⟨u, hu, ru⟩ := hx 0 a rfl
              obtain ⟨v, hv, rv⟩ := hy 0 c rfl
              simp only [Nat.add_zero] at hu hv
              have ih := fun b' hb' => eqL_ok hn hd r (i + 1) ks' x y xs ys b' hks hb'
                (fun j e he => by have := hx (j + 1) e (by simpa using he); simpa [Nat.add_assoc, Nat.add_comm 1 j] using this)
                (fun j e he => by have := hy (j + 1) e (by simpa using he); simpa [Nat.add_assoc, Nat.add_comm 1 j] using this)
              simp only [u12] at h
              simp only [Op.eqFields]
              rw [if_pos hnm, ho]
              simp only [Sem.run_bind, u9p hk hu, u9p hk hv, Result.andThen_ok]
              cases he : u18 k a c with
              | none => rw [he] at h; simp at h
              | some e =>
                rw [he] at h
                rw [ug1 he (rT ru .res) (rT rv .res) hk]
                cases e
                · simp only [Option.some.injEq] at h
                  subst h
                  simp
                · simp only at h
                  simp only [Result.andThen_ok, Bool.not_true, Bool.false_eq_true, if_false]
                  exact ih b h
      | none =>
        rw [hk] at hf
        dsimp only at hf
        cases hne : nest f.type with
        | none => rw [hne] at hf; cases hf
        | some k1 =>
          rw [hne] at hf
          dsimp only at hf
          cases hks : plainL nest P (i + k1.length) r with
          | none => rw [hks] at hf; cases hf
          | some k2 =>
            rw [hks] at hf
            simp only [Option.some.injEq] at hf
            subst hf
            obtain ⟨hsz, ⟨fs', hu'⟩, heq⟩ := hn _ _ hne
            obtain ⟨b1, e1, e2, e3⟩ := u8q k1 k2 x y b h
            have hinfo : ∃ n, P.info? f.type = some n := by
              cases hi : P.info? f.type with
              | some n => exact ⟨n, rfl⟩
              | none => simp [Program.underlying, hi] at hu'
            have cut : ∀ (x : List PV) (xs : Array Value), u5m g i x xs → u5m g 0 (x.take k1.length) (xs.extract i (i + tsize P f.type)) := by
              intro x xs hx j c hj
              have hjl : j < k1.length := by
                have := (List.getElem?_eq_some_iff.mp hj).1
                simp only [List.length_take] at this
                omega
              rw [List.getElem?_take, if_pos hjl] at hj
              obtain ⟨u, h1, h2⟩ := hx j c hj
              refine ⟨u, ?_, h2⟩
              have hlt := (Array.getElem?_eq_some_iff.mp h1).1
              rw [Array.getElem?_extract, if_pos (by omega), Nat.zero_add]
              exact h1
            have rest : ∀ (x : List PV) (xs : Array Value), u5m g i x xs → u5m g (i + k1.length) (x.drop k1.length) xs := by
              intro x xs hx j c hj
              rw [List.getElem?_drop] at hj
              obtain ⟨u, h1, h2⟩ := hx _ c hj
              exact ⟨u, by rw [Nat.add_assoc]; exact h1, h2⟩
            have hone := heq d _ _ _ _ b1 hd e1 (cut x xs hx) (cut y ys hy)
            simp only [Op.eqFields]
            rw [if_pos hnm, ho]
            simp only [Sem.run_bind, ufl hu' hinfo, Result.andThen_ok]
            rw [hone]
            cases b1
            · have := e2 rfl
              subst this
              simp
            · simp only [Result.andThen_ok, Bool.not_true, Bool.false_eq_true, if_false]
              exact eqL_ok hn hd r (i + k1.length) k2 _ _ xs ys b hks (e3 rfl) (rest x xs hx) (rest y ys hy)
theorem ueo : ∀ n, NestOk P g w n (plainN P n)
  | 0 => fun t ks h => by cases h
  | n + 1 => fun t ks h => by
    unfold plainN at h
    cases hu : P.underlying t with
    | none => rw [hu] at h; cases h
    | some u =>
      rw [hu] at h
      cases u with
      | struct fs =>
        dsimp only at h
        cases hs : (!P.stoodInHeld t && !P.eqGuardType P.depth t) with
        | false => rw [hs] at h; cases h
        | true =>
          rw [hs] at h
          simp only [cond_true] at h
          simp only [Bool.and_eq_true, Bool.not_eq_true'] at hs
          cases hp : plainL (plainN P n) P 0 fs.toList with
          | none => rw [hp] at h; cases h
          | some k1 =>
            rw [hp] at h
            dsimp only at h
            cases hl : (k1.length == tsize P t) with
            | false => rw [hl] at h; cases h
            | true =>
              rw [hl] at h
              simp only [cond_true, Option.some.injEq] at h
              subst h
              refine ⟨by simpa using hl, ⟨fs, rfl⟩, fun d x y xs ys b hd he hx hy => ?_⟩
              obtain ⟨d', rfl⟩ : ∃ d', d = d' + 1 := ⟨d - 1, by omega⟩
              have hfo : P.fieldsOf t = fs := by simp [Program.fieldsOf, hu]
              rw [run_equalIn_struct w (d' + 1) t xs ys (by rw [hfo]; exact hu) hs.1, hfo]
              exact eqL_ok (ueo n) (by omega) fs.toList 0 k1 x y xs ys b hp he hx hy
      | _ => cases h
set_option maxHeartbeats 2000000 in
theorem uiq {t : TypeId} {c : Bool} {p q : PV} {u v : Value} {b : Bool} (h : eqPV (eqKind P t c) p q = some b) (hp : RepT g L p u) (hq : RepT g L' q v) (m : Nat) (hm : 4 ≤ m) : (Op.equalIn (m + 2) t u v).run P w = .ok b w := by
  unfold eqKind at h
  split at h
  · rename_i hu
    cases p <;> cases q <;> simp [eqPV] at h
    obtain rfl := hp.bool
    obtain rfl := hq.bool
    subst h
    simp [Op.equalIn, run_underlying hu]
  · rename_i e hu
    cases p <;> cases q <;> simp [eqPV] at h <;> subst h
    · obtain rfl := hp.nil
      obtain rfl := hq.nil
      simp [Op.equalIn, run_underlying hu]
    · obtain rfl := hp.nil
      obtain ⟨_, _, rfl⟩ := hq.ptr
      simp [Op.equalIn, run_underlying hu]
    · obtain ⟨_, _, rfl⟩ := hp.ptr
      obtain rfl := hq.nil
      simp [Op.equalIn, run_underlying hu]
  · rename_i e hu
    cases p <;> cases q <;> simp only [eqPV, reduceCtorEq] at h
    rename_i o z sz xs o' z' sz' xs'
    rcases hp.slice with ⟨rfl, rfl, rfl, rfl⟩ | ⟨rfl, _, _, _, _, _, rfl, _⟩ <;> rcases hq.slice with ⟨rfl, rfl, rfl, rfl⟩ | ⟨rfl, _, _, _, _, _, rfl, _⟩ <;>
      (simp only [Option.some.injEq, reduceCtorEq] at h; try subst h) <;> first | (simp [Op.equalIn, run_underlying hu]; done) | skip
  · rename_i hu
    cases p <;> cases q <;> simp [eqPV] at h <;> subst h
    · obtain ⟨_, _, rfl, _⟩ := hp.fn
      obtain rfl := hq.nilfn
      simp [Op.equalIn, run_underlying hu]
    · obtain rfl := hp.nilfn
      obtain ⟨_, _, rfl, _⟩ := hq.fn
      simp [Op.equalIn, run_underlying hu]
    · obtain rfl := hp.nilfn
      obtain rfl := hq.nilfn
      simp [Op.equalIn, run_underlying hu]
  · rename_i hu
    cases c
    · simp [eqPV] at h
    simp only [cond_true] at h
    cases p <;> cases q <;> simp [eqPV] at h <;> subst h
    · obtain ⟨_, rfl, _⟩ := hp.iface
      obtain rfl := hq.niliface
      simp [Op.equalIn, run_underlying hu]
    · obtain rfl := hp.niliface
      obtain ⟨_, rfl, _⟩ := hq.iface
      simp [Op.equalIn, run_underlying hu]
    · obtain rfl := hp.niliface
      obtain rfl := hq.niliface
      simp [Op.equalIn, run_underlying hu]
  · rename_i fs hu
    cases hs : (!P.stoodInHeld t && !P.eqGuardType P.depth t) with
    | false => rw [hs] at h; simp [eqPV] at h
    | true =>
      rw [hs] at h
      simp only [cond_true] at h
      simp only [Bool.and_eq_true, Bool.not_eq_true'] at hs
      cases hf : plainL (plainN P 4) P 0 fs.toList with
      | none => rw [hf] at h; simp [eqPV] at h
      | some ks =>
        rw [hf] at h
        cases p <;> cases q <;> simp only [eqPV, reduceCtorEq] at h
        obtain ⟨xs, rfl, hx1, hx2, hx3⟩ := hp.agg
        obtain ⟨ys, rfl, hy1, hy2, hy3⟩ := hq.agg
        have hfo : P.fieldsOf t = fs := by simp [Program.fieldsOf, hu]
        rw [run_equalIn_struct w (m + 1) t xs ys (by rw [hfo]; exact hu) hs.1, hfo]
        rename_i x y
        refine eqL_ok (g := g) (d := m) (ueo 4) hm fs.toList 0 ks x y xs ys b hf h (fun j e he => ?_) (fun j e he => ?_)
        · have hj : j < xs.size := by rw [hx1]; exact (List.getElem?_eq_some_iff.mp he).1
          exact ⟨xs[j], by simp [hj], hx3 j e _ he (by simp [hj])⟩
        · have hj : j < ys.size := by rw [hy1]; exact (List.getElem?_eq_some_iff.mp he).1
          exact ⟨ys[j], by simp [hj], hy3 j e _ he (by simp [hj])⟩
  · simp [eqPV] at h
theorem uhq {t : TypeId} {c : Bool} {p q : PV} {u v : Value} {b : Bool} (h : eqPV (eqKind P t c) p q = some b) (hp : RepT g L p u) (hq : RepT g L' q v) : (Op.equal t u v).run P w = .ok b w :=
  uiq h hp hq 9998 (by omega)
end Go.Proofs.YtiiepllnnjjmaaaDoor.Pi
namespace Go.Proofs.YtiiepllnnjjmaaaDoor.Pi
variable {P : Program} {g : G} {L L' : Owner} {w : World} {H : Heap}
def u0t : Operand → Bool
  | .const _ => true
  | _ => false
theorem RepT.of_nilIface {p : PV} (h : RepT g L p .nilIface) : p = .niliface ∨ p = .undef := by
  cases h with
  | one h => cases h with
    | undef => exact .inr rfl
    | pure h => cases h with
      | flat h => cases h; exact .inl rfl
theorem RepT.of_agg {p : PV} {cs : Array Value} (h : RepT g L p (.agg cs)) : (∃ l, p = .agg l ∨ p = .aggo l) ∨ p = .undef := by
  cases h with
  | one h => cases h with
    | undef => exact .inr rfl
    | pure h => cases h with
      | flat h => cases h
      | agg => exact .inl ⟨_, .inl rfl⟩
  | aggo => exact .inl ⟨_, .inr rfl⟩
theorem ucr {t : TypeId} {c : Bool} (h : eqKind P t c = .iface) : c = true := by
  unfold eqKind at h
  split at h <;> first | (simp at h; done) | skip
  · cases c
    · simp at h
    · rfl
  · cases hs : (!P.stoodInHeld t && !P.eqGuardType P.depth t) <;> rw [hs] at h <;> simp only [cond_true, cond_false, reduceCtorEq] at h
    split at h <;> simp at h
theorem ucc {t : TypeId} {c : Bool} {ks : List SK} (h : eqKind P t c = .struct ks) : P.eqGuardType P.depth t = false := by
  unfold eqKind at h
  split at h <;> first | (simp at h; done) | skip
  · cases c <;> simp at h
  · cases hs : (!P.stoodInHeld t && !P.eqGuardType P.depth t) <;> rw [hs] at h <;> simp only [cond_true, cond_false, reduceCtorEq] at h
    simp only [Bool.and_eq_true, Bool.not_eq_true'] at hs
    exact hs.2
theorem ubo {op : BinOp} {t : TypeId} {X Y : Operand} {p q : PV} {u v : Value} {b : Bool} (h : eqPV (eqKind P t (u0t X || u0t Y)) p q = some b) (hp : RepT g L p u) (hq : RepT g L' q v) :
    (eqGuard op t X Y u v).run P w = .ok () w := by
  have key : ∀ o : BinOp, o = .eql ∨ o = .neq → (eqGuard o t X Y u v).run P w = .ok () w := by
    intro o ho
    have : eqGuard o t X Y u v = eqGuard .eql t X Y u v := by rcases ho with rfl | rfl <;> rfl
    rw [this]
    unfold eqGuard
    simp only [Bool.not_true, Bool.false_eq_true, if_false]
    split
    · have h1 : p = .niliface := by
        rcases hp.of_nilIface with rfl | rfl
        · rfl
        · generalize eqKind P t (u0t X || u0t Y) = k at h
          cases k <;> simp [eqPV] at h
      subst h1
      have hk : eqKind P t (u0t X || u0t Y) = .iface := by
        generalize eqKind P t (u0t X || u0t Y) = k at h
        cases k <;> simp [eqPV] at h
        rfl
      have := ucr hk
      cases X <;> cases Y <;> simp_all [u0t]
    · have h1 : ∃ l, p = .agg l := by
        rcases hp.of_agg with ⟨l, h1 | rfl⟩ | rfl
        · exact ⟨l, h1⟩
        · generalize eqKind P t (u0t X || u0t Y) = k at h
          cases k <;> simp [eqPV] at h
        · generalize eqKind P t (u0t X || u0t Y) = k at h
          cases k <;> simp [eqPV] at h
      obtain ⟨l, rfl⟩ := h1
      have hk : ∃ ks, eqKind P t (u0t X || u0t Y) = .struct ks := by
        generalize eqKind P t (u0t X || u0t Y) = k at h
        cases k <;> simp [eqPV] at h
        exact ⟨_, rfl⟩
      obtain ⟨ks, hk⟩ := hk
      simp [ucc hk]
    · rfl
  cases op <;> first | exact key _ (.inl rfl) | exact key _ (.inr rfl) | rfl
theorem u6s {op : BinOp} {t : TypeId} {X Y : Operand} {k k' : IntKind} {a b : Int} : (eqGuard op t X Y (.int k a) (.int k' b)).run P w = .ok () w := by cases op <;> rfl
theorem ufy {op : BinOp} {t : TypeId} {X Y : Operand} {a b : ByteArray} : (eqGuard op t X Y (.string a) (.string b)).run P w = .ok () w := by cases op <;> rfl
theorem bi_ok {op : BinOp} {t : TypeId} {X Y : Operand} {p q : PV} {u v : Value} {out : Out PV} (h : bi op (eqKind P t (u0t X || u0t Y)) p q H = some out) (hp : RepT g L p u) (hq : RepT g L' q v) :
    PureRes P g w H (do eqGuard op t X Y u v; binOp op t u v) out := by
  unfold bi at h
  split at h
  · obtain rfl := hp.int
    obtain rfl := hq.int
    rename_i k a k' b
    obtain ⟨v, cv, h1, h2, h3⟩ := uh4 (P := P) (g := g) (w := w) (op := .shl) (ek := .none) (k := k) (k' := k') (.inl rfl) (by simpa only [bi] using h)
    exact ⟨v, cv, h1, by rw [Sem.run_bind, u6s]; exact h2, h3⟩
  · obtain rfl := hp.int
    obtain rfl := hq.int
    rename_i k a k' b
    obtain ⟨v, cv, h1, h2, h3⟩ := uh4 (P := P) (g := g) (w := w) (op := .shr) (ek := .none) (k := k) (k' := k') (.inr rfl) (by simpa only [bi] using h)
    exact ⟨v, cv, h1, by rw [Sem.run_bind, u6s]; exact h2, h3⟩
  · obtain rfl := hp.int
    obtain rfl := hq.int
    rename_i k a k' b n1 n2
    by_cases hk : k = k'
    · subst hk
      rw [decide_eq_true rfl] at h
      have hs : op ≠ .shl := fun e => n1 e
      have hs' : op ≠ .shr := fun e => n2 e
      obtain ⟨v, cv, h1, h2, h3⟩ := uch (P := P) (g := g) (w := w) h hs hs'
      refine ⟨v, cv, h1, ?_, h3⟩
      rw [Sem.run_bind, u6s]
      simp only [Result.andThen_ok]
      rw [← h2]
      cases op <;> first | (exact absurd rfl hs) | (exact absurd rfl hs') | (simp [binOp]; done)
    · rw [decide_eq_false hk] at h
      simp [M.fail] at h
  · obtain rfl := hp.str
    obtain rfl := hq.str
    obtain ⟨v, cv, h1, h2, h3⟩ := um3 (P := P) (g := g) (w := w) h
    refine ⟨v, cv, h1, ?_, h3⟩
    rw [Sem.run_bind, ufy]
    simp only [Result.andThen_ok]
    rw [← h2]
    cases op <;> rfl
  · rename_i n1 n2
    cases hb : eqPV (eqKind P t (u0t X || u0t Y)) p q with
    | some b =>
      rw [hb] at h
      have he := uhq (w := w) hb hp hq
      have hg := ubo (op := .eql) (w := w) hb hp hq
      refine u0d h ?_ (fun L => rBool _ L)
      rw [Sem.run_bind, hg]
      simp only [Result.andThen_ok]
      have : binOp .eql t u v = (do pure (.bool (← Op.equal t u v))) := by
        generalize eqKind P t (u0t X || u0t Y) = k at hb
        cases k <;> cases p <;> simp only [eqPV, reduceCtorEq] at hb <;> first
          | (obtain rfl := hp.bool; cases v <;> rfl) | (obtain rfl := hp.nil; cases v <;> rfl) | (obtain rfl := hp.nilfn; cases v <;> rfl) | (obtain rfl := hp.niliface; cases v <;> rfl)
          | (obtain ⟨_, _, rfl⟩ := hp.ptr; cases v <;> rfl) | (obtain ⟨_, _, rfl, _⟩ := hp.fn; cases v <;> rfl) | (obtain ⟨_, rfl, _⟩ := hp.iface; cases v <;> rfl) | (obtain ⟨_, rfl, _⟩ := hp.agg; cases v <;> rfl)
          | (rcases hp.slice with ⟨_, _, _, rfl⟩ | ⟨_, _, _, _, _, _, rfl, _⟩ <;> cases v <;> rfl)
      rw [this]
      simp [he]
    | none =>
      rw [hb] at h
      simp [M.fail] at h
  · rename_i n1 n2
    cases hb : eqPV (eqKind P t (u0t X || u0t Y)) p q with
    | some b =>
      rw [hb] at h
      have he := uhq (w := w) hb hp hq
      have hg := ubo (op := .neq) (w := w) hb hp hq
      refine u0d h ?_ (fun L => rBool _ L)
      rw [Sem.run_bind, hg]
      simp only [Result.andThen_ok]
      have : binOp .neq t u v = (do pure (.bool (!(← Op.equal t u v)))) := by
        generalize eqKind P t (u0t X || u0t Y) = k at hb
        cases k <;> cases p <;> simp only [eqPV, reduceCtorEq] at hb <;> first
          | (obtain rfl := hp.bool; cases v <;> rfl) | (obtain rfl := hp.nil; cases v <;> rfl) | (obtain rfl := hp.nilfn; cases v <;> rfl) | (obtain rfl := hp.niliface; cases v <;> rfl)
          | (obtain ⟨_, _, rfl⟩ := hp.ptr; cases v <;> rfl) | (obtain ⟨_, _, rfl, _⟩ := hp.fn; cases v <;> rfl) | (obtain ⟨_, rfl, _⟩ := hp.iface; cases v <;> rfl) | (obtain ⟨_, rfl, _⟩ := hp.agg; cases v <;> rfl)
          | (rcases hp.slice with ⟨_, _, _, rfl⟩ | ⟨_, _, _, _, _, _, rfl, _⟩ <;> cases v <;> rfl)
      rw [this]
      simp [he]
    | none =>
      rw [hb] at h
      simp [M.fail] at h
  · simp [M.fail] at h
end Go.Proofs.YtiiepllnnjjmaaaDoor.Pi
namespace Go.Proofs.YtiiepllnnjjmaaaDoor.Pi
variable {P : Program} {g : G} {L L' : Owner} {w : World} {H : Heap}
theorem ud0 {t : TypeId} (h : tagg P t = none) : (∃ d, P.underlying t = some d) → (isAgg t).run P w = .ok false w := by
  intro ⟨d, hu⟩
  unfold tagg at h
  rw [hu] at h
  cases d <;> simp at h <;> simp [isAgg, run_underlying hu]
theorem udc {t : TypeId} {n : Nat} (h : tagg P t = some n) : (isAgg t).run P w = .ok true w ∧ n = tsize P t := by
  unfold tagg at h
  split at h
  · rename_i hu; simp only [Option.some.injEq] at h; exact ⟨by simp [isAgg, run_underlying hu], h.symm⟩
  · rename_i hu; simp only [Option.some.injEq] at h; exact ⟨by simp [isAgg, run_underlying hu], h.symm⟩
  · simp at h
theorem u0r {t : TypeId} {d : TypeDesc} (h : P.underlying t = some d) : ∃ i, P.info? t = some i := by
  unfold Program.underlying at h
  split at h
  · rename_i i hi; exact ⟨_, hi⟩
  · rename_i i hi; exact ⟨_, by assumption⟩
  · simp at h
theorem u0w {t : TypeId} {i : TypeInfo} (h : P.info? t = some i) : (sizeOf t).run P w = .ok (tsize P t) w := by
  simp [sizeOf, typeInfo, h, tsize]
theorem u3u {t : TypeId} (h : known P t = true) : ∃ d, P.underlying t = some d := Option.isSome_iff_exists.mp h
theorem ujw {t : TypeId} {off : Nat} {cs : List PV} {vs : Array Value} {out : Out PV} (hk : known P t = true) (h : fd off (tagg P t) (.agg cs) H = some out) (h1 : vs.size = cs.length)
    (hc : ∀ (j : Nat) (c : PV), cs[j]? = some c → isCell c = true) (hr : ∀ (j : Nat) (c : PV) (u : Value), cs[j]? = some c → vs[j]? = some u → Rep g.ι g.im c u) : PureRes P g w H (part t vs off) out := by
  obtain ⟨d, hu⟩ := u3u hk
  obtain ⟨i, hi⟩ := u0r hu
  unfold fd at h
  cases ht : tagg P t with
  | none =>
    rw [ht] at h
    simp only at h
    cases hv : cs[off]? with
    | none => rw [hv] at h; simp [M.fail] at h
    | some v =>
      rw [hv] at h
      have hlt : off < vs.size := by rw [h1]; exact (List.getElem?_eq_some_iff.mp hv).1
      have hrep := hr off v vs[off] hv (by simp [hlt])
      exact u0d h (cv := vs[off]) (by simp [part, ud0 (w := w) ht ⟨d, hu⟩, hlt]) (fun L => by rw [hrep.stripC]; exact rT hrep L)
  | some n =>
    rw [ht] at h
    simp only at h
    obtain ⟨ha, hn⟩ := udc (w := w) ht
    by_cases hb : off + n ≤ cs.length
    · rw [decide_eq_true hb] at h
      refine u0d h (cv := .agg (vs.extract off (off + n))) (by simp [part, ha, u0w (w := w) hi, hn]) (fun L => rT (.agg ?_ ?_ ?_) L)
      · simp [h1]; omega
      · intro j c hj
        simp only [List.getElem?_take, List.getElem?_drop] at hj
        split at hj
        · exact hc _ _ hj
        · simp at hj
      · intro j c u hj hu'
        simp only [List.getElem?_take, List.getElem?_drop] at hj
        split at hj
        · simp only [Array.getElem?_extract] at hu'
          split at hu'
          · exact hr _ _ _ hj hu'
          · simp at hu'
        · simp at hj
    · rw [decide_eq_false hb] at h
      simp [M.fail] at h
theorem un1 {t : TypeId} {fs : Array Field} {f : Nat} {fl : Field} {p : PV} {u : Value} {out : Out PV} (hu : P.underlying t = some (.struct fs)) (hf : fs[f]? = some fl) (hk : known P fl.type = true)
    (h : fd fl.offset (tagg P fl.type) p H = some out) (hp : RepT g L p u) : PureRes P g w H (Instr.field t u f) out := by
  cases p with
  | agg cs =>
    obtain ⟨vs, rfl, h1, h2, h3⟩ := hp.agg
    obtain ⟨v, cv, e1, e2, e3⟩ := ujw (P := P) (g := g) (w := w) hk h h1 h2 h3
    refine ⟨v, cv, e1, ?_, e3⟩
    simp [Instr.field, run_underlying hu, hf, asAgg, e2]
  | _ => simp [fd, M.fail] at h
theorem ueh {t : TypeId} {fs : Array Field} {f : Nat} {fl : Field} {p : PV} {u : Value} {out : Out PV} (hu : P.underlying t = some (.struct fs)) (hf : fs[f]? = some fl) (hk : known P fl.type = true)
    (hz : (tsize P fl.type == 0) = false) (h : fa fl.offset p H = some out) (hp : RepT g L p u) : PureRes P g w H (Instr.fieldAt t u f) out := by
  obtain ⟨d, hd⟩ := u3u hk
  obtain ⟨i, hi⟩ := u0r hd
  have hz' : tsize P fl.type ≠ 0 := by simpa using hz
  cases p with
  | ptr id o =>
    obtain ⟨b, hb, rfl⟩ := hp.ptr
    refine u0d h (cv := .pointer (some ⟨b, o + fl.offset, none⟩)) ?_ (fun L => rT (.ptr hb) L)
    simp [Instr.fieldAt, run_underlying hu, hf, Instr.sureAddr, fieldPlace, u0w (w := w) hi, hz', Addr.add]
  | elem cs =>
    obtain ⟨b, o, vs, rfl, h1, h2⟩ := hp.elem
    refine u0d h (cv := .pointer (some ⟨b, o + fl.offset, none⟩)) ?_ (fun L => rT (.elem (fun j => vs (fl.offset + j)) (fun j c hj => ?_) (fun j c hj => ?_)) L)
    · simp [Instr.fieldAt, run_underlying hu, hf, Instr.sureAddr, fieldPlace, u0w (w := w) hi, hz', Addr.add]
    · rw [List.getElem?_drop] at hj
      rw [Nat.add_assoc]
      exact h1 _ _ hj
    · rw [List.getElem?_drop] at hj
      exact h2 _ _ hj
  | _ => simp [fa, M.fail] at h
theorem ubx {t e : TypeId} {n : Nat} {p q : PV} {u v : Value} {out : Out PV} (hu : P.underlying t = some (.array n e)) (hk : known P e = true) (h : iaA n (tsize P e) p q H = some out) (hp : RepT g L p u) (hq : RepT g L' q v) :
    PureRes P g w H (Instr.indexAt t u v) out := by
  obtain ⟨d, hd⟩ := u3u hk
  obtain ⟨i, hi⟩ := u0r hd
  unfold iaA at h
  split at h
  · rename_i id o k m
    obtain ⟨b, hb, rfl⟩ := hp.ptr
    obtain rfl := hq.int
    by_cases hm : 0 ≤ m ∧ m < n
    · rw [decide_eq_true hm.1, decide_eq_true hm.2] at h
      refine u0d h (cv := .pointer (some ⟨b, o + m.toNat * tsize P e, none⟩)) ?_ (fun L => rT (.ptr hb) L)
      simp [Instr.indexAt, asIntOf, run_underlying hu, Instr.sureAddr, hm.1, hm.2, u0w (w := w) hi, Addr.add]
    · have : (decide (0 ≤ m) && decide (m < n)) = false := by
        rw [Bool.and_eq_false_iff, decide_eq_false_iff_not, decide_eq_false_iff_not]
        omega
      rw [this] at h
      simp [u29, M.fail] at h
  · rename_i cs k m
    obtain ⟨b, o, vs, rfl, h1, h2⟩ := hp.elem
    obtain rfl := hq.int
    by_cases hm : 0 ≤ m ∧ m < n
    · rw [decide_eq_true hm.1, decide_eq_true hm.2] at h
      refine u0d h (cv := .pointer (some ⟨b, o + m.toNat * tsize P e, none⟩)) ?_ (fun L => rT (.elem (fun j => vs (m.toNat * tsize P e + j)) (fun j c hj => ?_) (fun j c hj => ?_)) L)
      · simp [Instr.indexAt, asIntOf, run_underlying hu, Instr.sureAddr, hm.1, hm.2, u0w (w := w) hi, Addr.add]
      · rw [List.getElem?_drop] at hj
        rw [Nat.add_assoc]
        exact h1 _ _ hj
      · rw [List.getElem?_drop] at hj
        exact h2 _ _ hj
    · have : (decide (0 ≤ m) && decide (m < n)) = false := by
        rw [Bool.and_eq_false_iff, decide_eq_false_iff_not, decide_eq_false_iff_not]
        omega
      rw [this] at h
      simp [u29, M.fail] at h
  · simp [M.fail] at h
theorem uci {t e : TypeId} {p q : PV} {u v : Value} {out : Out PV} (hu : P.underlying t = some (.slice e)) (hk : known P e = true) (h : iaS (tsize P e) p q H = some out) (hp : RepT g L p u) (hq : RepT g L' q v) :
    PureRes P g w H (Instr.indexAt t u v) out := by
  obtain ⟨d, hd⟩ := u3u hk
  obtain ⟨i, hi⟩ := u0r hd
  unfold iaS at h
  split at h
  · rename_i o z sx xs k m
    obtain rfl := hq.int
    by_cases hm : 0 ≤ m ∧ sx = tsize P e
    · obtain ⟨hm0, rfl⟩ := hm
      rw [decide_eq_true hm0] at h
      simp only [beq_self_eq_true, Bool.and_self, cond_true] at h
      cases hx : xs[m.toNat]? with
      | none => rw [hx] at h; simp [u29, M.fail] at h
      | some x =>
        rw [hx] at h
        rcases hp.slice with ⟨_, _, rfl, _⟩ | ⟨_, b, off, cap, sp, vs, rfl, hsp, hc, hsz, him, hr, _⟩
        · simp at hx
        · have hlt : m.toNat < xs.length := (List.getElem?_eq_some_iff.mp hx).1
          obtain rfl : sp = none := by rcases hsp with h | h; exact h; omega
          have hlt' : m < (xs.length : Int) := by omega
          refine u0d h (cv := .pointer (some ⟨b, off + m.toNat * tsize P e, none⟩)) ?_ (fun L => rT (.elem (fun j => vs m.toNat j) (fun j c hj => him _ _ _ _ hx hj) (fun j c hj => hr _ _ _ _ hx hj)) L)
          simp [Instr.indexAt, asIntOf, run_underlying hu, hm0, hlt', u0w (w := w) hi, Addr.add]
    · have : (decide (0 ≤ m) && sx == tsize P e) = false := by
        rw [Bool.and_eq_false_iff, decide_eq_false_iff_not, beq_eq_false_iff_ne]
        omega
      rw [this] at h
      simp [u29, M.fail] at h
  · simp [M.fail] at h
theorem uko {t : TypeId} {p q : PV} {u v : Value} {out : Out PV} (hu : P.underlying t = some .string) (h : ixS p q H = some out) (hp : RepT g L p u) (hq : RepT g L' q v) : PureRes P g w H (Instr.index t u v) out := by
  unfold ixS at h
  split at h
  · rename_i s k m
    obtain rfl := hp.str
    obtain rfl := hq.int
    by_cases hm : 0 ≤ m
    · rw [decide_eq_true hm] at h
      simp only [cond_true] at h
      cases hx : s.data.toList[m.toNat]? with
      | none => rw [hx] at h; simp [u29, M.fail] at h
      | some b =>
        rw [hx] at h
        have hlt : m.toNat < s.data.toList.length := (List.getElem?_eq_some_iff.mp hx).1
        have hlt' : m.toNat < s.size := by simpa using hlt
        have hb : s[m.toNat]? = some b := by
          rw [getElem?_pos s m.toNat hlt']
          have := (List.getElem?_eq_some_iff.mp hx).2
          rw [← this]
          rfl
        exact u0d h (by simp [Instr.index, asIntOf, run_underlying hu, hm, hb]) (fun L => rInt _ _ L)
    · rw [decide_eq_false hm] at h
      simp [u29, M.fail] at h
  · simp [M.fail] at h
theorem ujn {t e : TypeId} {n : Nat} {p q : PV} {u v : Value} {out : Out PV} (hu : P.underlying t = some (.array n e)) (hk : known P e = true) (h : ixA n (tsize P e) (tagg P e) p q H = some out) (hp : RepT g L p u) (hq : RepT g L' q v) :
    PureRes P g w H (Instr.index t u v) out := by
  obtain ⟨d, hd⟩ := u3u hk
  obtain ⟨i, hi⟩ := u0r hd
  unfold ixA at h
  split at h
  · rename_i cs k m
    obtain ⟨vs, rfl, h1, h2, h3⟩ := hp.agg
    obtain rfl := hq.int
    by_cases hm : 0 ≤ m ∧ m < n
    · rw [decide_eq_true hm.1, decide_eq_true hm.2] at h
      obtain ⟨v, cv, e1, e2, e3⟩ := ujw (P := P) (g := g) (w := w) hk h h1 h2 h3
      exact ⟨v, cv, e1, by simp [Instr.index, asIntOf, run_underlying hu, hm.1, hm.2, u0w (w := w) hi, e2], e3⟩
    · have : (decide (0 ≤ m) && decide (m < n)) = false := by
        rw [Bool.and_eq_false_iff, decide_eq_false_iff_not, decide_eq_false_iff_not]
        omega
      rw [this] at h
      simp [u29, M.fail] at h
  · simp [M.fail] at h
theorem uib {d n y : Nat} {p : Option PV} {u : Option Value} {c : BoundsCode} (h : bnd d p = some n) (hp : ∀ q, p = some q → ∃ v L, u = some v ∧ RepT g L q v) (hn : p = none → u = none) (hy : n ≤ y) :
    (match (generalizing := false) u with | some v => Instr.sliceBound v y c | none => pure d : Sem Nat).run P w = .ok n w := by
  cases p with
  | none =>
    rw [hn rfl]
    simp only [bnd, Option.some.injEq] at h
    simp [h]
  | some q =>
    obtain ⟨v, L, rfl, hr⟩ := hp q rfl
    unfold bnd at h
    split at h
    · rename_i hh; cases hh
    · rename_i k m hh
      simp only [Option.some.injEq] at hh
      subst hh
      obtain rfl := hr.int
      by_cases hm : 0 ≤ m
      · rw [decide_eq_true hm] at h
        simp only [cond_true, Option.some.injEq] at h
        have : m ≤ (y : Int) := by omega
        simp [Instr.sliceBound, asIntOf, hm, this, h]
      · rw [decide_eq_false hm] at h
        simp at h
    · simp at h
theorem u6z {isS : Bool} {len cap l hh : Nat} {lo hi : Option PV} {clo chi : Option Value} (h1 : bnd len hi = some hh) (h2 : bnd 0 lo = some l)
    (rlo : ∀ q, lo = some q → ∃ v L, clo = some v ∧ RepT g L q v) (nlo : lo = none → clo = none) (rhi : ∀ q, hi = some q → ∃ v L, chi = some v ∧ RepT g L q v) (nhi : hi = none → chi = none) (hl : l ≤ hh) (hc : hh ≤ cap) :
    (Instr.sliceBounds isS len cap clo chi none).run P w = .ok (l, hh, cap) w := by
  have a := uib (P := P) (w := w) (y := cap) (c := if isS then .sliceAcap else .sliceAlen) h1 rhi nhi hc
  have b := uib (P := P) (w := w) (y := hh) (c := .sliceB) h2 rlo nlo hl
  cases chi with
  | none =>
    simp only [Sem.run_pure] at a
    simp only [Result.ok.injEq, and_true] at a
    subst a
    cases clo with
    | none => simp only [Sem.run_pure, Result.ok.injEq, and_true] at b; simp [Instr.sliceBounds, b]
    | some v => simp only at b; simp [Instr.sliceBounds, b]
  | some u =>
    simp only at a
    cases clo with
    | none => simp only [Sem.run_pure, Result.ok.injEq, and_true] at b; simp [Instr.sliceBounds, a, b]
    | some v => simp only at b; simp [Instr.sliceBounds, a, b]
theorem uls {t e : TypeId} {lo hi : Option PV} {clo chi : Option Value} {p : PV} {u : Value} {out : Out PV} (hu : P.underlying t = some (.slice e)) (hk : known P e = true) (h : slL (tsize P e) p lo hi H = some out) (hp : RepT g L p u)
    (rlo : ∀ q, lo = some q → ∃ v L, clo = some v ∧ RepT g L q v) (nlo : lo = none → clo = none) (rhi : ∀ q, hi = some q → ∃ v L, chi = some v ∧ RepT g L q v) (nhi : hi = none → chi = none) :
    PureRes P g w H (Instr.sliceAt t u clo chi none) out := by
  obtain ⟨d, hd⟩ := u3u hk
  obtain ⟨i, hi'⟩ := u0r hd
  unfold slL at h
  split at h
  · rename_i o z sz xs
    cases e1 : bnd xs.length hi with
    | none => rw [e1] at h; simp [M.fail] at h
    | some hh =>
    cases e2 : bnd 0 lo with
    | none => rw [e1, e2] at h; simp [M.fail] at h
    | some l =>
      rw [e1, e2] at h
      simp only at h
      by_cases hb : (z = true ∨ sz = tsize P e) ∧ l ≤ hh ∧ hh ≤ xs.length
      · have hb' : ((z || sz == tsize P e) && (decide (l ≤ hh) && decide (hh ≤ xs.length))) = true := by
          simp only [Bool.and_eq_true, Bool.or_eq_true, decide_eq_true_eq, beq_iff_eq]
          exact hb
        rw [hb'] at h
        obtain ⟨hz, hl, hx⟩ := hb
        rcases hp.slice with ⟨rfl, rfl, rfl, rfl⟩ | ⟨rfl, b, off, cap, sp, vs, rfl, hsp, hc, hsz, him, hr, _⟩
        · have hh0 : hh = 0 := by simpa using hx
          subst hh0
          have hl0 : l = 0 := by omega
          subst hl0
          have hbo := u6z (P := P) (w := w) (isS := true) (cap := 0) e1 e2 rlo nlo rhi nhi (by omega) (by omega)
          simp only [List.length_nil] at hbo
          refine u0d h (cv := .slice none 0 0) ?_ (fun L => by simpa using rF (.snil _) L)
          simp [Instr.sliceAt, Instr.slice, run_underlying hu, hbo, u0w (w := w) hi']
        · have hsz' : sz = tsize P e := by simpa using hz
          subst hsz'
          have hbo := u6z (P := P) (w := w) (isS := true) (cap := cap) e1 e2 rlo nlo rhi nhi hl (by omega)
          rcases hsp with rfl | rfl
          rotate_left
          · have hx0 : xs = [] := List.eq_nil_of_length_eq_zero (by omega)
            subst hx0
            obtain rfl : hh = 0 := by simpa using hx
            obtain rfl : l = 0 := by omega
            refine u0d h (cv := .slice (some ⟨b, off, sp⟩) 0 0) ?_ (fun L => rT (.flat (.slice vs (.inr rfl) (by simp) hsz him hr)) L)
            simp [Instr.sliceAt, Instr.slice, run_underlying hu, u0w (w := w) hi', Addr.add]
            simp at hbo
            simp [hbo, u0w (w := w) hi']
          have hlen : ((xs.take hh).drop l).length = hh - l := by simp; omega
          have hrep : ∀ L, RepT g L (.slice false false (tsize P e) ((xs.take hh).drop l)) (.slice (some (if cap = l then ⟨b, off, none⟩ else ⟨b, off + l * tsize P e, none⟩)) (hh - l) (cap - l)) := by
            intro L
            have key : ∀ off', (l < hh → off' = off + l * tsize P e) → Rep g.ι g.im (.slice false false (tsize P e) ((xs.take hh).drop l)) (.slice (some ⟨b, off', none⟩) (hh - l) (cap - l)) := by
              intro off' hoff
              rw [← hlen]
              refine .flat (.slice (fun i j => vs (l + i) j) (.inl rfl) (by omega) (fun i x hx => ?_) (fun i x j c hx hc => ?_) (fun i x j c hx hc => ?_))
              all_goals
                have hi2 : i < hh - l := by
                  have := (List.getElem?_eq_some_iff.mp hx).1
                  omega
                simp only [List.getElem?_drop, List.getElem?_take] at hx
                rw [if_pos (by omega)] at hx
              · exact hsz _ _ hx
              · have := him _ _ _ _ hx hc
                rw [hoff (by omega), ← this, Nat.add_mul, ← Nat.add_assoc]
              · exact hr _ _ _ _ hx hc
            by_cases hcl : cap = l
            · rw [if_pos hcl]
              exact rT (key off (fun hlt => by omega)) L
            · rw [if_neg hcl]
              exact rT (key _ (fun _ => rfl)) L
          refine u0d h ?_ hrep
          simp [Instr.sliceAt, Instr.slice, run_underlying hu, hbo, u0w (w := w) hi', Addr.add]
          split <;> simp_all
      · have hb' : ((z || sz == tsize P e) && (decide (l ≤ hh) && decide (hh ≤ xs.length))) = false := by
          rw [Bool.eq_false_iff]
          intro hc
          simp only [Bool.and_eq_true, Bool.or_eq_true, decide_eq_true_eq, beq_iff_eq] at hc
          exact hb hc
        rw [hb'] at h
        simp [M.fail] at h
  · simp [M.fail] at h
theorem ujq {t : TypeId} {lo hi : Option PV} {clo chi : Option Value} {p : PV} {u : Value} {out : Out PV} (hu : P.underlying t = some .string) (h : slS p lo hi H = some out) (hp : RepT g L p u)
    (rlo : ∀ q, lo = some q → ∃ v L, clo = some v ∧ RepT g L q v) (nlo : lo = none → clo = none) (rhi : ∀ q, hi = some q → ∃ v L, chi = some v ∧ RepT g L q v) (nhi : hi = none → chi = none) :
    PureRes P g w H (Instr.sliceAt t u clo chi none) out := by
  unfold slS at h
  split at h
  · rename_i s
    obtain rfl := hp.str
    cases e1 : bnd s.size hi with
    | none => rw [e1] at h; simp [M.fail] at h
    | some hh =>
    cases e2 : bnd 0 lo with
    | none => rw [e1, e2] at h; simp [M.fail] at h
    | some l =>
      rw [e1, e2] at h
      simp only at h
      by_cases hb : l ≤ hh ∧ hh ≤ s.size
      · rw [decide_eq_true hb.1, decide_eq_true hb.2] at h
        have hbo := u6z (P := P) (w := w) (isS := false) (cap := s.size) e1 e2 rlo nlo rhi nhi hb.1 hb.2
        exact u0d h (by simp [Instr.sliceAt, Instr.slice, run_underlying hu, hbo]) (fun L => rStr _ L)
      · have hb' : (decide (l ≤ hh) && decide (hh ≤ s.size)) = false := by
          rw [Bool.eq_false_iff]
          intro hc
          simp only [Bool.and_eq_true, decide_eq_true_eq] at hc
          exact hb hc
        rw [hb'] at h
        simp [M.fail] at h
  · simp [M.fail] at h
end Go.Proofs.YtiiepllnnjjmaaaDoor.Pi
namespace Go.Proofs.YtiiepllnnjjmaaaDoor.Pi
variable {P : Program} {g : G} {L L' : Owner} {w : World} {H : Heap}
theorem lnS_ok {t ty : TypeId} {tys : Array TypeId} {p : PV} {u : Value} {out : Out PV} (h0 : tys[0]? = some t) (ht : P.underlying t = some .string) (h : lnS p H = some out) (hp : RepT g L p u) : PureRes P g w H (Builtin.len_ tys ty #[u]) out := by
  cases p with
  | str s =>
    obtain rfl := hp.str
    unfold lnS at h
    exact u0d h (by simp [Builtin.len_, h0, run_underlying ht, goInt]) (fun L => rInt _ _ L)
  | _ => (unfold lnS at h; exact nomatch h)
theorem lnL_ok {t ty e : TypeId} {tys : Array TypeId} {p : PV} {u : Value} {out : Out PV} (h0 : tys[0]? = some t) (ht : P.underlying t = some (.slice e)) (h : lnL p H = some out) (hp : RepT g L p u) : PureRes P g w H (Builtin.len_ tys ty #[u]) out := by
  cases p with
  | slice o z sz xs =>
    unfold lnL at h
    rcases hp.slice with ⟨rfl, rfl, rfl, rfl⟩ | ⟨rfl, b, off, cap, sp, vs, rfl, _⟩
    · exact u0d h (by simp [Builtin.len_, h0, run_underlying ht, goInt]) (fun L => rInt _ _ L)
    · exact u0d h (by simp [Builtin.len_, h0, run_underlying ht, goInt]) (fun L => rInt _ _ L)
  | _ => (unfold lnL at h; exact nomatch h)
theorem mn_ok {tys : Array TypeId} {ty : TypeId} {p q : PV} {u v : Value} {out : Out PV} (h : mn p q H = some out) (hp : RepT g L p u) (hq : RepT g L' q v) : PureRes P g w H (Builtin.min_ tys ty #[u, v]) out := by
  unfold mn at h
  split at h
  · rename_i k a k' b
    obtain rfl := hp.int
    obtain rfl := hq.int
    by_cases hk : k = k'
    · rw [decide_eq_true hk] at h
      exact u0d h (by simp [Builtin.min_, Builtin.min2]) (fun L => rInt _ _ L)
    · rw [decide_eq_false hk] at h
      simp [M.fail] at h
  · simp [M.fail] at h
theorem mx_ok {tys : Array TypeId} {ty : TypeId} {p q : PV} {u v : Value} {out : Out PV} (h : mx p q H = some out) (hp : RepT g L p u) (hq : RepT g L' q v) : PureRes P g w H (Builtin.max_ tys ty #[u, v]) out := by
  unfold mx at h
  split at h
  · rename_i k a k' b
    obtain rfl := hp.int
    obtain rfl := hq.int
    by_cases hk : k = k'
    · rw [decide_eq_true hk] at h
      exact u0d h (by simp [Builtin.max_, Builtin.max2]) (fun L => rInt _ _ L)
    · rw [decide_eq_false hk] at h
      simp [M.fail] at h
  · simp [M.fail] at h
theorem u8t {p : PV} {u : Value} (hv : isVal p = true) (hp : RepT g L p u) : Rep g.ι g.im (stripC p) u := by
  cases hp with
  | one hs => exact hs.toRep (by cases p <;> first | rfl | simp [isVal] at hv)
  | tup => simp [isVal] at hv
  | aggo => simp [isVal] at hv
theorem mi_ok {t : TypeId} {p : PV} {u : Value} {out : Out PV} (hn : u8e P t = true) (h : mi t p H = some out) (hp : RepT g L p u) : PureRes P g w H (Instr.makeInterface t u) out := by
  unfold mi at h
  cases hv : isVal p with
  | false => rw [hv] at h; simp [M.fail] at h
  | true =>
    rw [hv] at h
    refine u0d h (cv := .iface t u) ?_ (fun L => rT (.iface (u8t hv hp)) L)
    unfold u8e at hn
    cases hu : P.underlying t with
    | none => rw [hu] at hn; simp at hn
    | some d =>
      rw [hu] at hn
      simp only [Instr.makeInterface, Sem.run_bind, run_underlying hu, Result.andThen_ok]
      cases d <;> first | rfl | simp at hn
theorem mf_ok {f : FuncId} {first caps : List PV} {cf cc : Array Value} {out : Out PV} (h1 : cf.size = first.length) (h2 : cc.size = caps.length) (r1 : ∀ (j : Nat) (c : PV) (v : Value), first[j]? = some c → cf[j]? = some v → ∃ L, RepT g L c v)
    (r2 : ∀ (j : Nat) (c : PV) (v : Value), caps[j]? = some c → cc[j]? = some v → ∃ L, RepT g L c v) (h : mf f first caps H = some out) : PureRes P g w H (Instr.makeFunc (.func f) cf cc) out := by
  unfold mf at h
  cases hv : (first.all isVal && caps.all isVal) with
  | false => rw [hv] at h; simp [M.fail] at h
  | true =>
    rw [hv] at h
    simp only [Bool.and_eq_true] at hv
    have key : ∀ {l : List PV} {c : Array Value}, l.all isVal = true → (∀ (j : Nat) (p : PV) (v : Value), l[j]? = some p → c[j]? = some v → ∃ L, RepT g L p v) →
        ∀ (j : Nat) (p : PV) (v : Value), (l.map stripC)[j]? = some p → c[j]? = some v → Rep g.ι g.im p v := by
      intro l c ha hr j p v hj hv
      simp only [List.getElem?_map, Option.map_eq_some_iff] at hj
      obtain ⟨q, hq, rfl⟩ := hj
      obtain ⟨L, hL⟩ := hr j q v hq hv
      exact u8t (List.all_eq_true.mp ha q (List.mem_of_getElem? hq)) hL
    exact u0d h (by simp [Instr.makeFunc]) (fun L => rT (.fn (by simpa using h1) (by simpa using h2) (key hv.1 r1) (key hv.2 r2)) L)
theorem ta_ok {xT t : TypeId} {ok : Bool} {p z : PV} {u zv : Value} {out : Out PV} {d : TypeDesc} (ht : P.underlying t = some d) (hd : ∀ ms, d ≠ .interface ms) {i : TypeInfo} (hi : P.info? t = some i) (hz : i.zero = some zv) (rz : Rep g.ι g.im z zv)
    (h : ta t z ok p H = some out) (hp : RepT g L p u) : PureRes P g w H (Instr.typeAssert u xT t ok) out := by
  unfold ta at h
  split at h
  · rename_i t' v
    obtain ⟨cv, rfl, hr⟩ := hp.iface
    by_cases e : t' = t
    · subst e
      simp only [beq_self_eq_true, cond_true] at h
      refine u0d h (cv := if ok then .tuple #[cv, .bool true] else cv) ?_ (fun L => ?_)
      · simp only [Instr.typeAssert, Sem.run_bind, run_underlying ht, Result.andThen_ok]
        cases d <;> first | (exact absurd rfl (hd _)) | (cases ok <;> simp)
      · cases ok
        · exact rT hr L
        · refine .tup rfl fun j q x hq hx => ?_
          match j with
          | 0 => simp at hq hx; subst hq; subst hx; exact .pure hr
          | 1 => simp at hq hx; subst hq; subst hx; exact .pure (.flat (.bool _))
          | j + 2 => simp at hq
    · have e' : (t' == t) = false := by simpa using e
      rw [e'] at h
      cases ok
      · simp [M.fail] at h
      · simp only [cond_false, cond_true] at h
        refine u0d h (cv := .tuple #[zv, .bool false]) ?_ (fun L => ?_)
        · simp only [Instr.typeAssert, Sem.run_bind, run_underlying ht, Result.andThen_ok]
          cases d <;> first | (exact absurd rfl (hd _)) | simp [e, zeroValue, typeInfo, hi, hz]
        · refine .tup rfl fun j q x hq hx => ?_
          match j with
          | 0 => simp at hq hx; subst hq; subst hx; exact .pure rz
          | 1 => simp at hq hx; subst hq; subst hx; exact .pure (.flat (.bool _))
          | j + 2 => simp at hq
  · obtain rfl := hp.niliface
    cases ok
    · simp [M.fail] at h
    · simp only [cond_true] at h
      refine u0d h (cv := .tuple #[zv, .bool false]) ?_ (fun L => ?_)
      · simp only [Instr.typeAssert, Sem.run_bind, run_underlying ht, Result.andThen_ok]
        cases d <;> first | (exact absurd rfl (hd _)) | simp [zeroValue, typeInfo, hi, hz]
      · refine .tup rfl fun j q x hq hx => ?_
        match j with
        | 0 => simp at hq hx; subst hq; subst hx; exact .pure rz
        | 1 => simp at hq hx; subst hq; subst hx; exact .pure (.flat (.bool _))
        | j + 2 => simp at hq
  · simp [M.fail] at h
theorem nc_ok {p : PV} {u : Value} {out : Out PV} (h : nc P p H = some out) (hp : RepT g L p u) :
    (out = .ok p H ∧ (∀ L, RepT g L p u) ∧ u ≠ .pointer none ∧ u ≠ .nilIface ∧ u ≠ .nilFunc ∧ ∀ nm fst cap, u ≠ .func (.method nm) fst cap) ∨
    (out = .pan (nilDeref P) H ∧ (u = .pointer none ∨ u = .nilIface ∨ u = .nilFunc)) := by
  unfold nc at h
  split at h <;> simp only [M.pan, M.pure, M.fail, Option.some.injEq, reduceCtorEq] at h
  · exact .inr ⟨h.symm, .inl hp.nil⟩
  · exact .inr ⟨h.symm, .inr (.inl hp.niliface)⟩
  · exact .inr ⟨h.symm, .inr (.inr hp.nilfn)⟩
  · obtain ⟨b, hb, rfl⟩ := hp.ptr
    exact .inl ⟨h.symm, fun L => rT (.ptr hb) L, by simp, by simp, by simp, by simp⟩
  · obtain ⟨b, o, vs, rfl, h1, h2⟩ := hp.elem
    exact .inl ⟨h.symm, fun L => rT (.elem vs h1 h2) L, by simp, by simp, by simp, by simp⟩
  · obtain ⟨fv, cv, rfl, h1, h2, h3, h4⟩ := hp.fn
    exact .inl ⟨h.symm, fun L => rT (.fn h1 h2 h3 h4) L, by simp, by simp, by simp, by simp⟩
  · obtain ⟨cv, rfl, hr⟩ := hp.iface
    exact .inl ⟨h.symm, fun L => rT (.iface hr) L, by simp, by simp, by simp, by simp⟩
end Go.Proofs.YtiiepllnnjjmaaaDoor.Pi
namespace Go.Proofs.YtiiepllnnjjmaaaDoor.Pi
variable {P : Program} {g : G} {L L' : Owner} {w w' : World} {H : Heap} {x : Nat} {env : Env}
def ValOk (P : Program) (x : Nat) (g : G) (w : World) (env' : Env) (tm : Array Value) (d : Option Tmp) (s : Sem Value) : Out PV → Prop
  | .ok v H' => ∃ cv w' g', s.run P w = .ok cv w' ∧ Glob g w g' w' ∧ Inv g' H' w' ∧ TOk x g' env' tm ∧ ∀ t, d = some t → RepT g' (.tmp t) v cv
  | .pan v H' => ∃ cv w' g', s.run P w = .halt (.panic cv) w' ∧ Glob g w g' w' ∧ Inv g' H' w' ∧ Grow IsTmp g g' ∧ Rep g'.ι g'.im v cv
theorem PureRes.valOk {s : Sem Value} {out : Out PV} (h : PureRes P g w H s out) (hi : Inv g H w) {env' : Env} {tm : Array Value} (ht : TOk x g env' tm) (d : Option Tmp) : ValOk P x g w env' tm d s out := by
  obtain ⟨v, cv, rfl, hr, hv⟩ := h
  exact ⟨cv, w, g, hr, Glob.refl _ _, hi, ht, fun t _ => hv _⟩
def G.ren (g : G) (f : Owner → Owner) : G := { g with ow := fun b => (g.ow b).map fun (L, s) => (f L, s) }
theorem ren_ow {f : Owner → Owner} {b : Nat} {L : Owner} {s : Nat} (h : g.ow b = some (L, s)) : (g.ren f).ow b = some (f L, s) := by simp [G.ren, h]
theorem u7a {f : Owner → Owner} {S : Owner → Prop} (hf : ∀ M, S M → f M = M) : Grow S g (g.ren f) :=
  ⟨fun _ _ h => h, fun _ _ _ h => h, fun b M s hM hb => ⟨by rw [ren_ow hb, hf M hM], fun _ h => h⟩⟩
theorem ren_none {f : Owner → Owner} {b : Nat} : (g.ren f).ow b = none ↔ g.ow b = none := by simp [G.ren]
theorem u36 {f : Owner → Owner} (hf : ∀ M, f (.up M) = .up M) : Glob g w (g.ren f) w :=
  ⟨rfl, rfl, rfl, Nat.le_refl _, fun b _ h1 h2 => ⟨ren_none.mpr h1, h2, rfl⟩, u7a (fun M hM => by cases M <;> first | exact hM.elim | exact hf _)⟩
theorem RepS.ren {f : Owner → Owner} {p : PV} {v : Value} (h : RepS g L p v) (hf : f L = L') : RepS (g.ren f) L' p v := by
  cases h with
  | undef => exact .undef v
  | pure h => exact .pure h
  | own vs hc hsz him hr how hs hroom => exact .own vs hc hsz him hr (by rw [ren_ow how, hf]) hs hroom
theorem RepT.ren {f : Owner → Owner} {p : PV} {v : Value} (h : RepT g L p v) (hf : f L = L') (hs : ∀ j, f (.sub L j) = .sub L' j) : RepT (g.ren f) L' p v := by
  cases h with
  | one h => exact .one (h.ren hf)
  | tup h1 r => exact .tup h1 fun j p v a b => (r j p v a b).ren (hs j)
  | aggo h1 hc r => exact .aggo h1 hc fun j p v a b => (r j p v a b).ren (hs j)
theorem BoxOk.ren {f : Owner → Owner} {id b : Nat} {y : Box} (h : BoxOk g w id b y) (hf : ∀ o, f (.cell id o) = .cell id o) : BoxOk (g.ren f) w id b y := by
  cases y with
  | cells cs =>
    obtain ⟨h1, h2, vs, T, h3, h4, h5⟩ := h
    exact ⟨ren_none.mpr h1, h2, vs, T, h3, h4, fun o c v hc hv => let ⟨a, r⟩ := h5 o c v hc hv; ⟨a.ren (hf o), r⟩⟩
  | iter s pos =>
    obtain ⟨h1, h2, h3⟩ := h
    exact ⟨ren_none.mpr h1, h2, h3⟩
  | dead => exact h
theorem Inv.ren {f : Owner → Owner} (h : Inv g H w) (hf : ∀ id o, f (.cell id o) = .cell id o) : Inv (g.ren f) H w :=
  ⟨h.len, h.nd, h.im, fun b M s hb => by
    simp only [G.ren, Option.map_eq_some_iff] at hb
    obtain ⟨⟨M', s'⟩, h1, h2⟩ := hb
    simp only [Prod.mk.injEq] at h2
    obtain ⟨_, rfl⟩ := h2
    exact h.ow b M' s' h1, fun id b y h1 h2 => (h.box id b y h1 h2).ren (hf id), h.gl⟩
theorem RepS.ofStrip {p : PV} {v : Value} (h : RepS g L p v) (hp : Pi.stripC p = p) : ∀ f M, RepS (g.ren f) M p v := fun f M => by
  have h2 := h.strip (L' := M)
  rw [hp] at h2
  cases h2 with
  | undef => exact .undef v
  | pure h => exact .pure h
  | own => simp [Pi.stripC] at hp
theorem u40 (p : PV) : stripC (stripC p) = stripC p := by cases p <;> rfl
theorem RepT.stripRen {p : PV} {v : Value} (h : RepT g L p v) (f : Owner → Owner) (M : Owner) : RepT (g.ren f) M (Pi.strip p) v := by
  have h2 := h.strip (L' := M)
  cases p with
  | tup ps =>
    cases h2 with
    | one h => cases h with
      | pure h => cases h with
        | flat h => cases h
    | tup h1 r =>
      refine .tup h1 fun j q u a b => ?_
      simp only [List.getElem?_map, Option.map_eq_some_iff] at a
      obtain ⟨q0, hq0, rfl⟩ := a
      exact (r j _ u (by simp [hq0]) b).ofStrip (u40 _) f _
  | slice o z sz xs =>
    cases h2 with
    | one h => exact .one (h.ofStrip rfl f M)
  | _ => cases h2 with
    | one h => exact .one (h.ofStrip rfl f M)
def mvTmp (s d : Nat) : Owner → Owner
  | .tmp t => if t = s then .tmp d else .tmp t
  | .sub (.tmp t) j => if t = s then .sub (.tmp d) j else .sub (.tmp t) j
  | M => M
theorem TOk.move {tm : Array Value} (h : TOk x g env tm) (s d : Nat) : TOk x (g.ren (mvTmp s d)) (env.set s (strip (env.getD s .undef))) tm := by
  have hl := h.len
  refine ⟨h.one, by simp [h.len], fun t u q hu hq => ?_, fun t q ht hq => ?_⟩
  · by_cases e : s = t
    · subst e
      have h2 : s < env.length := by
        have := (List.getElem?_eq_some_iff.mp hq).1
        simpa using this
      rw [List.getElem?_set_self h2] at hq
      simp only [Option.some.injEq] at hq
      subst hq
      have : env.getD s .undef = env[s] := by simp [List.getD, List.getElem?_eq_getElem h2]
      rw [this]
      exact (h.val s u _ hu (List.getElem?_eq_getElem h2)).stripRen _ _
    · rw [List.getElem?_set_ne e] at hq
      refine (h.val t u q hu hq).ren ?_ (fun j => ?_)
      · show (if t = s then _ else _) = _
        rw [if_neg (fun h => e h.symm)]
      · show (if t = s then _ else _) = _
        rw [if_neg (fun h => e h.symm)]
  · have h3 := h.giveUp (some (s, none))
    exact h3.slot t q ht hq
def mvSub (s i d : Nat) : Owner → Owner
  | .sub (.tmp t) j => if t = s ∧ j = i then .tmp d else .sub (.tmp t) j
  | M => M
theorem TOk.moveSub {tm : Array Value} (h : TOk x g env tm) (s i d : Nat) : TOk x (g.ren (mvSub s i d)) (env.set s (tupDrop i (env.getD s .undef))) tm := by
  have hl := h.len
  refine ⟨h.one, by simp [h.len], fun t u q hu hq => ?_, fun t q ht hq => ?_⟩
  · by_cases e : s = t
    · subst e
      have h2 : s < env.length := by
        have := (List.getElem?_eq_some_iff.mp hq).1
        simpa using this
      rw [List.getElem?_set_self h2] at hq
      simp only [Option.some.injEq] at hq
      subst hq
      have : env.getD s .undef = env[s] := by simp [List.getD, List.getElem?_eq_getElem h2]
      rw [this]
      have hv := h.val s u _ hu (List.getElem?_eq_getElem h2)
      generalize env[s] = p at hv
      cases p with
      | tup ps =>
        obtain ⟨vs, rfl, h1, h3⟩ := hv.tupI
        refine .tup (by simpa using h1) fun j q u hq hu => ?_
        by_cases e : i = j
        · subst e
          have hi : i < ps.length := by
            have := (List.getElem?_eq_some_iff.mp hq).1
            simpa using this
          rw [List.getElem?_set_self hi] at hq
          simp only [Option.some.injEq] at hq
          subst hq
          have : ps.getD i .undef = ps[i] := by simp [List.getD, List.getElem?_eq_getElem hi]
          rw [this]
          exact ((h3 i ps[i] u (List.getElem?_eq_getElem hi) hu).strip (L' := .res)).ofStrip (u40 _) _ _
        · rw [List.getElem?_set_ne e] at hq
          refine (h3 j q u hq hu).ren ?_
          show (if s = s ∧ j = i then _ else _) = _
          rw [if_neg (fun h => e h.2.symm)]
      | aggo ps => exact hv.stripRen _ _
      | _ => cases hv with
        | one hv => exact .one (hv.ren rfl)
    · rw [List.getElem?_set_ne e] at hq
      refine (h.val t u q hu hq).ren rfl (fun j => ?_)
      show (if t = s ∧ j = i then _ else _) = _
      rw [if_neg (fun h => e h.1.symm)]
  · have h3 := h.giveUp (some (s, some i))
    exact h3.slot t q ht hq
structure Pushed (w w' : World) (o : Obj) : Prop where
  heap : w'.heap = w.heap.push o
  os : w'.os = w.os
  tape : w'.tape = w.tape
  output : w'.output = w.output
theorem Pushed.alloc (w : World) (o : Obj) : Pushed w (w.alloc o) o := ⟨rfl, rfl, rfl, rfl⟩
theorem Pushed.old {o : Obj} (h : Pushed w w' o) {b : Nat} (hb : b < w.heap.size) : w'.heap[b]? = w.heap[b]? := by
  rw [h.heap, Array.getElem?_push, if_neg (by omega)]
theorem Pushed.new {o : Obj} (h : Pushed w w' o) : w'.heap[w.heap.size]? = some o := by rw [h.heap]; simp
theorem Pushed.size {o : Obj} (h : Pushed w w' o) : w'.heap.size = w.heap.size + 1 := by rw [h.heap]; simp
theorem Pushed.cell {o : Obj} (h : Pushed w w' o) {b : Nat} (hb : b < w.heap.size) (k : Nat) : w'.cell? ⟨b, k, none⟩ = w.cell? ⟨b, k, none⟩ := by
  simp [World.cell?, h.old hb]
def G.box (g : G) (b : Nat) : G := { g with ι := g.ι ++ [b] }
theorem u4c (b : Nat) (S : Owner → Prop) : Grow S g (g.box b) :=
  ⟨fun i c h => by
    have hi : i < g.ι.length := (List.getElem?_eq_some_iff.mp h).1
    show (g.ι ++ [b])[i]? = some c
    rw [List.getElem?_append_left hi]
    exact h, fun _ _ _ h => h, fun _ _ _ _ h => ⟨h, fun _ h => h⟩⟩
theorem Inv.ow_new (h : Inv g H w) : g.ow w.heap.size = none := by
  cases hb : g.ow w.heap.size with
  | none => rfl
  | some q => exact absurd (h.lt_ow (L := q.1) (s := q.2) hb) (by omega)
theorem Inv.im_new (h : Inv g H w) (o : Nat) : g.im w.heap.size o = none := by
  cases hb : g.im w.heap.size o with
  | none => rfl
  | some q => exact absurd (h.lt_im hb) (by omega)
theorem Inv.pushBox {o : Obj} {y : Box} (h : Inv g H w) (hp : Pushed w w' o) (hy : BoxOk (g.box w.heap.size) w' H.length w.heap.size y) : Inv (g.box w.heap.size) (H ++ [y]) w' := by
  refine ⟨by simp [G.box, h.len], fun i j b hi hj => ?_, fun b k v hv => ?_, fun b M s hb => ?_, fun id b z hb hz => ?_, h.gl⟩
  · simp only [G.box] at hi hj
    rcases Nat.lt_or_ge i g.ι.length with hil | hil <;> rcases Nat.lt_or_ge j g.ι.length with hjl | hjl
    · rw [List.getElem?_append_left hil] at hi
      rw [List.getElem?_append_left hjl] at hj
      exact h.nd i j b hi hj
    · rw [List.getElem?_append_left hil] at hi
      rw [List.getElem?_append_right hjl] at hj
      have hj2 : b = w.heap.size := by
        have := (List.getElem?_eq_some_iff.mp hj).1
        simp at this
        have h0 : j - g.ι.length = 0 := by omega
        rw [h0] at hj
        simpa using hj.symm
      have := h.lt_ι hi
      omega
    · rw [List.getElem?_append_right hil] at hi
      rw [List.getElem?_append_left hjl] at hj
      have hi2 : b = w.heap.size := by
        have := (List.getElem?_eq_some_iff.mp hi).1
        simp at this
        have h0 : i - g.ι.length = 0 := by omega
        rw [h0] at hi
        simpa using hi.symm
      have := h.lt_ι hj
      omega
    · have h1 := (List.getElem?_eq_some_iff.mp hi).1
      have h2 := (List.getElem?_eq_some_iff.mp hj).1
      simp at h1 h2
      omega
  · rw [hp.cell (h.lt_im hv)]
    exact h.im b k v hv
  · rw [hp.old (h.lt_ow hb)]
    exact h.ow b M s hb
  · simp only [G.box] at hb
    rcases Nat.lt_or_ge id g.ι.length with hil | hil
    · rw [List.getElem?_append_left hil] at hb
      rw [List.getElem?_append_left (by rw [← h.len]; exact hil)] at hz
      exact (h.box id b z hb hz).mono (u4c _ _) (fun h => h) (fun h => h) (hp.old (h.lt_ι hb)) (by rw [hp.size]; omega)
    · have h1 := (List.getElem?_eq_some_iff.mp hz).1
      simp at h1
      have hl := h.len
      have hid : id = H.length := by omega
      subst hid
      rw [List.getElem?_append_right (by omega)] at hb
      rw [List.getElem?_append_right (by omega)] at hz
      have h0 : H.length - g.ι.length = 0 := by omega
      rw [h0] at hb
      simp at hb hz
      subst hb; subst hz
      exact hy
theorem Glob.pushBox {o : Obj} (h : Inv g H w) (hp : Pushed w w' o) : Glob g w (g.box w.heap.size) w' :=
  ⟨hp.os, hp.tape, hp.output, by rw [hp.size]; omega, fun b hb h1 h2 => ⟨h1, by
    simp only [G.box, List.mem_append, List.mem_singleton, not_or]
    exact ⟨h2, by omega⟩, hp.old hb⟩, u4c _ _⟩
end Go.Proofs.YtiiepllnnjjmaaaDoor.Pi
namespace Go.Proofs.YtiiepllnnjjmaaaDoor.Pi
variable {P : Program} {g : G} {L L' : Owner} {w w' : World} {H : Heap} {x : Nat} {env : Env}
theorem u6u {b k : Nat} {vs : Array Value} {T : TypeId} (h : w.heap[b]? = some (.cells vs T (0, 0))) : w.cell? ⟨b, k, none⟩ = vs[k]? := by simp [World.cell?, h]
theorem u5q {p : PV} {v : Value} (h : RepS g L p v) (hc : isCell p = true) : v.oneCell' = true := by
  cases h with
  | undef => simp [isCell] at hc
  | pure h => cases h with
    | flat h => cases h <;> rfl
    | agg => simp [isCell] at hc
    | _ => rfl
  | own => rfl
theorem Inv.boxAt (h : Inv g H w) {id : Nat} {y : Box} (hy : H[id]? = some y) : ∃ b, g.ι[id]? = some b ∧ BoxOk g w id b y := by
  have hi : id < g.ι.length := by rw [h.len]; exact (List.getElem?_eq_some_iff.mp hy).1
  exact ⟨g.ι[id], List.getElem?_eq_getElem hi, h.box id _ y (List.getElem?_eq_getElem hi) hy⟩
theorem u6n {t : TypeId} {a : Addr} {v : Value} (hk : known P t = true) (ht : tagg P t = none) (hc : w.cell? a = some v) : (loadVar t a).run P w = .ok v w := by
  simp [loadVar, ud0 (w := w) ht (u3u hk), hc]
theorem ua0 {t : TypeId} {b o n : Nat} {vs : List Value} (hk : known P t = true) (ht : tagg P t = some n) (hn : vs.length = n) (hc : ∀ (j : Nat) (v : Value), vs[j]? = some v → w.cell? ⟨b, o + j, none⟩ = some v) :
    (loadVar t ⟨b, o, none⟩).run P w = .ok (.agg vs.toArray) w := by
  obtain ⟨d, hd⟩ := u3u hk
  obtain ⟨i, hi⟩ := u0r hd
  obtain ⟨ha, hs⟩ := udc (w := w) ht
  have hl := run_loadCells_list (P := P) w ⟨b, o, none⟩ vs (fun j v hv => by
    have : (⟨b, o, none⟩ : Addr).add j = ⟨b, o + j, none⟩ := by unfold Addr.add; split <;> simp_all
    rw [this]
    exact hc j v hv)
  rw [hn, hs] at hl
  simp [loadVar, ha, u0w (w := w) hi, hl]
theorem RepF.isCell {im : Nat → Nat → Option Value} {p : PV} {v : Value} (h : RepF im p v) : Pi.isCell p = true := by cases h <;> rfl
set_option maxHeartbeats 1000000 in
theorem ufg {t : TypeId} {p : PV} {u : Value} {out : Out PV} (hk : known P t = true) (h : ld (tagg P t) false p H = some out) (hi : Inv g H w) (hp : RepT g L p u) : PureRes P g w H (Instr.loadAt t u) out := by
  cases p with
  | ptr id o =>
    unfold ld at h
    dsimp only at h
    obtain ⟨b, hb, rfl⟩ := hp.ptr
    cases hy : H[id]? with
    | none => simp only [hy] at h; simp at h
    | some y =>
      simp only [hy] at h
      cases y with
      | cells cs =>
        simp only at h
        obtain ⟨b', hb', hbox⟩ := hi.boxAt hy
        obtain rfl : b = b' := by rw [hb] at hb'; exact Option.some.inj hb'
        obtain ⟨h1, h2, vs, T, h3, h4, h5⟩ := hbox
        cases ht : tagg P t with
        | none =>
          rw [ht] at h
          simp only at h
          cases hv : cs[o]? with
          | none => rw [hv] at h; simp at h
          | some v =>
            rw [hv] at h
            simp only [cond_false, Option.some.injEq] at h
            have hlt : o < vs.size := by rw [h4]; exact (List.getElem?_eq_some_iff.mp hv).1
            obtain ⟨hr, hcell, _⟩ := h5 o v vs[o] hv (by simp [hlt])
            refine ⟨stripC v, vs[o], h.symm, ?_, fun L => .one hr.strip⟩
            simp [Instr.loadAt, Instr.sureAddr, u6n (a := ⟨b, o, none⟩) hk ht (by rw [u6u h3]; simp [hlt] : w.cell? ⟨b, o, none⟩ = some vs[o])]
        | some n =>
          rw [ht] at h
          simp only at h
          by_cases hb2 : o + n ≤ cs.length
          · rw [decide_eq_true hb2] at h
            simp only [cond_true, Option.some.injEq] at h
            have hl : ((vs.toList.drop o).take n).length = n := by simp [h4]; omega
            refine ⟨_, .agg ((vs.toList.drop o).take n).toArray, h.symm, ?_, fun L => rT (.agg ?_ ?_ ?_) L⟩
            · have := ua0 (P := P) (w := w) (b := b) (o := o) hk ht hl (fun j v hv => by
                simp only [List.getElem?_take, List.getElem?_drop] at hv
                split at hv
                · rw [u6u h3]; simpa using hv
                · simp at hv)
              simp [Instr.loadAt, Instr.sureAddr, this]
            · simp [h4]; 
            · intro j c hj
              simp only [List.getElem?_map, List.getElem?_take, List.getElem?_drop, Option.map_eq_some_iff] at hj
              obtain ⟨q, hq, rfl⟩ := hj
              split at hq
              · have hlt : o + j < vs.size := by rw [h4]; exact (List.getElem?_eq_some_iff.mp hq).1
                obtain ⟨_, hc, _⟩ := h5 _ q vs[o + j] hq (by simp [hlt])
                cases q <;> first | exact hc | rfl
              · simp at hq
            · intro j c v hj hv
              simp only [List.getElem?_map, List.getElem?_take, List.getElem?_drop, Option.map_eq_some_iff] at hj
              obtain ⟨q, hq, rfl⟩ := hj
              simp only [List.getElem?_toArray, List.getElem?_take, List.getElem?_drop] at hv
              split at hq
              · rename_i hjn
                rw [if_pos hjn] at hv
                obtain ⟨hr, hc, _⟩ := h5 _ q v hq (by simpa using hv)
                exact hr.toRep (by cases q <;> first | rfl | simp [isCell] at hc)
              · simp at hq
          · rw [decide_eq_false hb2] at h
            simp at h
      | iter s pos => simp at h
      | dead => simp at h
  | elem cs =>
    unfold ld at h
    dsimp only at h
    obtain ⟨b, o, vs, rfl, h1, h2⟩ := hp.elem
    cases ht : tagg P t with
    | none =>
      rw [ht] at h
      simp only at h
      cases hv : cs[0]? with
      | none => rw [hv] at h; simp [M.fail] at h
      | some v =>
        rw [hv] at h
        have hc := hi.im _ _ _ (h1 0 v hv)
        exact u0d h (by simp [Instr.loadAt, Instr.sureAddr, u6n (a := ⟨b, o, none⟩) hk ht hc]) (fun L => rF (h2 0 v hv) L)
    | some n =>
      rw [ht] at h
      simp only at h
      by_cases hb2 : n ≤ cs.length
      · rw [decide_eq_true hb2] at h
        have hl : ((List.range n).map vs).length = n := by simp
        refine u0d h (cv := .agg ((List.range n).map vs).toArray) ?_ (fun L => rT (.agg ?_ ?_ ?_) L)
        · have := ua0 (P := P) (w := w) (b := b) (o := o) hk ht hl (fun j v hv => by
            have hj : j < n := by
              have := (List.getElem?_eq_some_iff.mp hv).1
              simpa using this
            simp [hj] at hv
            subst hv
            have hj2 : j < cs.length := by omega
            exact hi.im _ _ _ (h1 j cs[j] (List.getElem?_eq_getElem hj2)))
          simp [Instr.loadAt, Instr.sureAddr, this]
        · simp; omega
        · intro j c hj
          simp only [List.getElem?_take] at hj
          split at hj
          · exact (h2 j c hj).isCell
          · simp at hj
        · intro j c v hj hv
          simp only [List.getElem?_take] at hj
          split at hj
          · rename_i hjn
            simp [hjn] at hv
            subst hv
            exact .flat (h2 j c hj)
          · simp at hj
      · rw [decide_eq_false hb2] at h
        simp [M.fail] at h
  | _ => (unfold ld at h; exact nomatch h)
end Go.Proofs.YtiiepllnnjjmaaaDoor.Pi
namespace Go.Proofs.YtiiepllnnjjmaaaDoor.Pi
variable {P : Program} {g : G} {L L' : Owner} {w w' : World} {H : Heap} {x : Nat} {env : Env}
def mvCell (id o d : Nat) : Owner → Owner
  | .cell i k => if i = id ∧ k = o then .tmp d else .cell i k
  | M => M
theorem u8a {f : Owner → Owner} (h1 : ∀ t, f (.tmp t) = .tmp t) (h2 : ∀ t j, f (.sub (.tmp t) j) = .sub (.tmp t) j) {tm : Array Value} (h : TOk x g env tm) : TOk x (g.ren f) env tm :=
  ⟨h.one, h.len, fun t v p hv hp => (h.val t v p hv hp).ren (h1 t) (h2 t), h.slot⟩
theorem u5t (n : Nat) (p : PV) : (stripC p).low n = p.low n := by cases p <;> simp [stripC, PV.low]
theorem u3a (p : PV) : isCell (stripC p) = isCell p := by cases p <;> rfl
theorem ld_mvS {t : TypeId} {p : PV} {u : Value} {out : Out PV} (d : Nat) (hk : known P t = true) (h : ld (tagg P t) true p H = some out) (hi : Inv g H w) (hp : RepT g L p u) :
    ∃ v H' cv g', out = .ok v H' ∧ (Instr.loadAt t u).run P w = .ok cv w ∧ Glob g w g' w ∧ Grow u4f g g' ∧ Inv g' H' w ∧ RepT g' (.tmp d) v cv := by
  have pure : PureRes P g w H (Instr.loadAt t u) out → ∃ v H' cv g', out = .ok v H' ∧ (Instr.loadAt t u).run P w = .ok cv w ∧ Glob g w g' w ∧ Grow u4f g g' ∧ Inv g' H' w ∧ RepT g' (.tmp d) v cv :=
    fun ⟨v, cv, h1, h2, h3⟩ => ⟨v, H, cv, g, h1, h2, Glob.refl _ _, Grow.refl _ _, hi, h3 _⟩
  cases p with
  | ptr id o =>
    unfold ld at h
    dsimp only at h
    obtain ⟨b, hb, rfl⟩ := hp.ptr
    cases hy : H[id]? with
    | none => simp only [hy] at h; simp at h
    | some y =>
      cases hta : tagg P t with
      | some n =>
        refine pure (ufg (P := P) (p := .ptr id o) (L := .res) hk ?_ hi (rT (.ptr hb) _))
        unfold ld
        dsimp only
        simp only [hy, hta] at h ⊢
        exact h
      | none =>
        simp only [hy, hta] at h
        cases y with
        | cells cs =>
          simp only at h
          obtain ⟨b', hb', hbox⟩ := hi.boxAt hy
          obtain rfl : b = b' := by rw [hb] at hb'; exact Option.some.inj hb'
          obtain ⟨h1, h2, vs, T, h3, h4, h5⟩ := hbox
          cases hv : cs[o]? with
          | none => rw [hv] at h; simp at h
          | some v =>
            rw [hv] at h
            simp only [cond_true, Option.some.injEq] at h
            subst h
            have hlt : o < vs.size := by rw [h4]; exact (List.getElem?_eq_some_iff.mp hv).1
            have hcs : o < cs.length := (List.getElem?_eq_some_iff.mp hv).1
            obtain ⟨hr, hcell, hlow⟩ := h5 o v vs[o] hv (by simp [hlt])
            have hid : id < H.length := (List.getElem?_eq_some_iff.mp hy).1
            refine ⟨_, _, vs[o], g.ren (mvCell id o d), rfl, ?_, u36 (fun M => rfl), u7a (fun M hM => by cases M <;> first | rfl | exact hM.elim), ?_, ?_⟩
            · simp [Instr.loadAt, Instr.sureAddr, u6n (a := ⟨b, o, none⟩) hk hta (by rw [u6u h3]; simp [hlt] : w.cell? ⟨b, o, none⟩ = some vs[o])]
            · refine ⟨by simp [G.ren, hi.len], hi.nd, hi.im, fun b' M s hb' => ?_, fun id' b' y' hb' hy' => ?_, hi.gl⟩
              · simp only [G.ren, Option.map_eq_some_iff] at hb'
                obtain ⟨⟨M', s'⟩, e1, e2⟩ := hb'
                simp only [Prod.mk.injEq] at e2
                obtain ⟨_, rfl⟩ := e2
                exact hi.ow b' M' s' e1
              · by_cases e : id = id'
                · subst e
                  rw [List.getElem?_set_self hid] at hy'
                  simp only [Option.some.injEq] at hy'
                  subst hy'
                  obtain rfl : b = b' := by
                    have : g.ι[id]? = some b' := hb'
                    rw [hb] at this
                    exact Option.some.inj this
                  refine ⟨ren_none.mpr h1, h2, vs, T, h3, by simp [h4], fun k c u hc hu => ?_⟩
                  by_cases ek : o = k
                  · subst ek
                    rw [List.getElem?_set_self hcs] at hc
                    simp only [Option.some.injEq] at hc
                    subst hc
                    obtain ⟨hr', _, _⟩ := h5 o v u hv hu
                    exact ⟨(hr'.strip (L' := .res)).ofStrip (u40 _) _ _, by rw [u3a]; exact hcell, by rw [u5t]; exact hlow⟩
                  · rw [List.getElem?_set_ne ek] at hc
                    obtain ⟨hr', hc', hl'⟩ := h5 k c u hc hu
                    refine ⟨hr'.ren ?_, hc', hl'⟩
                    show (if id = id ∧ k = o then _ else _) = _
                    rw [if_neg (fun h => ek h.2.symm)]
                · rw [List.getElem?_set_ne e] at hy'
                  refine (hi.box id' b' y' hb' hy').ren fun k => ?_
                  show (if id' = id ∧ k = o then _ else _) = _
                  rw [if_neg (fun h => e h.1.symm)]
            · refine .one (hr.ren ?_)
              show (if id = id ∧ o = o then _ else _) = _
              rw [if_pos ⟨rfl, rfl⟩]
        | iter s pos => simp at h
        | dead => simp at h
  | elem cs => exact pure (ufg (P := P) (p := .elem cs) hk h hi hp)
  | _ => (unfold ld at h; exact nomatch h)
theorem ld_mv {t : TypeId} {p : PV} {u : Value} {out : Out PV} {tm : Array Value} (d : Nat) (hk : known P t = true) (h : ld (tagg P t) true p H = some out) (hi : Inv g H w) (ht : TOk x g env tm) (hp : RepT g L p u) :
    ValOk P x g w env tm (some d) (Instr.loadAt t u) out := by
  obtain ⟨v, H', cv, g', rfl, h1, h2, h3, h4, h5⟩ := ld_mvS (w := w) d hk h hi hp
  refine ⟨cv, w, g', h1, h2, h4, ht.mono h3 (fun M hM => by cases M <;> first | exact True.intro | exact hM.elim), fun t' ht' => ?_⟩
  simp only [Option.some.injEq] at ht'
  subst ht'
  exact h5
theorem u2x {n : Nat} : ∀ {l : List PV}, lowL n l = true → ∀ (j : Nat) (c : PV), l[j]? = some c → c.low n = true
  | [], _, j, c, hc => by simp at hc
  | v :: r, h, j, c, hc => by
    simp only [lowL, Bool.and_eq_true] at h
    cases j with
    | zero => simp at hc; subst hc; exact h.1
    | succ j => exact u2x h.2 j c (by simpa using hc)
theorem u5y {n m : Nat} (h : n ≤ m) : (p : PV) → p.low n = true → p.low m = true
  | .ptr id o, hp => by simp [PV.low] at hp ⊢; omega
  | .fn f a b, hp => by
    simp only [PV.low, Bool.and_eq_true] at hp ⊢
    exact ⟨lowL_mono h a hp.1, lowL_mono h b hp.2⟩
  | .iface t v, hp => by
    simp only [PV.low] at hp ⊢
    exact u5y h v hp
  | .agg cs, hp => by
    simp only [PV.low] at hp ⊢
    exact lowL_mono h cs hp
  | .tup cs, hp => by
    simp only [PV.low] at hp ⊢
    exact lowL_mono h cs hp
  | .aggo cs, hp => by
    simp only [PV.low] at hp ⊢
    exact lowL_mono h cs hp
  | .int .., _ | .bool _, _ | .str _, _ | .nil, _ | .elem _, _ | .slice .., _ | .nilfn, _ | .niliface, _ | .undef, _ => by simp [PV.low]
where lowL_mono {n m : Nat} (h : n ≤ m) : (l : List PV) → lowL n l = true → lowL m l = true
  | [], _ => rfl
  | v :: r, hl => by
    simp only [lowL, Bool.and_eq_true] at hl ⊢
    exact ⟨u5y h v hl.1, lowL_mono h r hl.2⟩
theorem newBox {cs : List PV} {vs : Array Value} {T : TypeId} (hi : Inv g H w) (hp : Pushed w w' (.cells vs T (0, 0))) (h1 : vs.size = cs.length)
    (hr : ∀ (j : Nat) (c : PV) (v : Value), cs[j]? = some c → vs[j]? = some v → Rep g.ι g.im c v ∧ isCell c = true ∧ c.low (H.length + 1) = true) :
    Inv (g.box w.heap.size) (H ++ [.cells cs]) w' ∧ Glob g w (g.box w.heap.size) w' ∧ Rep (g.box w.heap.size).ι g.im (.ptr H.length 0) (.pointer (some ⟨w.heap.size, 0, none⟩)) := by
  refine ⟨hi.pushBox hp ⟨hi.ow_new, hi.im_new, vs, T, hp.new, h1, fun o c v hc hv => ?_⟩, Glob.pushBox hi hp, .ptr ?_⟩
  · obtain ⟨a, b, c'⟩ := hr o c v hc hv
    exact ⟨.pure (a.mono (u4c _ (fun _ => True)).ι (fun _ _ _ h => h)), b, c'⟩
  · show (g.ι ++ [w.heap.size])[H.length]? = _
    rw [← hi.len]
    simp
theorem u4r {cs : List PV} {vs : Array Value} (hr : ∀ (j : Nat) (c : PV) (v : Value), cs[j]? = some c → vs[j]? = some v → RepS g L c v) (hc : cs.all isCell = true) :
    ∀ (j : Nat) (c : PV) (v : Value), (cs.map stripC)[j]? = some c → vs[j]? = some v → Rep g.ι g.im c v ∧ isCell c = true := by
  intro j c v hj hv
  simp only [List.getElem?_map, Option.map_eq_some_iff] at hj
  obtain ⟨q, hq, rfl⟩ := hj
  have hq2 : isCell q = true := List.all_eq_true.mp hc q (List.mem_of_getElem? hq)
  exact ⟨(hr j q v hq hv).toRep (by cases q <;> first | rfl | simp [isCell] at hq2), by rw [u3a]; exact hq2⟩
theorem u59 {p : PV} {v : Value} (h : RepT g L p v) (hc : p.cells.all isCell = true) : v.cells.size = p.cells.length ∧ ∀ (j : Nat) (c : PV) (u : Value), p.cells[j]? = some c → v.cells[j]? = some u → RepS g L c u := by
  cases p with
  | agg cs =>
    obtain ⟨vs, rfl, h1, _, h3⟩ := h.agg
    exact ⟨h1, fun j c u hc hu => .pure (h3 j c u hc hu)⟩
  | tup ps => simp [PV.cells, isCell] at hc
  | aggo ps => simp [PV.cells, isCell] at hc
  | undef => simp [PV.cells, isCell] at hc
  | _ =>
    cases h with
    | one h =>
      have hv := u5q h rfl
      have e : v.cells = #[v] := by cases v <;> first | rfl | simp [Value.oneCell'] at hv
      refine ⟨by rw [e]; rfl, fun j c u hc hu => ?_⟩
      rw [e] at hu
      have hj : j = 0 := by
        have := (List.getElem?_eq_some_iff.mp hc).1
        simp [PV.cells] at this
        omega
      subst hj
      simp [PV.cells] at hc hu
      subst hc; subst hu
      exact h
theorem bx_ok {t : TypeId} {p : PV} {u : Value} {out : Out PV} {tm : Array Value} (d : Option Tmp) (h : bx (tsize P t) p H = some out) (hi : Inv g H w) (ht : TOk x g env tm) (hp : RepT g L p u) : ValOk P x g w env tm d (Instr.box t u) out := by
  unfold bx at h
  cases hc : ((p.cells.map stripC).length == tsize P t && (lowL (H.length + 1) (p.cells.map stripC) && p.cells.all isCell)) with
  | false => rw [hc] at h; simp at h
  | true =>
    rw [hc] at h
    simp only [cond_true, Option.some.injEq] at h
    subst h
    simp only [Bool.and_eq_true, beq_iff_eq] at hc
    obtain ⟨_, hl, hce⟩ := hc
    obtain ⟨c1, c2⟩ := u59 hp hce
    have hm := u4r (vs := u.cells) c2 hce
    obtain ⟨r1, r2, r3⟩ := newBox (cs := p.cells.map stripC) hi (Pushed.alloc w (.cells u.cells t)) (by simp [c1]) (fun j c v hj hv => ⟨(hm j c v hj hv).1, (hm j c v hj hv).2, u2x hl j c hj⟩)
    refine ⟨.pointer (some ⟨w.heap.size, 0, none⟩), _, _, ?_, r2, r1, ht.mono (u4c _ _) (fun L h => h), fun t' _ => rT r3 _⟩
    simp [Instr.box, newVar, newRow]
theorem al_ok {t : TypeId} {i : TypeInfo} {z : Value} {out : Out PV} {tm : Array Value} (d : Option Tmp) (hti : P.info? t = some i) (hz : i.zero = some z) (h : al (ofV z).cells H = some out) (hi : Inv g H w) (ht : TOk x g env tm) :
    ValOk P x g w env tm d (Instr.alloc t true (.tuple #[])) out := by
  unfold al at h
  cases hc : (ofV z).cells.all isCell with
  | false => rw [hc] at h; simp at h
  | true =>
    rw [hc] at h
    simp only [cond_true, Option.some.injEq] at h
    subst h
    obtain ⟨c1, c2⟩ := u59 (u8v (g := g) z .res) hc
    have hlow : ∀ (j : Nat) (c : PV), (ofV z).cells[j]? = some c → c.low (H.length + 1) = true ∧ stripC c = c := by
      intro j c hj
      have key : ∀ {v : Value} {p : PV}, ofVC v = some p → p.low (H.length + 1) = true ∧ stripC p = p := by
        intro v p hp
        unfold ofVC at hp
        split at hp <;> simp only [Option.some.injEq, reduceCtorEq] at hp <;> subst hp <;> exact ⟨by simp [PV.low], rfl⟩
      have keyL : ∀ {vs : List Value} {ps : List PV}, ofVs vs = some ps → ∀ (j : Nat) (c : PV), ps[j]? = some c → c.low (H.length + 1) = true ∧ stripC c = c := by
        intro vs
        induction vs with
        | nil => intro ps h; simp [ofVs] at h; subst h; intro j c hc; simp at hc
        | cons v r ih =>
          intro ps h
          simp only [ofVs] at h
          split at h
          · rename_i a b ha hb
            simp only [Option.some.injEq] at h
            subst h
            intro j c hc
            cases j with
            | zero => simp at hc; subst hc; exact key ha
            | succ j => exact ih hb j c (by simpa using hc)
          · simp at h
      unfold ofV at hj
      split at hj
      · split at hj
        · rename_i l hl
          exact keyL hl j c hj
        · simp only [PV.cells] at hj
          have : j = 0 := by have := (List.getElem?_eq_some_iff.mp hj).1; simp at this; omega
          subst this
          simp at hj
          subst hj
          exact ⟨by simp [PV.low], rfl⟩
      · rename_i f a b
        cases hab : (a.size == 0 && b.size == 0) <;> rw [hab] at hj <;> simp only [cond_true, cond_false, PV.cells] at hj <;>
          (have : j = 0 := by (have := (List.getElem?_eq_some_iff.mp hj).1; simp at this; omega)) <;> subst this <;> simp at hj <;> subst hj <;> exact ⟨by simp [PV.low, lowL], rfl⟩
      · cases hov : ofVC z with
        | none =>
          rw [hov] at hj
          simp only [Option.getD_none, PV.cells] at hj
          have : j = 0 := by have := (List.getElem?_eq_some_iff.mp hj).1; simp at this; omega
          subst this
          simp at hj
          subst hj
          exact ⟨by simp [PV.low], rfl⟩
        | some p =>
          rw [hov] at hj
          simp only [Option.getD_some] at hj
          have hcell := uaa hov
          have e : p.cells = [p] := by cases p <;> first | rfl | simp [isCell] at hcell
          rw [e] at hj
          have : j = 0 := by have := (List.getElem?_eq_some_iff.mp hj).1; simp at this; omega
          subst this
          simp at hj
          subst hj
          exact key hov
    obtain ⟨r1, r2, r3⟩ := newBox (cs := (ofV z).cells) (vs := z.cells) (T := t) hi (Pushed.alloc w (.cells z.cells t)) c1 (fun j c v hj hv => by
      have hq2 : isCell c = true := List.all_eq_true.mp hc c (List.mem_of_getElem? hj)
      have := (c2 j c v hj hv).toRep (by cases c <;> first | rfl | simp [isCell] at hq2)
      rw [(hlow j c hj).2] at this
      exact ⟨this, hq2, (hlow j c hj).1⟩)
    refine ⟨.pointer (some ⟨w.heap.size, 0, none⟩), _, _, ?_, r2, r1, ht.mono (u4c _ _) (fun L h => h), fun t' _ => rT r3 _⟩
    simp [Instr.alloc, zeroValue, typeInfo, hti, hz, newVar, newRow]
theorem rg_ok {t : TypeId} {p : PV} {u : Value} {out : Out PV} {tm : Array Value} (d : Option Tmp) (hu : P.underlying t = some .string) (h : rg p H = some out) (hi : Inv g H w) (ht : TOk x g env tm) (hp : RepT g L p u) : ValOk P x g w env tm d (Instr.range t u) out := by
  cases p with
  | str s =>
    obtain rfl := hp.str
    unfold rg at h
    dsimp only at h
    simp only [Option.some.injEq] at h
    subst h
    have hpu := Pushed.alloc w (.stringIter s 0)
    have r1 := hi.pushBox (y := .iter s 0) hpu ⟨hi.ow_new, hi.im_new, hpu.new⟩
    refine ⟨.pointer (some ⟨w.heap.size, 0, none⟩), _, _, ?_, Glob.pushBox hi hpu, r1, ht.mono (u4c _ _) (fun L h => h), fun t' _ => rT (.ptr ?_) _⟩
    · simp [Instr.range, run_underlying hu]
    · show (g.ι ++ [w.heap.size])[H.length]? = _
      rw [← hi.len]
      simp
  | _ => (unfold rg at h; exact nomatch h)
end Go.Proofs.YtiiepllnnjjmaaaDoor.Pi
namespace Go.Proofs.YtiiepllnnjjmaaaDoor.Pi
variable {P : Program} {g : G} {L L' : Owner} {w w' : World} {H : Heap} {x : Nat} {env : Env}
def mvTC (s id o : Nat) : Owner → Owner
  | .tmp t => if t = s then .cell id o else .tmp t
  | M => M
theorem u4h {o : Nat} {nc cs : List PV} (h : o + nc.length ≤ cs.length) (k : Nat) : (fillAt o nc cs)[k]? = if o ≤ k ∧ k < o + nc.length then nc[k - o]? else cs[k]? := by
  unfold fillAt
  rw [List.append_assoc]
  by_cases h1 : k < o
  · rw [List.getElem?_append_left (by simp; omega), List.getElem?_take, if_pos h1, if_neg (by omega)]
  · rw [List.getElem?_append_right (by simp; omega)]
    have ht : (cs.take o).length = o := by simp; omega
    rw [ht]
    by_cases h2 : k < o + nc.length
    · rw [if_pos ⟨by omega, h2⟩, List.getElem?_append_left (by omega)]
    · rw [if_neg (by omega), List.getElem?_append_right (by omega), List.getElem?_drop]
      congr 1
      omega
theorem u53 {o : Nat} {nc cs : List PV} (h : o + nc.length ≤ cs.length) : (fillAt o nc cs).length = cs.length := by
  unfold fillAt
  simp
  omega
theorem u5i {o : Nat} {nv : List Value} {vs : Array Value} (h : o + nv.length ≤ vs.size) (k : Nat) :
    ((vs.toList.take o ++ nv ++ vs.toList.drop (o + nv.length)).toArray)[k]? = if o ≤ k ∧ k < o + nv.length then nv[k - o]? else vs[k]? := by
  rw [List.getElem?_toArray, List.append_assoc]
  by_cases h1 : k < o
  · rw [List.getElem?_append_left (by simp; omega), List.getElem?_take, if_pos h1, if_neg (by omega)]
    simp
  · rw [List.getElem?_append_right (by simp; omega)]
    have ht : (vs.toList.take o).length = o := by simp; omega
    rw [ht]
    by_cases h2 : k < o + nv.length
    · rw [if_pos ⟨by omega, h2⟩, List.getElem?_append_left (by omega)]
    · rw [if_neg (by omega), List.getElem?_append_right (by omega), List.getElem?_drop]
      simp
      congr 1
      omega
theorem umw {id b o : Nat} {cs nc : List PV} {nv : List Value} {vs : Array Value} {T : TypeId} {f : Owner → Owner} (hi : Inv g H w) (hy : H[id]? = some (.cells cs)) (hb : g.ι[id]? = some b)
    (h1 : g.ow b = none) (h2 : ∀ k, g.im b k = none) (h3 : w.heap[b]? = some (.cells vs T (0, 0))) (h4 : vs.size = cs.length)
    (h5 : ∀ (k : Nat) (c : PV) (v : Value), cs[k]? = some c → vs[k]? = some v → RepS g (.cell id k) c v ∧ isCell c = true ∧ c.low (id + 1) = true)
    (hf : ∀ i k, f (.cell i k) = .cell i k) (hup : ∀ M, f (.up M) = .up M) (hl : nc.length = nv.length) (hfit : o + nc.length ≤ cs.length)
    (hn : ∀ (j : Nat) (c : PV) (v : Value), nc[j]? = some c → nv[j]? = some v → RepS (g.ren f) (.cell id (o + j)) c v ∧ isCell c = true ∧ c.low (id + 1) = true) :
    Inv (g.ren f) (H.set id (.cells (fillAt o nc cs))) (w.setRow b (vs.toList.take o ++ nv ++ vs.toList.drop (o + nv.length)).toArray) ∧
    Glob g w (g.ren f) (w.setRow b (vs.toList.take o ++ nv ++ vs.toList.drop (o + nv.length)).toArray) := by
  have hid : id < H.length := (List.getElem?_eq_some_iff.mp hy).1
  have hbm : b ∈ g.ι := List.mem_of_getElem? hb
  have hoth : ∀ {k : Nat}, k ≠ b → (w.setRow b (vs.toList.take o ++ nv ++ vs.toList.drop (o + nv.length)).toArray).heap[k]? = w.heap[k]? := fun hk => setRow_other w b _ _ hk
  have hsz : (w.setRow b (vs.toList.take o ++ nv ++ vs.toList.drop (o + nv.length)).toArray).heap.size = w.heap.size := by simp [World.setRow]
  refine ⟨⟨by simp [G.ren, hi.len], hi.nd, fun b' k v hv => ?_, fun b' M s hb' => ?_, fun id' b' y' hb' hy' => ?_, hi.gl⟩, ⟨rfl, rfl, rfl, by rw [hsz]; omega, fun b' hb' e1 e2 => ⟨ren_none.mpr e1, e2, hoth (fun e => e2 (e ▸ hbm))⟩, (u36 (w := w) hup).up⟩⟩
  · have hv : g.im b' k = some v := hv
    have hne : b' ≠ b := fun e => by subst e; have := h2 k; rw [this] at hv; cases hv
    have := hi.im b' k v hv
    simp only [World.cell?] at this ⊢
    rw [hoth hne]
    exact this
  · simp only [G.ren, Option.map_eq_some_iff] at hb'
    obtain ⟨⟨M', s'⟩, e1, e2⟩ := hb'
    simp only [Prod.mk.injEq] at e2
    obtain ⟨_, rfl⟩ := e2
    have hne : b' ≠ b := fun e => by subst e; rw [h1] at e1; cases e1
    rw [hoth hne]
    exact hi.ow b' M' s' e1
  · by_cases e : id = id'
    · subst e
      rw [List.getElem?_set_self hid] at hy'
      simp only [Option.some.injEq] at hy'
      subst hy'
      obtain rfl : b = b' := by
        have : g.ι[id]? = some b' := hb'
        rw [hb] at this
        exact Option.some.inj this
      refine ⟨ren_none.mpr h1, h2, _, T, setRow_heap w b vs _ T _ h3, by rw [u53 hfit]; simp; omega, fun k c v hc hv => ?_⟩
      rw [u4h hfit] at hc
      rw [u5i (by omega)] at hv
      rw [← hl] at hv
      split at hc
      · rename_i hk
        rw [if_pos hk] at hv
        have := hn (k - o) c v hc hv
        rwa [show o + (k - o) = k by omega] at this
      · rename_i hk
        rw [if_neg hk] at hv
        obtain ⟨a, r⟩ := h5 k c v hc hv
        exact ⟨a.ren (hf _ _), r⟩
    · rw [List.getElem?_set_ne e] at hy'
      have hne : b' ≠ b := fun e' => by
        subst e'
        exact e (hi.nd id id' b' hb hb')
      exact ((hi.box id' b' y' hb' hy').ren (f := f) (hf id')).mono (Grow.refl _ _) (fun h => h) (fun h => h) (hoth hne) (by rw [hsz]; omega)
theorem st_run {t : TypeId} {b o : Nat} {vs : Array Value} {T : TypeId} {v : Value} (hk : known P t = true) (h3 : w.heap[b]? = some (.cells vs T (0, 0))) (hs : v.cells.size = tsize P t) (hfit : o + v.cells.size ≤ vs.size) (h1 : ∀ u ∈ v.cells.toList, u.oneCell' = true) :
    (Instr.storeAt t (.pointer (some ⟨b, o, none⟩)) v).run P w = .ok () (w.setRow b (vs.toList.take o ++ v.cells.toList ++ vs.toList.drop (o + v.cells.toList.length)).toArray) := by
  obtain ⟨d, hd⟩ := u3u hk
  obtain ⟨i, hi⟩ := u0r hd
  have hst := run_storeCells_at P b o T v.cells.toList 0 vs w h3 (by simpa using hfit) h1
  simp only [Nat.add_zero] at hst
  simp [Instr.storeAt, Instr.sureAddr, storeVar, u0w (w := w) hi, hs, hst]
theorem u4v {cs : List PV} (h : cs.all isCell = true) {j : Nat} {c : PV} (hj : cs[j]? = some c) : isCell c = true := List.all_eq_true.mp h c (List.mem_of_getElem? hj)
theorem ucj {p : PV} {v : Value} {s : Nat} (h : RepT g (.tmp s) p v) (hc : p.cells.all isCell = true) (id o : Nat) (hn : ∀ cs, p ≠ .agg cs) : RepS (g.ren (mvTC s id o)) (.cell id o) p v := by
  cases h with
  | one h =>
    refine h.ren ?_
    show (if s = s then _ else _) = _
    rw [if_pos rfl]
  | tup => simp [PV.cells, isCell] at hc
  | aggo => simp [PV.cells, isCell] at hc
theorem TOk.moveCell {tm : Array Value} (h : TOk x g env tm) (s id o : Nat) : TOk x (g.ren (mvTC s id o)) (env.set s (strip (env.getD s .undef))) tm := by
  have hl := h.len
  refine ⟨h.one, by simp [h.len], fun t u q hu hq => ?_, fun t q ht hq => ?_⟩
  · by_cases e : s = t
    · subst e
      have h2 : s < env.length := by
        have := (List.getElem?_eq_some_iff.mp hq).1
        simpa using this
      rw [List.getElem?_set_self h2] at hq
      simp only [Option.some.injEq] at hq
      subst hq
      have : env.getD s .undef = env[s] := by simp [List.getD, List.getElem?_eq_getElem h2]
      rw [this]
      exact (h.val s u _ hu (List.getElem?_eq_getElem h2)).stripRen _ _
    · rw [List.getElem?_set_ne e] at hq
      refine (h.val t u q hu hq).ren ?_ (fun j => rfl)
      show (if t = s then _ else _) = _
      rw [if_neg (fun h => e h.symm)]
  · have h3 := h.giveUp (some (s, none))
    exact h3.slot t q ht hq
def mvBC (s id : Nat) : Owner → Owner
  | .sub (.tmp t) j => if t = s then .cell id j else .sub (.tmp t) j
  | M => M
theorem TOk.moveBox {tm : Array Value} (h : TOk x g env tm) (s id : Nat) (hn : ∀ ps, env.getD s .undef ≠ .tup ps) : TOk x (g.ren (mvBC s id)) (env.set s (strip (env.getD s .undef))) tm := by
  have hl := h.len
  refine ⟨h.one, by simp [h.len], fun t u q hu hq => ?_, fun t q ht hq => ?_⟩
  · by_cases e : s = t
    · subst e
      have h2 : s < env.length := by
        have := (List.getElem?_eq_some_iff.mp hq).1
        simpa using this
      rw [List.getElem?_set_self h2] at hq
      simp only [Option.some.injEq] at hq
      subst hq
      have : env.getD s .undef = env[s] := by simp [List.getD, List.getElem?_eq_getElem h2]
      rw [this]
      exact (h.val s u _ hu (List.getElem?_eq_getElem h2)).stripRen _ _
    · rw [List.getElem?_set_ne e] at hq
      refine (h.val t u q hu hq).ren rfl (fun j => ?_)
      show (if t = s then _ else _) = _
      rw [if_neg (fun h => e h.symm)]
  · have h3 := h.giveUp (some (s, none))
    exact h3.slot t q ht hq
theorem RepT.aggoI {ps : List PV} {v : Value} (h : RepT g L (.aggo ps) v) : ∃ vs : Array Value, v = .agg vs ∧ vs.size = ps.length ∧ (∀ (j : Nat) (c : PV), ps[j]? = some c → isCell c = true) ∧ ∀ (j : Nat) (p : PV) (u : Value), ps[j]? = some p → vs[j]? = some u → RepS g (.sub L j) p u := by
  cases h with
  | one h => cases h with
    | pure h => cases h with
      | flat h => cases h
  | aggo a b c => exact ⟨_, rfl, a, b, c⟩
theorem bxO_ok {t : TypeId} {s : Nat} {a : Act} {out : Out PV} (d : Option Tmp) (h : bxO (tsize P t) (env.getD s .undef) H = some out) (hi : Inv g H w) (ht : TOk x g env a.tmps) : ValOk P x g w (giveUp env (some (s, none))) a.tmps d (Instr.box t (a.eval (.tmp s))) out := by
  have rX := ev_rep hi ht (.tmp s)
  have rX : RepT g (.tmp s) (env.getD s .undef) (a.eval (.tmp s)) := rX
  generalize hp : env.getD s .undef = p at h rX
  cases p with
  | aggo cs =>
    obtain ⟨vs, hv, h1, h2, h3⟩ := rX.aggoI
    rw [hv]
    unfold bxO at h
    dsimp only at h
    cases hc : (cs.length == tsize P t && (lowL (H.length + 1) cs && cs.all isCell)) with
    | false => rw [hc] at h; simp at h
    | true =>
      rw [hc] at h
      simp only [cond_true, Option.some.injEq] at h
      subst h
      simp only [Bool.and_eq_true, beq_iff_eq] at hc
      obtain ⟨_, hl, hce⟩ := hc
      have hi2 : Inv (g.ren (mvBC s H.length)) H w := hi.ren (fun _ _ => rfl)
      have hpu := Pushed.alloc w (.cells vs t)
      have r1 := hi2.pushBox (y := .cells cs) hpu ⟨hi2.ow_new, hi2.im_new, vs, t, hpu.new, h1, fun o c v hc hv => by
        refine ⟨((h3 o c v hc hv).ren (f := mvBC s H.length) (L' := .cell H.length o) ?_).mono (u4c _ (fun _ => True)) trivial, h2 o c hc, u2x hl o c hc⟩
        show (if s = s then _ else _) = _
        rw [if_pos rfl]⟩
      refine ⟨.pointer (some ⟨w.heap.size, 0, none⟩), _, _, ?_, (u36 (w := w) (fun M => rfl)).trans (Glob.pushBox hi2 hpu), r1, ((ht.moveBox s H.length (by rw [hp]; intro ps e; cases e)).mono (u4c _ _) (fun L h => h)), fun t' _ => rT (.ptr ?_) _⟩
      · simp [Instr.box, newVar, newRow, Value.cells]
      · show (g.ι ++ [w.heap.size])[H.length]? = _
        rw [← hi.len]
        simp
  | _ =>
    exact bx_ok (env := giveUp env (some (s, none))) d h hi (ht.giveUp _) rX
def UnitOk (P : Program) (x : Nat) (g : G) (w : World) (env' : Env) (tm : Array Value) (s : Sem Unit) : Out PV → Prop
  | .ok v H' => ∃ w' g', v = .undef ∧ s.run P w = .ok () w' ∧ Glob g w g' w' ∧ Inv g' H' w' ∧ TOk x g' env' tm
  | .pan _ _ => False
def isTmpO : Operand → Bool
  | .tmp _ => true
  | _ => false
def srcO : Operand → Option (Tmp × Option Nat)
  | .tmp s => some (s, none)
  | _ => none
theorem st_ok {t : TypeId} {a : Act} {A X : Operand} {out : Out PV} (hk : known P t = true) (h : st (tsize P t) (isTmpO X) (ev env A) (ev env X) H = some out) (hi : Inv g H w) (ht : TOk x g env a.tmps) :
    UnitOk P x g w (giveUp env (srcO X)) a.tmps (Instr.storeAt t (a.eval A) (a.eval X)) out := by
  have rA := ev_rep hi ht A
  have rX := ev_rep hi ht X
  unfold st at h
  generalize hpa : ev env A = pa at h rA
  cases pa with
  | ptr id o =>
    dsimp only at h
    obtain ⟨b, hb, hva⟩ := rA.ptr
    rw [hva]
    cases hy : H[id]? with
    | none => simp only [hy] at h; simp at h
    | some y =>
      simp only [hy] at h
      cases y with
      | cells cs =>
        simp only at h
        obtain ⟨b', hb', hbox⟩ := hi.boxAt hy
        obtain rfl : b = b' := by rw [hb] at hb'; exact Option.some.inj hb'
        obtain ⟨h1, h2, vs, T, h3, h4, h5⟩ := hbox
        cases hc : ((ev env X).cells.length == tsize P t && (decide (o + tsize P t ≤ cs.length) && (lowL (id + 1) (ev env X).cells && (ev env X).cells.all isCell))) with
        | false => rw [hc] at h; simp at h
        | true =>
          rw [hc] at h
          simp only [cond_true, Option.some.injEq] at h
          subst h
          simp only [Bool.and_eq_true, beq_iff_eq, decide_eq_true_eq] at hc
          obtain ⟨hs, hfit, hlow, hcell⟩ := hc
          obtain ⟨c1, c2⟩ := u59 rX hcell
          have hone : ∀ u ∈ (a.eval X).cells.toList, u.oneCell' = true := by
            intro u hu
            obtain ⟨j, hj, rfl⟩ := List.getElem_of_mem hu
            have hj2 : j < (ev env X).cells.length := by simp at hj; omega
            exact u5q (c2 j _ _ (List.getElem?_eq_getElem hj2) (by simp at hj ⊢)) (u4v hcell (List.getElem?_eq_getElem hj2))
          have hrun := st_run (P := P) (w := w) (o := o) (v := a.eval X) hk h3 (by omega) (by omega) hone
          -- what is laid down
          have finish : ∀ (f : Owner → Owner) (nc : List PV), (∀ i k, f (.cell i k) = .cell i k) → (∀ M, f (.up M) = .up M) → nc.length = (ev env X).cells.length → TOk x (g.ren f) (giveUp env (srcO X)) a.tmps →
              (∀ (j : Nat) (c : PV) (v : Value), nc[j]? = some c → (a.eval X).cells.toList[j]? = some v → RepS (g.ren f) (.cell id (o + j)) c v ∧ isCell c = true ∧ c.low (id + 1) = true) →
              UnitOk P x g w (giveUp env (srcO X)) a.tmps (Instr.storeAt t (.pointer (some ⟨b, o, none⟩)) (a.eval X)) (.ok .undef (H.set id (.cells (fillAt o nc cs)))) := by
            intro f nc f1 f2 hnl htk hn
            obtain ⟨r1, r2⟩ := umw (nc := nc) (nv := (a.eval X).cells.toList) hi hy hb h1 h2 h3 h4 h5 f1 f2 (by simp; omega) (by omega) hn
            exact ⟨_, _, rfl, hrun, r2, r1, htk⟩
          cases X with
          | tmp s =>
            simp only [isTmpO, cond_true]
            refine finish (mvTC s id o) _ (fun _ _ => rfl) (fun _ => rfl) rfl (ht.moveCell s id o) (fun j c v hj hv => ?_)
            refine ⟨?_, u4v hcell hj, u2x hlow j c hj⟩
            by_cases hag : ∃ l, ev env (.tmp s) = .agg l
            · obtain ⟨l, hl⟩ := hag
              have := c2 j c v hj (by simpa using hv)
              rw [hl] at rX
              obtain ⟨us, e1, _, _, e4⟩ := rX.agg
              rw [e1] at hv
              rw [hl] at hj
              exact .pure (e4 j c v hj (by simpa [Value.cells] using hv))
            · have hsc := ucj (s := s) rX hcell id o (fun l e => hag ⟨l, e⟩)
              have e1 : (ev env (.tmp s)).cells = [ev env (.tmp s)] := by
                generalize ev env (.tmp s) = q at hag
                cases q <;> first | rfl | exact absurd ⟨_, rfl⟩ hag
              have hv1 := u5q hsc (by rw [e1] at hcell; simpa using hcell)
              have e2 : (a.eval (.tmp s)).cells = #[a.eval (.tmp s)] := by
                generalize a.eval (.tmp s) = v at hv1
                cases v <;> first | rfl | simp [Value.oneCell'] at hv1
              rw [e1] at hj
              rw [e2] at hv
              have hj0 : j = 0 := by
                have := (List.getElem?_eq_some_iff.mp hj).1
                simp at this
                omega
              subst hj0
              simp at hj hv
              subst hj; subst hv
              exact hsc
          | const cv =>
            simp only [isTmpO, cond_false]
            refine finish (fun M => M) _ (fun _ _ => rfl) (fun _ => rfl) (by simp) (u8a (fun _ => rfl) (fun _ _ => rfl) ht) (fun j c v hj hv => ?_)
            obtain ⟨q1, q2⟩ := u4r (vs := (a.eval (.const cv)).cells) c2 hcell j c v hj (by simpa using hv)
            refine ⟨.pure q1, q2, ?_⟩
            simp only [List.getElem?_map, Option.map_eq_some_iff] at hj
            obtain ⟨q, hq, rfl⟩ := hj
            rw [u5t]
            exact u2x hlow j q hq
          | global cv =>
            simp only [isTmpO, cond_false]
            refine finish (fun M => M) _ (fun _ _ => rfl) (fun _ => rfl) (by simp) (u8a (fun _ => rfl) (fun _ _ => rfl) ht) (fun j c v hj hv => ?_)
            obtain ⟨q1, q2⟩ := u4r (vs := (a.eval (.global cv)).cells) c2 hcell j c v hj (by simpa using hv)
            refine ⟨.pure q1, q2, ?_⟩
            simp only [List.getElem?_map, Option.map_eq_some_iff] at hj
            obtain ⟨q, hq, rfl⟩ := hj
            rw [u5t]
            exact u2x hlow j q hq
          | func cv =>
            simp only [isTmpO, cond_false]
            refine finish (fun M => M) _ (fun _ _ => rfl) (fun _ => rfl) (by simp) (u8a (fun _ => rfl) (fun _ _ => rfl) ht) (fun j c v hj hv => ?_)
            obtain ⟨q1, q2⟩ := u4r (vs := (a.eval (.func cv)).cells) c2 hcell j c v hj (by simpa using hv)
            refine ⟨.pure q1, q2, ?_⟩
            simp only [List.getElem?_map, Option.map_eq_some_iff] at hj
            obtain ⟨q, hq, rfl⟩ := hj
            rw [u5t]
            exact u2x hlow j q hq
      | iter s pos => simp at h
      | dead => simp at h
  | _ => exact nomatch h
end Go.Proofs.YtiiepllnnjjmaaaDoor.Pi
namespace Go.Proofs.YtiiepllnnjjmaaaDoor.Pi
variable {P : Program} {g : G} {L L' : Owner} {w w' : World} {H : Heap} {x : Nat} {env : Env}
def G.fresh (g : G) (b n : Nat) (cells : Array Value) (used : Nat) (L : Owner) : G :=
  { g with im := fun b' o => if b' = b then (if o < used then cells[o]? else none) else g.im b' o, ow := fun b' => if b' = b then some (L, n) else g.ow b' }
theorem u8b {cells : Array Value} {T : TypeId} {xs : List PV} {sz cap : Nat} (L : Owner) (hi : Inv g H w) (hp : Pushed w w' (.cells cells T (0, 0))) (hsz : ∀ (i : Nat) (y : PV), xs[i]? = some y → y.cells.length = sz)
    (hc : xs.length ≤ cap) (hcs : cap * sz ≤ cells.size)
    (hr : ∀ (i : Nat) (y : PV) (j : Nat) (c : PV), xs[i]? = some y → y.cells[j]? = some c → ∃ v, cells[i * sz + j]? = some v ∧ RepF g.im c v) :
    Inv (g.fresh w.heap.size cells.size cells (xs.length * sz) L) H w' ∧ Glob g w (g.fresh w.heap.size cells.size cells (xs.length * sz) L) w' ∧ Grow (fun _ => True) g (g.fresh w.heap.size cells.size cells (xs.length * sz) L) ∧
    RepS (g.fresh w.heap.size cells.size cells (xs.length * sz) L) L (.slice true false sz xs) (.slice (some ⟨w.heap.size, 0, none⟩) xs.length cap) ∧
    RepF (g.fresh w.heap.size cells.size cells (xs.length * sz) L).im (.slice false false sz xs) (.slice (some ⟨w.heap.size, 0, none⟩) xs.length cap) := by
  have him : ∀ b o v, g.im b o = some v → (g.fresh w.heap.size cells.size cells (xs.length * sz) L).im b o = some v := by
    intro b o v hv
    have := hi.lt_im hv
    show (if b = w.heap.size then _ else _) = _
    rw [if_neg (by omega)]
    exact hv
  have hne : ∀ b, b ≠ w.heap.size → (g.fresh w.heap.size cells.size cells (xs.length * sz) L).im b = g.im b ∧ (g.fresh w.heap.size cells.size cells (xs.length * sz) L).ow b = g.ow b := by
    intro b hb
    constructor
    · funext o
      show (if b = w.heap.size then _ else _) = _
      rw [if_neg hb]
    · show (if b = w.heap.size then _ else _) = _
      rw [if_neg hb]
  have hgrow : Grow (fun _ => True) g (g.fresh w.heap.size cells.size cells (xs.length * sz) L) := ⟨fun _ _ h => h, him, fun b M s _ hb => by
    have := hi.lt_ow hb
    obtain ⟨e1, e2⟩ := hne b (by omega)
    exact ⟨by rw [e2]; exact hb, fun o ho => by rw [e1]; exact ho⟩⟩
  have hlt : ∀ (i : Nat) (y : PV) (j : Nat) (c : PV), xs[i]? = some y → y.cells[j]? = some c → i * sz + j < xs.length * sz := by
    intro i y j c hy hcj
    have h1 : i < xs.length := (List.getElem?_eq_some_iff.mp hy).1
    have h2 : j < sz := by rw [← hsz i y hy]; exact (List.getElem?_eq_some_iff.mp hcj).1
    calc i * sz + j < i * sz + sz := by omega
      _ = (i + 1) * sz := by rw [Nat.add_mul, Nat.one_mul]
      _ ≤ xs.length * sz := Nat.mul_le_mul_right _ h1
  have hget : ∀ (i : Nat) (y : PV) (j : Nat) (c : PV), xs[i]? = some y → y.cells[j]? = some c → (g.fresh w.heap.size cells.size cells (xs.length * sz) L).im w.heap.size (0 + i * sz + j) = some (cells.getD (i * sz + j) undef) := by
    intro i y j c hy hcj
    obtain ⟨v, hv, _⟩ := hr i y j c hy hcj
    show (if w.heap.size = w.heap.size then (if 0 + i * sz + j < xs.length * sz then cells[0 + i * sz + j]? else none) else _) = _
    rw [if_pos rfl, Nat.zero_add, if_pos (hlt i y j c hy hcj), hv]
    simp [Array.getD_eq_getD_getElem?, hv]
  have hrep : ∀ (i : Nat) (y : PV) (j : Nat) (c : PV), xs[i]? = some y → y.cells[j]? = some c → RepF (g.fresh w.heap.size cells.size cells (xs.length * sz) L).im c (cells.getD (i * sz + j) undef) := by
    intro i y j c hy hcj
    obtain ⟨v, hv, hr'⟩ := hr i y j c hy hcj
    have : cells.getD (i * sz + j) undef = v := by simp [Array.getD_eq_getD_getElem?, hv]
    rw [this]
    exact hr'.mono him
  refine ⟨⟨hi.len, hi.nd, fun b o v hv => ?_, fun b M s hb => ?_, fun id b y hb hy => ?_, hi.gl.mono hgrow.im⟩, ⟨hp.os, hp.tape, hp.output, by rw [hp.size]; omega, fun b hb h1 h2 => ?_, hgrow.sub (fun _ _ => trivial)⟩, hgrow,
    .own (fun i j => cells.getD (i * sz + j) undef) hc hsz hget hrep (by show (if w.heap.size = w.heap.size then _ else _) = _; rw [if_pos rfl]) (by simpa using hcs) (fun off ho => ?_),
    .slice (fun i j => cells.getD (i * sz + j) undef) (.inl rfl) hc hsz hget hrep⟩
  · by_cases e : b = w.heap.size
    · subst e
      have hv2 : (if o < xs.length * sz then cells[o]? else none) = some v := by
        have : (if w.heap.size = w.heap.size then (if o < xs.length * sz then cells[o]? else none) else g.im w.heap.size o) = some v := hv
        rwa [if_pos rfl] at this
      split at hv2
      · rw [u6u hp.new]
        exact hv2
      · cases hv2
    · rw [(hne b e).1] at hv
      rw [hp.cell (hi.lt_im hv)]
      exact hi.im b o v hv
  · by_cases e : b = w.heap.size
    · subst e
      have hb2 : some (L, cells.size) = some (M, s) := by
        have : (if w.heap.size = w.heap.size then some (L, cells.size) else g.ow w.heap.size) = some (M, s) := hb
        rwa [if_pos rfl] at this
      simp only [Option.some.injEq, Prod.mk.injEq] at hb2
      exact ⟨cells, T, hp.new, hb2.2⟩
    · rw [(hne b e).2] at hb
      rw [hp.old (hi.lt_ow hb)]
      exact hi.ow b M s hb
  · have hlt := hi.lt_ι hb
    obtain ⟨e1, e2⟩ := hne b (by omega)
    exact (hi.box id b y hb hy).mono (hgrow.sub (fun _ _ => trivial)) (fun h => by rw [e2]; exact h) (fun h o => by rw [e1]; exact h o) (hp.old hlt) (by rw [hp.size]; omega)
  · obtain ⟨e1, e2⟩ := hne b (by omega)
    exact ⟨by rw [e2]; exact h1, h2, hp.old hb⟩
  · show (if w.heap.size = w.heap.size then (if off < xs.length * sz then cells[off]? else none) else _) = _
    rw [if_pos rfl, if_neg (by omega)]
theorem Pushed.drew (w : World) (o : Obj) : Pushed w (w.drew.alloc o) o := ⟨rfl, rfl, rfl, rfl⟩
theorem uen {a : Option Nat} {p : PV} (h : u1i a p = true) : p.cells.length = a.getD 1 ∧ isCell p = true ∨ ∃ cs, p = .agg cs ∧ cs.length = a.getD 1 := by
  unfold u1i at h
  simp only [Bool.and_eq_true] at h
  obtain ⟨h1, h2⟩ := h
  cases a with
  | none =>
    cases p <;> simp at h2 <;> first | (simp [PV.flat] at h1; done) | exact .inl ⟨rfl, rfl⟩
  | some n =>
    cases p <;> simp at h2
    exact .inr ⟨_, rfl, by simpa using h2⟩
mutual
theorem ui2 : ∀ (p : PV) {v : Value}, p.flat = true → Rep g.ι g.im p v → isCell p = true → RepF g.im p v
  | .int .., _, _, h, _ => by cases h with | flat h => exact h
  | .bool _, _, _, h, _ => by cases h with | flat h => exact h
  | .str _, _, _, h, _ => by cases h with | flat h => exact h
  | .slice .., _, _, h, _ => by cases h with | flat h => exact h
  | .nil, _, _, h, _ => by cases h with | flat h => exact h
  | .nilfn, _, _, h, _ => by cases h with | flat h => exact h
  | .niliface, _, _, h, _ => by cases h with | flat h => exact h
  | .agg _, _, _, _, h => by simp [isCell] at h
  | .ptr .., _, h, _, _ => by simp [PV.flat] at h
  | .elem _, _, h, _, _ => by simp [PV.flat] at h
  | .fn .., _, h, _, _ => by simp [PV.flat] at h
  | .iface .., _, h, _, _ => by simp [PV.flat] at h
  | .tup _, _, h, _, _ => by simp [PV.flat] at h
  | .undef, _, h, _, _ => by simp [PV.flat] at h
end
theorem uf2 : ∀ {l : List PV}, flatL l = true → ∀ (j : Nat) (c : PV), l[j]? = some c → c.flat = true
  | [], _, j, c, h => by simp at h
  | v :: r, h, j, c, hc => by
    simp only [flatL, Bool.and_eq_true] at h
    cases j with
    | zero => simp at hc; subst hc; exact h.1
    | succ j => exact uf2 h.2 j c (by simpa using hc)
theorem u8j {a : Option Nat} {p : PV} {v : Value} (h : u1i a (stripC p) = true) (hp : RepT g L p v) : v.cells.size = a.getD 1 ∧ (stripC p).cells.length = a.getD 1 ∧ (∀ u ∈ v.cells.toList, u.oneCell' = true) ∧
    ∀ (j : Nat) (c : PV) (u : Value), (stripC p).cells[j]? = some c → v.cells[j]? = some u → RepF g.im c u := by
  have hflat : (stripC p).flat = true := by
    unfold u1i at h
    simp only [Bool.and_eq_true] at h
    exact h.1
  rcases uen h with ⟨h1, h2⟩ | ⟨cs, h1, h2⟩
  · have hc : isCell p = true := by rwa [u3a] at h2
    cases hp with
    | one hp =>
      have hone := u5q hp hc
      have e : v.cells = #[v] := by cases v <;> first | rfl | simp [Value.oneCell'] at hone
      have hl : (stripC p).cells = [stripC p] := by
        generalize stripC p = q at h2
        cases q <;> first | rfl | simp [isCell] at h2
      have hrep := hp.toRep (by cases p <;> first | rfl | simp [isCell] at hc)
      have hF := ui2 _ hflat hrep h2
      rw [hl] at h1 ⊢
      simp at h1
      rw [e]
      refine ⟨by simpa using h1, by simpa using h1, fun u hu => by simp at hu; subst hu; exact hone, fun j c u hj hu => ?_⟩
      have hj0 : j = 0 := by
        have := (List.getElem?_eq_some_iff.mp hj).1
        simp at this
        omega
      subst hj0
      simp at hj hu
      subst hj; subst hu
      exact hF
    | tup => simp [isCell] at hc
    | aggo => simp [isCell] at hc
  · have hpa : p = .agg cs := by cases p <;> simp [stripC] at h1; rw [h1]
    subst hpa
    obtain ⟨vs, rfl, e1, e2, e3⟩ := hp.agg
    have hfl : flatL cs = true := by simpa [stripC, PV.flat] using hflat
    refine ⟨by simpa [Value.cells] using e1.trans h2, h2, fun u hu => ?_, fun j c u hj hu => ui2 _ (uf2 hfl j c hj) (e3 j c u hj hu) (e2 j c hj)⟩
    obtain ⟨j, hj, rfl⟩ := List.getElem_of_mem hu
    have hj2 : j < cs.length := by simp [Value.cells] at hj; omega
    have hj3 : j < vs.size := by omega
    have hk := e3 j cs[j] vs[j] (List.getElem?_eq_getElem hj2) (by simp [hj3])
    have := u5q (L := .res) (.pure hk) (e2 j _ (List.getElem?_eq_getElem hj2))
    simpa [Value.cells] using this
end Go.Proofs.YtiiepllnnjjmaaaDoor.Pi
namespace Go.Proofs.YtiiepllnnjjmaaaDoor.Pi
variable {P : Program} {g : G} {L L' : Owner} {w w' : World} {H : Heap} {x : Nat} {env : Env}
theorem uj3 {s : Nat} {vs : List Value} (hs : 0 < s) (hv : ∀ v ∈ vs, v.cells.size = s) {i j : Nat} (hj : j < s) : (vs.flatMap fun v => v.cells.toList)[i * s + j]? = (vs[i]?).bind (fun v => v.cells[j]?) := by
  rw [Great.flat_get hs vs hv]
  have h1 : (i * s + j) / s = i := by
    rw [Nat.mul_comm, Nat.mul_add_div hs, Nat.div_eq_of_lt hj, Nat.add_zero]
  have h2 : (i * s + j) % s = j := by
    rw [Nat.mul_comm, Nat.mul_add_mod, Nat.mod_eq_of_lt hj]
  rw [h1, h2]
theorem uhr {s : Nat} : ∀ (vs : List Value), (∀ v ∈ vs, v.cells.size = s) → (vs.flatMap fun v => v.cells.toList).length = vs.length * s
  | [], _ => by simp
  | v :: r, h => by
    rw [List.flatMap_cons, List.length_append, uhr r (fun u hu => h u (List.mem_cons_of_mem _ hu)), List.length_cons, Nat.add_mul]
    have := h v List.mem_cons_self
    simp [this]
    omega
theorem bs_ok {t e : TypeId} {n : Nat} {ps : Array (Nat × Operand)} {a : Act} {out : Out PV} {own : Bool} (d : Option Tmp) (hd : ∀ t, d = some t → own = true) (hu : P.underlying t = some (.slice e)) (hk : known P e = true) (hpos : 0 < tsize P e) (hroom : n * tsize P e ≤ 16777216)
    (hag : (tagg P e).getD 1 = tsize P e) (hz : ∃ i z, P.info? e = some i ∧ i.zero = some z ∧ z.cells.size = tsize P e)
    (hps : ps.toList.map (·.1) = List.range n) (h : bs own (tagg P e) (ps.toList.map fun p => ev env p.2) H = some out) (hi : Inv g H w) (ht : TOk x g env a.tmps) :
    ValOk P x g w env a.tmps d (Instr.buildSlice t n (ps.map fun (i, y) => (i, a.eval y))) out := by
  obtain ⟨i, z, hinf, hzero, hzs⟩ := hz
  unfold bs at h
  cases hc : ((ps.toList.map fun p => ev env p.2).map stripC).all (u1i (tagg P e)) with
  | false => rw [hc] at h; simp [M.fail] at h
  | true =>
    rw [hc] at h
    simp only [cond_true, M.pure, Option.some.injEq] at h
    subst h
    have hall : ∀ (j : Nat) (p : PV), (ps.toList.map fun p => ev env p.2)[j]? = some p → u1i (tagg P e) (stripC p) = true := by
      intro j p hj
      have : stripC p ∈ (ps.toList.map fun p => ev env p.2).map stripC := List.mem_map.mpr ⟨p, List.mem_of_getElem? hj, rfl⟩
      exact List.all_eq_true.mp hc _ this
    have hrepj : ∀ (j : Nat) (q : Nat × Operand), ps.toList[j]? = some q → RepT g (whose q.2) (ev env q.2) (a.eval q.2) := fun j q _ => ev_rep hi ht q.2
    have hvs : ∀ v ∈ ps.toList.map (fun q => a.eval q.2), v.cells.size = tsize P e := by
      intro v hv
      obtain ⟨q, hq, rfl⟩ := List.mem_map.mp hv
      obtain ⟨j, hj, hje⟩ := List.getElem_of_mem hq
      have h1 := hall j (ev env q.2) (by rw [List.getElem?_map, List.getElem?_eq_getElem hj, hje]; rfl)
      rw [← hag]
      exact (u8j h1 (ev_rep hi ht q.2)).1
    have hlen : ps.toList.length = n := by
      have := congrArg List.length hps
      simpa using this
    have hparts : (ps.map fun (i, y) => (i, a.eval y)).toList = (((ps.toList.map (fun q => a.eval q.2)).zipIdx 0).map fun y => (y.2, y.1)) := by
      apply List.ext_getElem?
      intro j
      simp only [Array.toList_map, List.getElem?_map, List.getElem?_zipIdx]
      cases hj : ps.toList[j]? with
      | none => rfl
      | some q =>
        have hjl : j < ps.toList.length := (List.getElem?_eq_some_iff.mp hj).1
        have h1 : (ps.toList.map (·.1))[j]? = some q.1 := by simp only [List.getElem?_map, hj, Option.map_some]
        rw [hps] at h1
        have h2 : q.1 = j := by
          rw [List.getElem?_range (by omega)] at h1
          exact (Option.some.inj h1).symm
        simp [h2]
    have hfill := Great.fill_whole hpos (ps.toList.map (fun q => a.eval q.2)) ((Array.range (n * tsize P e)).map (z.cells[· % z.cells.size]!)) hvs (by simp; simpa using congrArg (· * tsize P e) hlen)
    have hrun : (Instr.buildSlice t n (ps.map fun (i, y) => (i, a.eval y))).run P w = .ok (.slice (some ⟨w.heap.size, 0, none⟩) n n) (w.alloc (.cells ((ps.toList.map (fun q => a.eval q.2)).flatMap fun v => v.cells.toList).toArray e)) := by
      have h2 : ¬ (16777216 < n * tsize P e) := by omega
      by_cases h0 : n * tsize P e = 0
      · have hn0 : n = 0 := by
          rcases Nat.mul_eq_zero.mp h0 with h | h <;> omega
        subst hn0
        have hpe : ps.toList = [] := List.eq_nil_of_length_eq_zero hlen
        have hpe2 : ps = #[] := by simpa using hpe
        subst hpe2
        simp [Instr.buildSlice, run_underlying hu, u0w (w := w) hinf, newRow, Instr.fill, Array.range_zero']
      · simp only [Instr.buildSlice, Sem.run_bind, run_underlying hu, Result.andThen_ok, u0w (w := w) hinf]
        rw [hparts]
        simp [h2, h0, zeroValue, typeInfo, hinf, hzero, hfill, newRow]
    have hp := Pushed.alloc w (.cells ((ps.toList.map (fun q => a.eval q.2)).flatMap fun v => v.cells.toList).toArray e)
    have hxl : ((ps.toList.map fun p => ev env p.2).map stripC).length = n := by simpa using hlen
    have helem : ∀ (i : Nat) (y : PV), ((ps.toList.map fun p => ev env p.2).map stripC)[i]? = some y → ∃ q, ps.toList[i]? = some q ∧ y = stripC (ev env q.2) := by
      intro i y hy
      simp only [List.getElem?_map, Option.map_eq_some_iff] at hy
      obtain ⟨p, ⟨q, hq, rfl⟩, rfl⟩ := hy
      exact ⟨q, hq, rfl⟩
    obtain ⟨r1, r2, r3, r4, r5⟩ := u8b (xs := (ps.toList.map fun p => ev env p.2).map stripC) (sz := (tagg P e).getD 1) (cap := n) (.tmp (d.getD 0)) hi hp (fun i y hy => by
        obtain ⟨q, hq, rfl⟩ := helem i y hy
        exact (u8j (hall i _ (by simp only [List.getElem?_map, hq, Option.map_some])) (ev_rep hi ht q.2)).2.1) (by omega) (by
        rw [List.size_toArray, uhr _ hvs, hag]
        simp only [List.length_map]
        rw [hlen]
        exact Nat.le_refl _) (fun i y j c hy hj => by
        obtain ⟨q, hq, rfl⟩ := helem i y hy
        obtain ⟨e1, e2, e3, e4⟩ := u8j (hall i _ (by simp only [List.getElem?_map, hq, Option.map_some])) (ev_rep hi ht q.2)
        have hjs : j < tsize P e := by rw [← hag, ← e2]; exact (List.getElem?_eq_some_iff.mp hj).1
        have hjc : j < (a.eval q.2).cells.size := by omega
        refine ⟨(a.eval q.2).cells[j], ?_, e4 j c _ hj (by simp [hjc])⟩
        rw [List.getElem?_toArray, hag, uj3 hpos hvs hjs]
        simp [hq, hjc])
    refine ⟨.slice (some ⟨w.heap.size, 0, none⟩) ((ps.toList.map fun p => ev env p.2).map stripC).length n, _, _, (by rw [hxl]; exact hrun), r2, r1, ht.mono r3 (fun _ _ => trivial), fun t' ht' => ?_⟩
    subst ht'
    have ho := hd t' rfl
    subst ho
    exact .one r4
end Go.Proofs.YtiiepllnnjjmaaaDoor.Pi
namespace Go.Proofs.YtiiepllnnjjmaaaDoor.Pi
variable {P : Program} {g : G} {L L' : Owner} {w w' : World} {H : Heap} {x : Nat} {env : Env}
theorem u6o {e : TypeId} (h : listOk P e = true) : known P e = true ∧ 0 < tsize P e ∧ (tagg P e).getD 1 = tsize P e ∧ ∃ i z, P.info? e = some i ∧ i.zero = some z ∧ z.cells.size = tsize P e ∧ i.size = tsize P e ∧ i.bytes = tbytes P e := by
  unfold listOk at h
  simp only [Bool.and_eq_true, decide_eq_true_eq, beq_iff_eq] at h
  obtain ⟨h1, h2, h3, h4⟩ := h
  refine ⟨h1, h2, h3, ?_⟩
  split at h4
  · rename_i i hi
    split at h4
    · rename_i z hz
      exact ⟨i, z, hi, hz, by simpa using h4, by simp [tsize, hi], by simp [tbytes, hi]⟩
    · simp at h4
  · simp at h4
structure Src (P : Program) (w : World) (size : Nat) (v : Value) (n : Nat) (news : List Value) : Prop where
  len : ∀ w', (Builtin.lenOf v).run P w' = .ok n w'
  cells : ∀ w', w'.heap = w.heap → (Builtin.firstCells size n v).run P w' = .ok news.toArray w'
  size : news.length = n * size
  one : ∀ u ∈ news, u.oneCell' = true
def u95 (P : Program) (u : TypeId) : Prop := ∃ d, P.underlying u = some d ∧ ∀ k, d ≠ .int k
section
variable {t u ty e : TypeId} {i : TypeInfo} {z : Value} {v : Value} {n : Nat} {news : List Value}
theorem ug3 (ht : P.underlying t = some (.slice e)) (hu : u95 P u) (hi : P.info? e = some i) (hs : Src P w i.size v n news) {b off sLen sCap : Nat} {cur : Array Value} {T : TypeId} (hg : w.heap[b]? = some (.cells cur T (0, 0)))
    (hroom : sLen + n ≤ sCap) (hfit : off + sLen * i.size + news.length ≤ cur.size) :
    (Builtin.append_ #[t, u] ty #[.slice (some ⟨b, off, none⟩) sLen sCap, v]).run P w = .ok (.slice (some ⟨b, off, none⟩) (sLen + n) sCap)
      (w.setRow b (cur.toList.take (off + sLen * i.size) ++ news ++ cur.toList.drop (off + sLen * i.size + news.length)).toArray) := by
  obtain ⟨d, hd, hnd⟩ := hu
  have hst := run_storeCells_at P b (off + sLen * i.size) T news 0 cur w hg (by simpa using hfit) hs.one
  simp only [Nat.add_zero] at hst
  have hadd : (⟨b, off, none⟩ : Addr).add (sLen * i.size) = ⟨b, off + sLen * i.size, none⟩ := by unfold Addr.add; split <;> simp_all
  have hz : (match d with | .int _ => true | _ => false) = false := by cases d <;> first | rfl | exact absurd rfl (hnd _)
  simp [Builtin.append_, run_underlying ht, run_underlying hd, sizeOf, typeInfo, hi, hz, hs.len, hroom, hs.cells w rfl, hadd, hst]
theorem ufj (ht : P.underlying t = some (.slice e)) (hu : u95 P u) (hi : P.info? e = some i) (hz : i.zero = some z) (hs : Src P w i.size v n news) {b off sLen sCap : Nat} {olds : List Value}
    (ho : Src P w i.size (.slice (some ⟨b, off, none⟩) sLen sCap) sLen olds)
    (hg : sCap < sLen + n) (h63 : ((sLen + n : Nat) : Int) ≤ 9223372036854775807) (hfit : Builtin.nextslicecap (sLen + n) sCap * i.bytes ≤ 281474976710656) :
    (Builtin.append_ #[t, u] ty #[.slice (some ⟨b, off, none⟩) sLen sCap, v]).run P w =
      .ok (.slice (some ⟨w.heap.size, 0, none⟩) (sLen + n) (grownCap w (sLen + n) sCap e))
        (w.drew.alloc (.cells (olds.toArray ++ news.toArray ++ Builtin.zeroCells z.cells (grownCap w (sLen + n) sCap e - (sLen + n))) e)) := by
  obtain ⟨d, hd, hnd⟩ := hu
  have hz' : (match d with | .int _ => true | _ => false) = false := by cases d <;> first | rfl | exact absurd rfl (hnd _)
  have hn : ¬ (sLen + n ≤ sCap) := by omega
  have h63' : ¬ (9223372036854775807 < ((sLen : Int) + (n : Int))) := by omega
  have h48' : ¬ (281474976710656 < Builtin.nextslicecap (sLen + n) sCap * i.bytes) := by omega
  have hf := hs.cells w.drew rfl
  have hfo := ho.cells w.drew rfl
  simp [Builtin.append_, run_underlying ht, run_underlying hd, sizeOf, typeInfo, zeroValue, hi, hz, hz', hs.len, hn, h63', h48', Question.forced, hf, hfo, newRow, grownCap]
  congr 2
  apply Array.ext'
  simp [List.append_assoc]
theorem uij (ht : P.underlying t = some (.slice e)) (hu : u95 P u) (hi : P.info? e = some i) (hz : i.zero = some z) (hs : Src P w i.size v n news)
    (h0 : 0 < n) (h63 : (n : Int) ≤ 9223372036854775807) (h48 : n * i.bytes ≤ 281474976710656) :
    (Builtin.append_ #[t, u] ty #[.slice none 0 0, v]).run P w =
      .ok (.slice (some ⟨w.heap.size, 0, none⟩) n (grownCap w n 0 e)) (w.drew.alloc (.cells (news.toArray ++ Builtin.zeroCells z.cells (grownCap w n 0 e - n)) e)) := by
  obtain ⟨d, hd, hnd⟩ := hu
  have hz' : (match d with | .int _ => true | _ => false) = false := by cases d <;> first | rfl | exact absurd rfl (hnd _)
  have hn : n ≠ 0 := by omega
  have h63' : ¬ (9223372036854775807 < (n : Int)) := by omega
  have h48' : ¬ (281474976710656 < Builtin.nextslicecap n 0 * i.bytes) := by rw [nextslicecap_zero h0]; omega
  have hf := hs.cells w.drew rfl
  simp [Builtin.append_, run_underlying ht, run_underlying hd, sizeOf, typeInfo, zeroValue, hi, hz, hz', hs.len, hn, h63', h48', Question.forced, run_firstCells_none, hf, newRow, grownCap]
theorem ufd (ht : P.underlying t = some (.slice e)) (hu : u95 P u) (hi : P.info? e = some i) (hs : Src P w i.size v 0 []) :
    (Builtin.append_ #[t, u] ty #[.slice none 0 0, v]).run P w = .ok (.slice none 0 0) w := by
  obtain ⟨d, hd, hnd⟩ := hu
  have hz' : (match d with | .int _ => true | _ => false) = false := by cases d <;> first | rfl | exact absurd rfl (hnd _)
  simp [Builtin.append_, run_underlying ht, run_underlying hd, sizeOf, typeInfo, hi, hz', hs.len, hs.cells w rfl]
end
theorem src_of {sz : Nat} {q : PV} {v : Value} {ys : List PV} (hpos : 0 < sz) (h : tail sz q = some ys) (hi : Inv g H w) (hq : RepT g L q v) :
    ∃ news, Src P w sz v ys.length news ∧ (∀ (i : Nat) (y : PV), ys[i]? = some y → y.cells.length = sz) ∧
      ∀ (i : Nat) (y : PV) (j : Nat) (c : PV), ys[i]? = some y → y.cells[j]? = some c → ∃ u, news[i * sz + j]? = some u ∧ RepF g.im c u := by
  cases q with
  | slice o z sy xs =>
    unfold tail at h
    dsimp only at h
    cases hc : (z || sy == sz) with
    | false => rw [hc] at h; simp at h
    | true =>
      rw [hc] at h
      simp only [cond_true, Option.some.injEq] at h
      subst h
      rcases hq.slice with ⟨rfl, rfl, rfl, rfl⟩ | ⟨rfl, b, off, cap, sp, vs, rfl, hsp, h1, h2, h3, h4, _⟩
      · exact ⟨[], ⟨fun w' => by simp [Builtin.lenOf], fun w' _ => by simp [Builtin.firstCells], by simp, by simp⟩, fun i y hy => by simp at hy, fun i y j c hy => by simp at hy⟩
      · have hsy : sy = sz := by simpa using hc
        subst hsy
        rcases hsp with rfl | rfl
        rotate_left
        · have hx0 : xs = [] := List.eq_nil_of_length_eq_zero (by omega)
          subst hx0
          refine ⟨[], ⟨fun w' => by simp [Builtin.lenOf], fun w' _ => ?_, by simp, by simp⟩, fun i y hy => by simp at hy, fun i y j c hy => by simp at hy⟩
          have := run_firstCells_some (P := P) w' sy 0 ⟨b, off, sp⟩ 0 0 [] (by simp) (fun k q hq => by simp at hq)
          simpa using this
        have hnl : ((List.range (xs.length * sy)).map fun k => vs (k / sy) (k % sy)).length = xs.length * sy := by simp
        have key : ∀ k, k < xs.length * sy → ∃ y c, xs[k / sy]? = some y ∧ y.cells[k % sy]? = some c := by
          intro k hk
          have h5 : k / sy < xs.length := (Nat.div_lt_iff_lt_mul hpos).mpr hk
          have h6 : k % sy < (xs[k / sy]).cells.length := by
            rw [h2 (k / sy) xs[k / sy] (List.getElem?_eq_getElem h5)]
            exact Nat.mod_lt _ hpos
          exact ⟨xs[k / sy], (xs[k / sy]).cells[k % sy], List.getElem?_eq_getElem h5, List.getElem?_eq_getElem h6⟩
        refine ⟨(List.range (xs.length * sy)).map fun k => vs (k / sy) (k % sy), ⟨fun w' => by simp [Builtin.lenOf], fun w' hw' => ?_, hnl, fun u hu => ?_⟩, h2, fun i y j c hy hj => ?_⟩
        · have := run_firstCells_some (P := P) w' sy xs.length ⟨b, off, none⟩ xs.length cap ((List.range (xs.length * sy)).map fun k => vs (k / sy) (k % sy)) hnl (fun k q hq => by
            have hk : k < xs.length * sy := by
              have := (List.getElem?_eq_some_iff.mp hq).1
              simpa using this
            simp [hk] at hq
            subst hq
            obtain ⟨y, c, e1, e2⟩ := key k hk
            have hadd : (⟨b, off, none⟩ : Addr).add k = ⟨b, off + k, none⟩ := by unfold Addr.add; split <;> simp_all
            rw [hadd]
            have := hi.im _ _ _ (h3 _ _ _ _ e1 e2)
            have e3 : off + k / sy * sy + k % sy = off + k := by
              have := Nat.div_add_mod k sy
              rw [Nat.mul_comm] at this
              omega
            rw [e3] at this
            simpa [World.cell?, hw'] using this)
          exact this
        · obtain ⟨k, hk, rfl⟩ := List.mem_map.mp hu
          have hk2 : k < xs.length * sy := by simpa using hk
          obtain ⟨y, c, e1, e2⟩ := key k hk2
          have hr := h4 _ _ _ _ e1 e2
          exact u5q (g := g) (L := .res) (.pure (.flat hr)) hr.isCell
        · have hil : i < xs.length := (List.getElem?_eq_some_iff.mp hy).1
          have hjl : j < sy := by rw [← h2 i y hy]; exact (List.getElem?_eq_some_iff.mp hj).1
          have hk : i * sy + j < xs.length * sy := by
            calc i * sy + j < i * sy + sy := by omega
              _ = (i + 1) * sy := by rw [Nat.add_mul, Nat.one_mul]
              _ ≤ xs.length * sy := Nat.mul_le_mul_right _ hil
          have d1 : (i * sy + j) / sy = i := by rw [Nat.mul_comm, Nat.mul_add_div hpos, Nat.div_eq_of_lt hjl, Nat.add_zero]
          have d2 : (i * sy + j) % sy = j := by rw [Nat.mul_comm, Nat.mul_add_mod, Nat.mod_eq_of_lt hjl]
          exact ⟨vs i j, by simp [hk, d1, d2], h4 i y j c hy hj⟩
  | str s =>
    unfold tail at h
    dsimp only at h
    cases hc : (sz == 1) with
    | false => rw [hc] at h; simp at h
    | true =>
      rw [hc] at h
      simp only [cond_true, Option.some.injEq] at h
      subst h
      have hsz : sz = 1 := by simpa using hc
      subst hsz
      obtain rfl := hq.str
      refine ⟨s.data.toList.map fun b => .int .u8 b.toNat, ⟨fun w' => by simp [Builtin.lenOf], fun w' _ => ?_, by simp, fun u hu => ?_⟩, fun i y hy => ?_, fun i y j c hy hj => ?_⟩
      · simp only [Builtin.firstCells, Sem.run_pure, List.length_map, Array.length_toList, Nat.mul_one, Result.ok.injEq, and_true]
        have hx : s.extract 0 s.data.size = s := by
          apply ByteArray.ext
          simp [ByteArray.data_extract]
        rw [hx]
        apply Array.ext'
        simp
      · obtain ⟨b, _, rfl⟩ := List.mem_map.mp hu
        rfl
      · simp only [List.getElem?_map, Option.map_eq_some_iff] at hy
        obtain ⟨b, _, rfl⟩ := hy
        rfl
      · simp only [List.getElem?_map, Option.map_eq_some_iff] at hy
        obtain ⟨b, hb, rfl⟩ := hy
        have hj0 : j = 0 := by
          have := (List.getElem?_eq_some_iff.mp hj).1
          simp [PV.cells] at this
          omega
        subst hj0
        simp [PV.cells] at hj
        subst hj
        exact ⟨.int .u8 b.toNat, by
          simp only [Nat.mul_one, Nat.add_zero, List.getElem?_map, hb, Option.map_some], .int _ _⟩
  | _ => (unfold tail at h; exact nomatch h)
end Go.Proofs.YtiiepllnnjjmaaaDoor.Pi
namespace Go.Proofs.YtiiepllnnjjmaaaDoor.Pi
variable {P : Program} {g : G} {L L' : Owner} {w w' : World} {H : Heap} {x : Nat} {env : Env}
theorem ufe {i j n sz : Nat} (hi : i < n) (hj : j < sz) : i * sz + j < n * sz := by
  calc i * sz + j < i * sz + sz := by omega
    _ = (i + 1) * sz := by rw [Nat.add_mul, Nat.one_mul]
    _ ≤ n * sz := Nat.mul_le_mul_right _ hi
def G.grown (g : G) (b lo hi : Nat) (cells : List Value) (s : Nat) (L : Owner) : G :=
  { g with im := fun b' o => if b' = b ∧ lo ≤ o ∧ o < hi then cells[o - lo]? else g.im b' o, ow := fun b' => if b' = b then some (L, s) else g.ow b' }
theorem ump {b off cap sz S s d : Nat} {xs ys : List PV} {vs : Nat → Nat → Value} {news : List Value} (hi : Inv g H w) (hc : xs.length ≤ cap)
    (hsz : ∀ (i : Nat) (y : PV), xs[i]? = some y → y.cells.length = sz)
    (him : ∀ (i : Nat) (y : PV) (j : Nat) (c : PV), xs[i]? = some y → y.cells[j]? = some c → g.im b (off + i * sz + j) = some (vs i j))
    (hr : ∀ (i : Nat) (y : PV) (j : Nat) (c : PV), xs[i]? = some y → y.cells[j]? = some c → RepF g.im c (vs i j))
    (how : g.ow b = some (.tmp s, S)) (hs : off + cap * sz ≤ S) (hroom : ∀ k, off + xs.length * sz ≤ k → g.im b k = none)
    (hys : ∀ (i : Nat) (y : PV), ys[i]? = some y → y.cells.length = sz) (hnl : news.length = ys.length * sz)
    (hyr : ∀ (i : Nat) (y : PV) (j : Nat) (c : PV), ys[i]? = some y → y.cells[j]? = some c → ∃ u, news[i * sz + j]? = some u ∧ RepF g.im c u) (hfit : xs.length + ys.length ≤ cap)
    {cur : Array Value} {T : TypeId} (hb : w.heap[b]? = some (.cells cur T (0, 0))) (hcur : cur.size = S) :
    let g' := g.grown b (off + xs.length * sz) (off + xs.length * sz + news.length) news S (.tmp d)
    let w' := w.setRow b (cur.toList.take (off + xs.length * sz) ++ news ++ cur.toList.drop (off + xs.length * sz + news.length)).toArray
    Inv g' H w' ∧ Glob g w g' w' ∧ Grow (fun M => M ≠ .tmp s) g g' ∧ RepS g' (.tmp d) (.slice true false sz (xs ++ ys)) (.slice (some ⟨b, off, none⟩) (xs.length + ys.length) cap) := by
  intro g' w'
  have hfit2 : off + xs.length * sz + news.length ≤ cur.size := by
    have : (xs.length + ys.length) * sz ≤ cap * sz := Nat.mul_le_mul_right _ hfit
    rw [Nat.add_mul] at this
    omega
  have hne : ∀ b', b' ≠ b → g'.im b' = g.im b' ∧ g'.ow b' = g.ow b' := by
    intro b' hb'
    constructor
    · funext o
      show (if b' = b ∧ _ ∧ _ then _ else _) = _
      rw [if_neg (fun h => hb' h.1)]
    · show (if b' = b then _ else _) = _
      rw [if_neg hb']
  have himb : ∀ o, g'.im b o = if off + xs.length * sz ≤ o ∧ o < off + xs.length * sz + news.length then news[o - (off + xs.length * sz)]? else g.im b o := by
    intro o
    show (if b = b ∧ _ ∧ _ then _ else _) = _
    by_cases h : off + xs.length * sz ≤ o ∧ o < off + xs.length * sz + news.length
    · rw [if_pos ⟨rfl, h⟩, if_pos h]
    · rw [if_neg (fun hh => h hh.2), if_neg h]
  have hup : ∀ b' o v, g.im b' o = some v → g'.im b' o = some v := by
    intro b' o v hv
    by_cases e : b' = b
    · subst e
      rw [himb]
      have : ¬ (off + xs.length * sz ≤ o ∧ o < off + xs.length * sz + news.length) := fun h => by
        rw [hroom o h.1] at hv
        cases hv
      rw [if_neg this]
      exact hv
    · rw [(hne b' e).1]
      exact hv
  have hoth : ∀ {k : Nat}, k ≠ b → w'.heap[k]? = w.heap[k]? := fun hk => setRow_other w b _ _ hk
  have hnew : w'.heap[b]? = some (.cells (cur.toList.take (off + xs.length * sz) ++ news ++ cur.toList.drop (off + xs.length * sz + news.length)).toArray T (0, 0)) := setRow_heap w b cur _ T _ hb
  have hszw : w'.heap.size = w.heap.size := by simp [w', World.setRow]
  have hgrow : Grow (fun M => M ≠ .tmp s) g g' := ⟨fun _ _ h => h, hup, fun b' M q hM hq => by
    have e : b' ≠ b := fun e => by
      subst e
      rw [how] at hq
      simp only [Option.some.injEq, Prod.mk.injEq] at hq
      exact hM hq.1.symm
    obtain ⟨e1, e2⟩ := hne b' e
    exact ⟨by rw [e2]; exact hq, fun o ho => by rw [e1]; exact ho⟩⟩
  refine ⟨⟨hi.len, hi.nd, fun b' o v hv => ?_, fun b' M q hq => ?_, fun id b' y hb' hy => ?_, hi.gl.mono hgrow.im⟩, ⟨rfl, rfl, rfl, by rw [hszw]; omega, fun b' hb' h1 h2 => ?_, hgrow.sub (fun M hM => by cases M <;> first | exact hM.elim | (intro e; cases e))⟩, hgrow, ?_⟩
  · by_cases e : b' = b
    · subst e
      rw [himb] at hv
      rw [u6u hnew, u5i hfit2]
      split at hv
      · rename_i hk
        rw [if_pos hk]
        exact hv
      · rename_i hk
        rw [if_neg hk]
        have := hi.im b' o v hv
        rw [u6u hb] at this
        exact this
    · rw [(hne b' e).1] at hv
      have := hi.im b' o v hv
      simp only [World.cell?] at this ⊢
      rw [hoth e]
      exact this
  · by_cases e : b' = b
    · subst e
      have : g'.ow b' = some (.tmp d, S) := by
        show (if b' = b' then _ else _) = _
        rw [if_pos rfl]
      rw [this] at hq
      simp only [Option.some.injEq, Prod.mk.injEq] at hq
      refine ⟨_, T, hnew, ?_⟩
      rw [← hq.2]
      simp
      omega
    · rw [(hne b' e).2] at hq
      rw [hoth e]
      exact hi.ow b' M q hq
  · have hbox := hi.box id b' y hb' hy
    cases y with
    | dead => exact Nat.lt_of_lt_of_le hbox (by rw [hszw]; exact Nat.le_refl _)
    | cells cs =>
      have e : b' ≠ b := fun e => by subst e; rw [hbox.1] at how; cases how
      obtain ⟨e1, e2⟩ := hne b' e
      exact hbox.mono (hgrow.sub (fun M hM => by cases M <;> first | exact hM.elim | (intro e; cases e))) (fun h => by rw [e2]; exact h) (fun h o => by rw [e1]; exact h o) (hoth e) (by rw [hszw]; omega)
    | iter s' pos =>
      have e : b' ≠ b := fun e => by subst e; rw [hbox.1] at how; cases how
      obtain ⟨e1, e2⟩ := hne b' e
      exact hbox.mono (hgrow.sub (fun M hM => by cases M <;> first | exact hM.elim | (intro e; cases e))) (fun h => by rw [e2]; exact h) (fun h o => by rw [e1]; exact h o) (hoth e) (by rw [hszw]; omega)
  · have e : b' ≠ b := fun e => by subst e; rw [how] at h1; cases h1
    obtain ⟨e1, e2⟩ := hne b' e
    exact ⟨by rw [e2]; exact h1, h2, hoth e⟩
  · have hl : (xs ++ ys).length = xs.length + ys.length := List.length_append
    rw [← hl]
    have hcell : ∀ (i : Nat) (y : PV) (j : Nat) (c : PV), (xs ++ ys)[i]? = some y → y.cells[j]? = some c → ∃ u, g'.im b (off + i * sz + j) = some u ∧ RepF g'.im c u := by
      intro i y j c hy hj
      by_cases h : i < xs.length
      · rw [List.getElem?_append_left h] at hy
        exact ⟨_, hup _ _ _ (him i y j c hy hj), (hr i y j c hy hj).mono hup⟩
      · rw [List.getElem?_append_right (by omega)] at hy
        obtain ⟨u, hu, hru⟩ := hyr _ y j c hy hj
        have hjl : j < sz := by rw [← hys _ y hy]; exact (List.getElem?_eq_some_iff.mp hj).1
        have hil : i - xs.length < ys.length := (List.getElem?_eq_some_iff.mp hy).1
        have hk := ufe hil hjl
        have e : off + i * sz + j = off + xs.length * sz + ((i - xs.length) * sz + j) := by
          have : i * sz = xs.length * sz + (i - xs.length) * sz := by rw [← Nat.add_mul]; congr 1; omega
          omega
        refine ⟨u, ?_, hru.mono hup⟩
        rw [e, himb, if_pos ⟨by omega, by omega⟩, show off + xs.length * sz + ((i - xs.length) * sz + j) - (off + xs.length * sz) = (i - xs.length) * sz + j by omega]
        exact hu
    refine .own (fun i j => (g'.im b (off + i * sz + j)).getD undef) (by rw [hl]; exact hfit) (fun i y hy => ?_) (fun i y j c hy hj => ?_) (fun i y j c hy hj => ?_) (by show (if b = b then _ else _) = _; rw [if_pos rfl]) hs (fun k hk => ?_)
    · by_cases h : i < xs.length
      · rw [List.getElem?_append_left h] at hy
        exact hsz i y hy
      · rw [List.getElem?_append_right (by omega)] at hy
        exact hys _ y hy
    · obtain ⟨u, hu, _⟩ := hcell i y j c hy hj
      rw [hu]
      rfl
    · obtain ⟨u, hu, hru⟩ := hcell i y j c hy hj
      rw [hu]
      exact hru
    · rw [hl, Nat.add_mul] at hk
      rw [himb, if_neg (by omega)]
      exact hroom k (by omega)
end Go.Proofs.YtiiepllnnjjmaaaDoor.Pi
