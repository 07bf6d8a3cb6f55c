/- The evaluator's own form of a program's code, made out of the loaded program: definitions alone. -/
import Derived.Test.YtndfelbgppbncaaEvCore
set_option linter.unusedVariables false
namespace Go.Proofs.Ytndfelbgppbncaa.Ev
mutual
noncomputable def groundV : Value → Bool
  | .bool _ => true
  | .int _ _ => true
  | .string _ => true
  | .pointer a => a.isNone
  | .slice a l c => a.isNone && (l == 0 && c == 0)
  | .map r => r.isNone
  | .nilFunc => true
  | .nilIface => true
  | .iface _ v => groundV v
  | .agg cs => groundA cs && cs.toList.all isCell
  | .tuple cs => groundA cs
  | _ => false
  termination_by structural v => v
noncomputable def groundA : Array Value → Bool
  | ⟨l⟩ => groundL l
  termination_by structural v => v
noncomputable def groundL : List Value → Bool
  | [] => true
  | v :: l => groundV v && groundL l
  termination_by structural v => v
end

def isAggT (P : Program) (t : TypeId) : Option Bool :=
  match P.underlying t with
  | some (.struct _) | some (.array _ _) => some true
  | some _ => some false
  | none => none
noncomputable def zeroT (P : Program) (t : TypeId) : Option (List Value) := do
  let i ← P.info? t
  let z ← i.zero
  let l ← scells z
  guard (groundL l && l.length == i.size && l.all isCell)
  pure l
def sizeT (P : Program) (t : TypeId) : Option Nat := do
  let i ← P.info? t
  pure i.size
def bytesT (P : Program) (t : TypeId) : Option Nat := do
  let i ← P.info? t
  pure i.bytes
noncomputable def cO : Operand → Option AO
  | .tmp t => do pure (.t (← posC t))
  | .const v => if groundV v then some (.c v) else none
  | .func f => some (.c (.func (.func f) #[] #[]))
  | .global _ => none
noncomputable def cOs : List Operand → Option (List AO)
  | [] => some []
  | x :: l => do pure ((← cO x) :: (← cOs l))
noncomputable def cOo : Option Operand → Option (Option AO)
  | none => some none
  | some x => do pure (some (← cO x))
noncomputable def loadT (P : Program) (t : TypeId) (x : AO) : Option (Nat × (Heap → Env → Option Value)) := do
  match ← isAggT P t with
  | true => do
    let n ← sizeT P t
    guard (Nat.blt 0 n)
    pure (n, lLoads n x)
  | false => pure (1, lLoad x)

noncomputable def cParts (f : Nat → Option (Nat × Nat)) : List (Nat × Operand) → Option Parts
  | [] => some .nil
  | (i, x) :: l => do
    let (off, size) ← f i
    pure (.cons off size (← cO x) (← cParts f l))

def fieldAt (P : Program) (fields : Array Field) (i : Nat) : Option (Nat × Nat) := do
  let f ← fields[i]?
  pure (f.offset, ← sizeT P f.type)

noncomputable def cBin (P : Program) (op : BinOp) (t : TypeId) (x y : AO) : Option (Env → Option Value) := do
  match ← P.underlying t with
  | .int _ => match op with
    | .add => pure (pInt addI x y)
    | .sub => pure (pInt subI x y)
    | .mul => pure (pInt mulI x y)
    | .quo => pure (pInt quoI x y)
    | .rem => pure (pInt remI x y)
    | .and => pure (pInt andI x y)
    | .or => pure (pInt orI x y)
    | .xor => pure (pInt xorI x y)
    | .andNot => pure (pInt andNotI x y)
    | .shl => pure (pInt shlI x y)
    | .shr => pure (pInt shrI x y)
    | .eql => pure (pInt eqI x y)
    | .neq => pure (pInt neI x y)
    | .lss => pure (pInt ltI x y)
    | .leq => pure (pInt leI x y)
    | .gtr => pure (pInt gtI x y)
    | .geq => pure (pInt geI x y)
  | .string => match op with
    | .add => pure (pStr catS x y)
    | .eql => pure (pStr eqS x y)
    | .neq => pure (pStr neS x y)
    | .lss => pure (pStr ltS x y)
    | .leq => pure (pStr leS x y)
    | .gtr => pure (pStr gtS x y)
    | .geq => pure (pStr geS x y)
    | _ => none
  | .bool => match op with
    | .eql => pure (pEq eqB x y)
    | .neq => pure (pNe eqB x y)
    | _ => none
  | .pointer _ => match op with
    | .eql => pure (pEq eqP x y)
    | .neq => pure (pNe eqP x y)
    | _ => none
  | .slice _ => match op with
    | .eql => pure (pEq eqSl x y)
    | .neq => pure (pNe eqSl x y)
    | _ => none
  | .func _ _ _ => match op with
    | .eql => pure (pEq eqF x y)
    | .neq => pure (pNe eqF x y)
    | _ => none
  | _ => none

noncomputable def cConv (P : Program) (s d : TypeId) (x : AO) : Option AOp := do
  match ← P.underlying s, ← P.underlying d with
  | .int _, .int k => pure (.p (pConv k x))
  | .string, .string => pure (.p (pStrId x))
  | .slice e, .string => match ← P.underlying e with
    | .int .u8 => pure (.l none (lB2s x))
    | _ => none
  | .string, .slice e => match ← P.underlying e with
    | .int .u8 => pure (.n (nS2b x))
    | _ => none
  | .slice _, .slice e => match ← P.underlying e with
    | .int .u8 => do guard (Nat.beq s d); pure (.l (some (x, 0)) (lMark x))
    | _ => none
  | _, _ => none

def isTextOrSlice : TypeDesc → Bool
  | .string => true
  | .slice _ => true
  | _ => false
noncomputable def cCall (P : Program) (c : Call) : Option AOp := do
  match c.callee, c.args.toList with
  | .value (.func f), args => pure (.call f (← cOs args))
  | .value x, args => pure (.callv (← cO x) (← cOs args))
  | .builtin .len, [x] =>
    match ← P.underlying (← c.argTypes[0]?) with
    | .string => pure (.p (pLenS (← cO x)))
    | .slice _ => pure (.p (pLen (← cO x)))
    | .array n _ => pure (.p (pMv (.c (.int .i64 n))))
    | _ => none
  | .builtin .append, [s, x] =>
    match c.argTypes.toList with
    | [t, u] => do
      let dt ← P.underlying t
      let du ← P.underlying u
      guard (isTextOrSlice du)
      match dt with
      | .slice e => do
        let size ← sizeT P e
        guard (Nat.blt 0 size)
        let z ← zeroT P e
        pure (.e (eAppend size (← bytesT P e) (← cO s) (← cO x)))
      | _ => none
    | _ => none
  | .builtin .min, x :: xs => pure (.p (pMin (← cO x) (← cOs xs)))
  | .builtin .max, x :: xs => pure (.p (pMax (← cO x) (← cOs xs)))
  | .builtin .clear, [x] =>
    match ← P.underlying (← c.argTypes[0]?) with
    | .slice e => pure (.e (eClear (← zeroT P e) (← cO x)))
    | _ => none
  | _, _ => none

noncomputable def compOp (P : Program) (o : Op) : Option AOp := do
  match o with
  | .move x => pure (.p (pMv (← cO x)))
  | .assign x => pure (.p (pMv (← cO x)))
  | .pick c a b => pure (.p (pPick (← cO c) (← cO a) (← cO b)))
  | .build t parts =>
    match ← P.underlying t with
    | .struct fields => do
      guard (fields.all fun f => (P.info? f.type).isSome)
      let ps ← cParts (fieldAt P fields) parts.toList
      pure (.p (pBuild (← zeroT P t) ps))
    | .array _ elem => do
      let s ← sizeT P elem
      let ps ← cParts (fun i => some (Nat.mul i s, s)) parts.toList
      pure (.p (pBuild (← zeroT P t) ps))
    | _ => none
  | .nilCheck x => pure (.p (pNilck (← cO x)))
  | .binOp op t x y _ => do pure (.p (← cBin P op t (← cO x) (← cO y)))
  | .unOp op _ x =>
    match op with
    | .not => pure (.p (pNot (← cO x)))
    | .neg => pure (.p (pNeg (← cO x)))
    | .xor => pure (.p (pCom (← cO x)))
    | _ => none
  | .convert s d x => cConv P s d (← cO x)
  | .fieldAddr s x f =>
    match ← P.underlying s with
    | .struct fields => do
      let f ← fields[f]?
      guard (Nat.blt 0 (← sizeT P f.type))
      pure (.p (pFaddr f.offset (← cO x)))
    | _ => none
  | .field t x f =>
    match ← P.underlying t with
    | .struct fields => do
      let f ← fields[f]?
      match ← isAggT P f.type with
      | true => pure (.p (pFldA f.offset (← sizeT P f.type) (← cO x)))
      | false => pure (.p (pFld f.offset (← cO x)))
    | _ => none
  | .indexAddr t x i =>
    match ← P.underlying t with
    | .array n e => pure (.p (pIdxA n (← sizeT P e) (← cO x) (← cO i)))
    | .slice e => pure (.p (pIdxS (← sizeT P e) (← cO x) (← cO i)))
    | _ => none
  | .index t x i =>
    match ← P.underlying t with
    | .array n e => do
      match ← isAggT P e with
      | true => pure (.p (pIdxVA n (← sizeT P e) (← cO x) (← cO i)))
      | false => pure (.p (pIdxV n (← sizeT P e) (← cO x) (← cO i)))
    | .string => pure (.p (pIdxStr (← cO x) (← cO i)))
    | _ => none
  | .slice t x lo hi mx =>
    match ← P.underlying t, mx with
    | .string, none => pure (.p (pSlcStr (← cO x) (← cOo lo) (← cOo hi)))
    | .slice e, none => pure (.p (pSlc (← sizeT P e) (← cO x) (← cOo lo) (← cOo hi)))
    | .slice e, some m => pure (.p (pSlc3 (← sizeT P e) (← cO x) (← cOo lo) (← cOo hi) (← cO m)))
    | .array n e, none => do guard (Nat.blt n FZ); pure (.p (pSlcA n (← sizeT P e) (← cO x) (← cOo lo) (← cOo hi)))
    | _, _ => none
  | .extract x i => pure (.p (pExt i (← cO x)))
  | .makeFunc (.func f) first captured => pure (.p (pFunc f (← cOs first.toList) (← cOs captured.toList)))
  | .makeInterface t x =>
    match ← P.underlying t with
    | .interface _ => none
    | _ => pure (.p (pIface t (← cO x)))
  | .load t x => do
    let x ← cO x
    let (n, f) ← loadT P t x
    pure (.l (some (x, n)) f)
  | .alloc t => pure (.n (nAlloc (← zeroT P t)))
  | .box _ x => pure (.n (nBox (← cO x)))
  | .buildSlice t len parts =>
    match ← P.underlying t with
    | .slice e => do
      let s ← sizeT P e
      guard (Nat.ble (Nat.mul len s) 16777216 && Nat.ble len 16777216)
      let ps ← cParts (fun i => some (i, s)) parts.toList
      pure (.n (nSlice len s (← zeroT P e) ps))
    | _ => none
  | .makeSlice t l c =>
    match ← P.underlying t with
    | .slice e => do pure (.n (nMake (← sizeT P e) (← bytesT P e) (← zeroT P e) (← cO l) (← cO c)))
    | _ => none
  | .store t a x => do pure (.e (eStore (← sizeT P t) (← cO a) (← cO x)))
  | .call c => cCall P c
  | _ => none

noncomputable def compOps (P : Program) (ntmps : Nat) (ops : Array Oper) : List Oper → Option OpL
  | [] => some .nil
  | o :: l => do
    guard (o.dst.all fun d => Nat.blt d ntmps)
    let op ← compOp P o.op
    let d ← (match o.dst with
      | none => some none
      | some d => do pure (some (← posC d)))
    let rest ← compOps P ntmps ops l
    match o.guard with
    | none => pure (.cons d op rest)
    | some (j, w) => do
      let oj ← ops[j]?
      let g ← oj.dst
      pure (.consG (← posC g) w d op rest)

def aopE : AOp → Bool
  | .e _ | .call .. | .callv .. => true
  | _ => false
noncomputable def opList : OpL → List AOp
  | .nil => []
  | .cons _ o l => o :: opList l
  | .consG _ _ _ o l => o :: opList l
noncomputable def mkChecks (x : AO) (n : Nat) : List Nat → Checks → Checks
  | [], c => c
  | e :: l, c => .cons e x n (mkChecks x n l c)
/-- an order that holds in every way of running the region -/
def isBase (e : Edge) : Bool :=
  match e.ground with
  | .textOnly _ => false
  | .gcOnly _ => false
  | _ => true
/-- what surely runs ahead of an operation, as bits -/
def maskE (ms : List Nat) : List Edge → Nat
  | [] => 0
  | e :: l => if isBase e then maskE ms l ||| ((ms[e.on]?).getD 0 ||| 1 <<< e.on) else maskE ms l
def masks : List Oper → List Nat → List Nat
  | [], ms => ms
  | o :: l, ms => masks l (ms ++ [maskE ms o.after.toList])
def bit (ms : List Nat) (i j : Nat) : Bool := ((ms[i]?).getD 0).testBit j
def effects : List AOp → Nat → List Nat
  | [], _ => []
  | o :: l, i => if aopE o then i :: effects l (i + 1) else effects l (i + 1)
def dstsOf : List Oper → Nat → List (Tmp × Nat)
  | [], _ => []
  | o :: l, i => match o.dst with
    | none => dstsOf l (i + 1)
    | some d => (d, i) :: dstsOf l (i + 1)
/-- the temporaries that an operation looks at are told ahead of it in every way, or stay -/
def seesOk (ms : List Nat) (ds : List (Tmp × Nat)) (i : Nat) (firm : Bool) (ts : List Tmp) : Bool :=
  ts.all fun t => ds.all fun (d, j) => d != t || (Nat.blt j i && bit ms i j) || (!firm && Nat.blt i j && bit ms j i)
def nodupT : List (Tmp × Nat) → Bool
  | [] => true
  | (d, _) :: l => l.all (fun (d', _) => d' != d) && nodupT l
/-- the reading operations that stand in no order to one with effects -/
noncomputable def checksOf (ops : Array Oper) (es ms : List Nat) (ds : List (Tmp × Nat)) : List Oper → List AOp → Nat → Option Checks
  | o :: ol, op :: l, i => do
    let rest ← checksOf ops es ms ds ol l (i + 1)
    match op with
    | .l looks _ =>
      guard (seesOk ms ds i true (o.looksAt ops))
      let un := es.filter fun e => !(if e < i then bit ms i e else bit ms e i)
      match looks with
      | some (x, n) => pure (mkChecks x n un rest)
      | none => do guard un.isEmpty; pure rest
    | _ =>
      guard (seesOk ms ds i false (o.looksAt ops))
      pure rest
  | _, _, _ => some .nil
/-- the order covers all and keeps to what binds -/
def topoOk (md : Region.Mode) (ops : Array Oper) : List Nat → List Nat → Bool
  | [], seen => (List.range ops.size).all fun i => seen.contains i
  | i :: l, seen => (match ops[i]? with
    | none => false
    | some o => o.after.toList.all fun e => !Region.binds md e || seen.contains e.on) && topoOk md ops l (i :: seen)
/-- may the region be run in any order? -/
noncomputable def drawChecks (ops : Array Oper) (l : OpL) : Option Checks := do
  let ms := masks ops.toList []
  let es := effects (opList l) 0
  guard (es.all fun j => es.all fun i => j ≤ i || bit ms j i)
  let ds := dstsOf ops.toList 0
  guard (nodupT ds)
  guard (topoOk .text ops (List.range ops.size) [])
  guard (if Region.departs ops then topoOk .gc ops (Region.linearise .gc ops 0) [] else true)
  checksOf ops es ms ds ops.toList (opList l) 0

noncomputable def comp (P : Program) (nt : Nat) : Code → Option ACode
  | .skip => some .skip
  | .region _ ops false => do pure (.reg (← compOps P nt ops ops.toList))
  | .region _ ops true => do
    let l ← compOps P nt ops ops.toList
    pure (.dreg l (← drawChecks ops l))
  | .seq a b => do pure (.seq (← comp P nt a) (← comp P nt b))
  | .cond c a b => do pure (.cond (← cO c) (← comp P nt a) (← comp P nt b))
  | .block id a => do pure (.block id (← comp P nt a))
  | .loop a => do pure (.loop (← comp P nt a))
  | .exit id => some (.exit id)
  | .ret => some .ret
  | _ => none

noncomputable def compRes (P : Program) : List ResultVar → Option Ress
  | [] => some .nil
  | .tmp t :: l => do pure (.tmp (← posC t) (← compRes P l))
  | .cell a t :: l => do
    let (_, f) ← loadT P t (.t (← posC a))
    pure (.cell f (← compRes P l))

noncomputable def compFunc (P : Program) (fn : Func) : Option AFunc := do
  let b ← fn.body
  let c ← comp P fn.ntmps b
  pure (.mk fn.ntmps c (← compRes P fn.results.toList))

noncomputable def tab (P : Program) (f : FuncId) : Option AFunc := Option.rec none (fun fn => compFunc P fn) (nth P.funcs.toList f)
end Go.Proofs.Ytndfelbgppbncaa.Ev
