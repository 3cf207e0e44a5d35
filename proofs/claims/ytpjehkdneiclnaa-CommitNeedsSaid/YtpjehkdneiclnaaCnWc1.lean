import Derived.Test.YtpjehkdneiclnaaCnWc0
set_option linter.unusedSimpArgs false
set_option linter.unusedVariables false
namespace Go.Wc
abbrev Spec:=List Value→Hp→(Value→Hp→Prop)→Prop
abbrev Specs:=List (Nat × Spec)
def Specs.get:Specs→Nat→Option Spec
  | [],_=>none
  | (k,v)::r,n=>bif Nat.beq k n then some v else Specs.get r n
abbrev phi (cl:Specs) (f:Value) (args:List Value) (h:Hp) (K:Value→Hp→Prop):Prop:=
  match f with
  | .func (.func id) first captured => match cl.get id with
    | some S=>S (first.toList++args++captured.toList) h K
    | none=>False
  | _=>False
abbrev intB (op:BinOp) (k:IntKind) (x y:Int) (K:Value→Prop):Prop:=
  match op with
  | .add=>K (.int k (k.wrap (x+y)))
  | .sub=>K (.int k (k.wrap (x - y)))
  | .mul=>K (.int k (k.wrap (x*y)))
  | .quo=>y ≠ 0∧K (.int k (k.wrap (x.tdiv y)))
  | .rem=>y ≠ 0∧K (.int k (x.tmod y))
  | .and=>K (.int k (k.wrap (BitVec.ofInt k.bits x &&& BitVec.ofInt k.bits y).toNat))
  | .or=>K (.int k (k.wrap (BitVec.ofInt k.bits x ||| BitVec.ofInt k.bits y).toNat))
  | .xor=>K (.int k (k.wrap (BitVec.ofInt k.bits x ^^^ BitVec.ofInt k.bits y).toNat))
  | .andNot=>K (.int k (k.wrap (BitVec.ofInt k.bits x &&& ~~~ BitVec.ofInt k.bits y).toNat))
  | .eql=>K (.bool (x==y))
  | .neq=>K (.bool (x !=y))
  | .lss=>K (.bool (decide (x<y)))
  | .leq=>K (.bool (decide (x≤y)))
  | .gtr=>K (.bool (decide (x>y)))
  | .geq=>K (.bool (decide (x≥y)))
  | _=>False
abbrev shW (op:BinOp) (k:IntKind) (x y:Int) (K:Value→Prop):Prop:=
  match op with
  | .shl=>0≤y∧K (.int k (k.wrap (x*2 ^ (min y.toNat k.bits))))
  | .shr=>0≤y∧K (.int k (x.fdiv (2 ^ (min y.toNat k.bits))))
  | _=>False
abbrev strB (op:BinOp) (x y:ByteArray) (K:Value→Prop):Prop:=
  match op with
  | .add=>((x.size+y.size:Nat):Int)≤IntKind.i64.max∧K (.string (x++y))
  | .eql=>K (.bool (x.toList==y.toList))
  | .neq=>K (.bool (!(x.toList==y.toList)))
  | .lss=>K (.bool (Op.bytesLess x.toList y.toList))
  | .leq=>K (.bool (Op.bytesLess x.toList y.toList || x.toList==y.toList))
  | .gtr=>K (.bool (!(Op.bytesLess x.toList y.toList || x.toList==y.toList)))
  | .geq=>K (.bool (!(Op.bytesLess x.toList y.toList)))
  | _=>False
abbrev partW (ti:TI) (cs:List Value) (off:Nat) (K:Value→Prop):Prop:=
  cnd (isAgg ti.kd) (K (.agg ((cs.drop off).take ti.size).toArray)) (match (cs.drop off) with
    | v::_=>K v
    | []=>False)
abbrev eqFs (τ:Tys) (eq:Nat→Value→Value→(Bool→Prop)→Prop) (xs ys:List Value):List (Nat × Nat)→(Bool→Prop)→Prop
  | [],K=>K true
  | (ft, off) :: fs, K => match τ.get ft with
    | none=>False
    | some tf=>partW tf xs off fun u=>partW tf ys off fun v=>eq ft u v fun b=>eqFs τ eq xs ys fs fun c=>K (b && c)
abbrev eqW (τ:Tys):Nat→Nat→Value→Value→(Bool→Prop)→Prop
  | 0,_,_,_,_=>False
  | d + 1, t, x, y, K => match τ.get t with
    | none=>False
    | some ti => match ti.kd, x, y with
      | .bool, .bool a, .bool b=>K (a==b)
      | .int _, .int k a, .int k' b=>cnd (decide (k=k')) (K (a==b)) (False)
      | .str, .string a, .string b=>K (a==b)
      | .struct fs, .agg xs, .agg ys=>cnd ti.eq (eqFs τ (eqW τ d) xs.toList ys.toList fs K) (False)
      | .arr n e, .agg xs, .agg ys => match τ.get e with
        | some te => match te.kd with
          | .int k=>cnd (Nat.beq te.size 1 && intsOk k n xs.toList && intsOk k n ys.toList) (K (unInts xs.toList==unInts ys.toList)) (False)
          | _=>False
        | none=>False
      | _,_,_=>False
abbrev eqB (τ:Tys) (t:Nat) (ti:TI) (x y:Value) (K:Bool→Prop):Prop:=
  match ti.kd,x,y with
  | .struct _, .agg a, .agg b=>cnd ti.eq (eqW τ 6 t (.agg a) (.agg b) K) (False)
  | .arr _ _, .agg a, .agg b=>cnd ti.eq (eqW τ 6 t (.agg a) (.agg b) K) (False)
  | .bool, .bool a, .bool b=>K (a==b)
  | .ptr _, .pointer a, .pointer none=>K a.isNone
  | .ptr _, .pointer none, .pointer b=>K b.isNone
  | .slice _, .slice a _ _, .slice none _ _=>K a.isNone
  | .map _ _, .map a, .map none=>K a.isNone
  | .func, .nilFunc, .nilFunc=>K true
  | .func, .func _ _ _, .nilFunc=>K false
  | _,_,_=>False
abbrev binW (τ:Tys) (op:BinOp) (t:Nat) (x y:Value) (K:Value→Prop):Prop:=
  match x,y with
  | .int k a, .int k' b =>
    match op with
    | .shl | .shr=>shW op k a b K
    | _=>cnd (decide (k=k')) (intB op k a b K) (False)
  | .string a, .string b=>strB op a b K
  | _, _ => match τ.get t with
    | none=>False
    | some ti => match op with
      | .eql=>eqB τ t ti x y fun b=>K (.bool b)
      | .neq=>eqB τ t ti x y fun b=>K (.bool !b)
      | _=>False
abbrev unW (op:UnOp) (x:Value) (K:Value→Prop):Prop:=
  match op,x with
  | .not, .bool b=>K (.bool !b)
  | .neg, .int k n=>K (.int k (k.wrap (0 - n)))
  | .xor, .int k n=>K (.int k (k.wrap (BitVec.ofInt k.bits (if k.signed then -1 else k.max) ^^^ BitVec.ofInt k.bits n).toNat))
  | _,_=>False
def setL:List Value→Nat→List Value→List Value
  | cs,_,[]=>cs
  | cs,i,v::vs=>setL (cs.set i v) (i+1) vs
abbrev fillL (place:Nat→Option (Nat × Nat)):List (Nat × Value)→List Value→(List Value→Prop)→Prop
  | [],cs,K=>K cs
  | (i, v) :: r, cs, K => match place i with
    | none=>False
    | some (off,size)=>cnd (Nat.beq v.cells.toList.length size && Nat.ble (off+size) cs.length) (fillL place r (setL cs off v.cells.toList) K) (False)
def fieldPlace (τ : Tys) (fs : List (Nat × Nat)) (i : Nat) : Option (Nat × Nat) :=
  match fs[i]? with
  | some (t, off) => match τ.get t with
    | some ti=>some (off,ti.size)
    | none=>none
  | none=>none
abbrev buildW (τ:Tys) (t:Nat) (parts:List (Nat × Value)) (K:Value→Prop):Prop:=
  match τ.get t with
  | none=>False
  | some ti => match ti.kd with
    | .struct fs=>cnd (fs.all (fun f=>(τ.get f.1).isSome)) (fillL (fieldPlace τ fs) parts ti.zero.cells.toList fun cs=>K (.agg cs.toArray)) (False)
    | .arr _ e => match τ.get e with
      | some te=>fillL (fun i=>some (i*te.size,te.size)) parts ti.zero.cells.toList fun cs=>K (.agg cs.toArray)
      | none=>False
    | _=>False
def isKey:Kd→Bool
  | .int _ | .str | .bool=>true
  | _=>false
abbrev opR (τ:Tys) (o:Op) (Γ:Env) (h:Hp) (K:(Hp→Prop)→Value→Prop):Prop:=
  match o with
  | .move x=>K (fun _=>True) (ev Γ x)
  | .assign x=>K (fun _=>True) (ev Γ x)
  | .pick c a b => match ev Γ c with
    | .bool t=>brA t (K (fun _=>True) (ev Γ a)) (K (fun _=>True) (ev Γ b))
    | _=>False
  | .build t ps=>buildW τ t (ps.toList.map fun p=>(p.1,ev Γ p.2)) (K fun _=>True)
  | .load t a => match ev Γ a with
    | .pointer (some p) => match τ.get t with
      | some ti=>cnd (isAgg ti.kd) ((cnd (Nat.beq (ckns ti.cks) ti.size) (ldCs ti.cks h p 0 fun f vs=>K f (.agg vs.toArray)) (False))) (match ti.cks with
          | [c]=>ldC c h p K
          | _=>False)
      | none=>False
    | _=>False
  | .nilCheck x => match ev Γ x with
    | .pointer p=>nilW p fun a=>K (fun _=>True) (.pointer (some a))
    | .func (.func f) x y=>K (fun _=>True) (.func (.func f) x y)
    | _=>False
  | .binOp op t x y _=>binW τ op t (ev Γ x) (ev Γ y) (K fun _=>True)
  | .unOp op _ x=>unW op (ev Γ x) (K fun _=>True)
  | .convert s d x => match τ.get s, τ.get d with
    | some ts, some td => match ts.kd, td.kd, ev Γ x with
      | .int _, .int k, .int _ n=>K (fun _=>True) (.int k (k.wrap n))
      | .str, .str, .string b=>K (fun _=>True) (.string b)
      | .slice e, .str, .slice a l c => match τ.get e with
        | some te => match te.kd with
          | .int .u8=>b2s h ⟨a,l,c⟩ fun f b=>K f (.string b)
          | _=>False
        | none=>False
      | _,_,_=>False
    | _,_=>False
  | .makeFunc f x y=>K (fun _=>True) (.func f (x.toList.map (ev Γ)).toArray (y.toList.map (ev Γ)).toArray)
  | .makeInterface t x => match τ.get t with
    | some ti => match ti.kd with
      | .iface=>False
      | _=>K (fun _=>True) (.iface t (ev Γ x))
    | none=>False
  | .slice t x lo hi none =>
    let l:=match lo with | some y=>ev Γ y | none=> .int .i64 0
    match τ.get t with
    | some ti => match ti.kd, ev Γ x, l with
      | .slice e, .slice a n c, .int _ i => match τ.get e with
        | some te => match hi with
          | none=>slW ⟨a,n,c⟩ i n te.size fun s=>K (fun _=>True) (.slice s.a s.len s.cap)
          | some y => match ev Γ y with
            | .int _ j=>slW ⟨a,n,c⟩ i j te.size fun s=>K (fun _=>True) (.slice s.a s.len s.cap)
            | _=>False
        | none=>False
      | .str, .string s, .int _ i => match hi with
        | none=>stW s i s.size fun s=>K (fun _=>True) (.string s)
        | some y => match ev Γ y with
          | .int _ j=>stW s i j fun s=>K (fun _=>True) (.string s)
          | _=>False
      | .arr n e, .pointer (some p), .int _ i => match τ.get e with
        | some te => match hi with
          | none=>slW ⟨some p,n,n⟩ i n te.size fun s=>K (fun _=>True) (.slice s.a s.len s.cap)
          | some y => match ev Γ y with
            | .int _ j=>slW ⟨some p,n,n⟩ i j te.size fun s=>K (fun _=>True) (.slice s.a s.len s.cap)
            | _=>False
        | none=>False
      | _,_,_=>False
    | none=>False
  | .slice t x lo (some y) (some z) =>
    let l:=match lo with | some y=>ev Γ y | none=> .int .i64 0
    match τ.get t with
    | some ti => match ti.kd, ev Γ x, l, ev Γ y, ev Γ z with
      | .slice e, .slice a n c, .int _ i, .int _ j, .int _ m => match τ.get e with
        | some te=>slX ⟨a,n,c⟩ i j m te.size fun s=>K (fun _=>True) (.slice s.a s.len s.cap)
        | none=>False
      | _,_,_,_,_=>False
    | none=>False
  | .fieldAddr t x i => match τ.get t with
    | some ti => match ti.kd, ev Γ x with
      | .struct fs, .pointer (some a) => match fs[i]? with
        | some (ft, off) => match τ.get ft with
          | some tf=>cnd (Nat.beq tf.size 0) (False) (K (fun _=>True) (.pointer (some (a.add off))))
          | none=>False
        | none=>False
      | _,_=>False
    | none=>False
  | .field t x i => match τ.get t with
    | some ti => match ti.kd, ev Γ x with
      | .struct fs, .agg cs => match fs[i]? with
        | some (ft, off) => match τ.get ft with
          | some tf=>partW tf cs.toList off (K fun _=>True)
          | none=>False
        | none=>False
      | _,_=>False
    | none=>False
  | .indexAddr t x i => match τ.get t with
    | some ti => match ti.kd, ev Γ x, ev Γ i with
      | .slice e, .slice a n _, .int _ j => match τ.get e with
        | some te=>ixW a n j te.size fun p=>K (fun _=>True) (.pointer (some p))
        | none=>False
      | .arr n e, .pointer (some a), .int _ j => match τ.get e with
        | some te=>ixW (some a) n j te.size fun p=>K (fun _=>True) (.pointer (some p))
        | none=>False
      | _,_,_=>False
    | none=>False
  | .index t x i => match τ.get t with
    | some ti => match ti.kd, ev Γ x, ev Γ i with
      | .str, .string s, .int _ j=>(0≤j∧j<(s.size:Int))∧K (fun _=>True) (.int .u8 (s.data.toList.getD j.toNat 0).toNat)
      | .arr n e, .agg cs, .int _ j => match τ.get e with
        | some te => match te.kd with
          | .int k=>cnd (Nat.beq te.size 1 && intsOk k n cs.toList) ((0≤j∧j<(n:Int))∧K (fun _=>True) (.int k ((unInts cs.toList).getD j.toNat 0))) (False)
          | _=>False
        | none=>False
      | _,_,_=>False
    | none=>False
  | .lookup t x i ok => match τ.get t with
    | some ti => match ti.kd, ev Γ x with
      | .map kt e, .map m => match τ.get kt, τ.get e with
        | some tk,some te=>cnd (isKey tk.kd) (lkA te tk.kd h m (ev Γ i) fun f v b=>K f (cnd (ok) (.tuple #[v, .bool b]) (v))) (False)
        | _,_=>False
      | _,_=>False
    | none=>False
  | .extract x i => match ev Γ x with
    | .tuple vs => match vs.toList.drop i with
      | v::_=>K (fun _=>True) v
      | []=>False
    | _=>False
  | .call { callee := .builtin b, args, argTypes } =>
    match b,args.toList,argTypes.toList with
    | .len, [x], [t] => match τ.get t with
      | some ti => match ti.kd, ev Γ x with
        | .str, .string s=>K (fun _=>True) (.int .i64 s.size)
        | .slice _, .slice _ n _=>K (fun _=>True) (.int .i64 n)
        | .map _ _, .map m=>lnM h m fun f n=>K f (.int .i64 n)
        | .arr n _,_=>K (fun _=>True) (.int .i64 n)
        | _,_=>False
      | none=>False
    | .cap, [x], [t] => match τ.get t with
      | some ti => match ti.kd, ev Γ x with
        | .slice _, .slice _ _ c=>K (fun _=>True) (.int .i64 c)
        | _,_=>False
      | none=>False
    | .min, [x, y], _ => match ev Γ x, ev Γ y with
      | .int k a, .int _ b=>K (fun _=>True) (.int k (if b<a then b else a))
      | _,_=>False
    | .max, [x, y], _ => match ev Γ x, ev Γ y with
      | .int k a, .int _ b=>K (fun _=>True) (.int k (if b>a then b else a))
      | _,_=>False
    | _,_,_=>False
  | _=>False
abbrev opC (τ : Tys) (σ cl : Specs) (rt : Nat) (o : Op) (Γ : Env) (h : Hp) (K : Value → Hp → Prop) : Prop :=
  match o with
  | .alloc e => match τ.get e with
    | some te=>K (.pointer (some ⟨h.size,0,none⟩)) (h.push (.cells te.zero.cells e (0,0)))
    | none=>False
  | .box e x=>K (.pointer (some ⟨h.size,0,none⟩)) (h.push (.cells (ev Γ x).cells e (0,0)))
  | .buildSlice t n ps => match τ.get t with
    | some ti => match ti.kd with
      | .slice e => match τ.get e with
        | some te=>cnd (Nat.ble (n*te.size) 16777216) (fillL (fun i=>some (i*te.size,te.size)) (ps.toList.map fun p=>(p.1,ev Γ p.2)) (zeros te.zero n) fun cs=>
              K (.slice (some ⟨h.size,0,none⟩) n n) (h.push (.cells cs.toArray e (0,0)))) (False)
        | none=>False
      | _=>False
    | none=>False
  | .store t a x => match ev Γ a with
    | .pointer (some p) => match τ.get t with
      | some ti=>cnd (Nat.beq (ev Γ x).cells.toList.length ti.size) (stAll h p 0 (ev Γ x).cells.toList fun h'=>K undef h') (False)
      | none=>False
    | _=>False
  | .convert s d x => match τ.get s, τ.get d with
    | some ts, some td => match ts.kd, td.kd, ev Γ x with
      | .str, .slice e, .string b => match τ.get e with
        | some te => match te.kd with
          | .int .u8=>s2b e h b fun s h'=>K (.slice s.a s.len s.cap) h'
          | _=>False
        | none=>False
      | _,_,_=>False
    | _,_=>False
  | .makeMap _ none=>K (.map (some h.size)) (h.push (.map #[] 0))
  | .makeMap t (some x) => match τ.get t, ev Γ x with
    | some ti, .int _ _ => match ti.kd with
      | .map _ _=>K (.map (some h.size)) (h.push (.map #[] 0))
      | _=>False
    | _,_=>False
  | .makeSlice t l c => match τ.get t, ev Γ l, ev Γ c with
    | some ti, .int _ i, .int _ j => match ti.kd with
      | .slice e => match τ.get e with
        | some te=>mkW e te.size te.bytes te.zero h i j fun s h'=>K (.slice s.a s.len s.cap) h'
        | none=>False
      | _=>False
    | _,_,_=>False
  | .mapUpdate t m k x => match τ.get t with
    | some ti => match ti.kd, ev Γ m with
      | .map kt _, .map r => match τ.get kt with
        | some tk=>cnd (isKey tk.kd) (muW tk.kd h r (ev Γ k) (ev Γ x) fun h'=>K undef h') (False)
        | none=>False
      | _,_=>False
    | none=>False
  | .call { callee := .builtin b, args, argTypes } =>
    match b,args.toList,argTypes.toList with
    | .append, [s, x], [t, u] => match τ.get t, τ.get u, ev Γ s with
      | some ti, some tu, .slice a n c => match ti.kd with
        | .slice e => match τ.get e with
          | some te => match tu.kd, ev Γ x with
            | .slice _, .slice b m d=>apW e te.size te.bytes te.zero h ⟨a,n,c⟩ ⟨b,m,d⟩ fun s h'=>K (.slice s.a s.len s.cap) h'
            | .str, .string y=>cnd (Nat.beq te.size 1) (apT e te.size te.bytes te.zero h ⟨a,n,c⟩ y fun s h'=>K (.slice s.a s.len s.cap) h') (False)
            | .int _, .int _ m=>apZ e te.size te.bytes te.zero h ⟨a,n,c⟩ m fun s h'=>K (.slice s.a s.len s.cap) h'
            | _,_=>False
          | none=>False
        | _=>False
      | _,_,_=>False
    | .copy, [d, x], (t :: _) => match τ.get t, ev Γ d, ev Γ x with
      | some ti, .slice a n c, .slice b m e => match ti.kd with
        | .slice el => match τ.get el with
          | some te=>cpW te.size h ⟨a,n,c⟩ ⟨b,m,e⟩ fun n h'=>K (.int .i64 n) h'
          | none=>False
        | _=>False
      | _,_,_=>False
    | .clear, [x], (t :: _) => match τ.get t with
      | some ti => match ti.kd, ev Γ x with
        | .slice e, .slice a n c => match τ.get e with
          | some te=>clW te.zero h ⟨a,n,c⟩ fun h'=>K undef h'
          | none=>False
        | _,_=>False
      | none=>False
    | .delete, [m, k], (t :: _) => match τ.get t with
      | some ti => match ti.kd, ev Γ m with
        | .map kt _, .map r => match τ.get kt with
          | some tk=>cnd (isKey tk.kd) (dlW tk.kd h r (ev Γ k) fun h'=>K undef h') (False)
          | none=>False
        | _,_=>False
      | none=>False
    | _,_,_=>False
  | .call { callee := .value (.func f), args, argTypes := _ } => match σ.get f with
    | some S=>S (args.toList.map (ev Γ)) h K
    | none=>False
  | .call { callee := .value x, args, argTypes := _ } => match τ.get rt with
    | some ti=>phi cl (ev Γ x) (args.toList.map (ev Γ)) h fun v h'=>isA ti v fun v=>K v h'
    | none=>False
  | _=>False
def isR:Op→Bool
  | .move _ | .assign _ | .pick .. | .build .. | .load .. | .nilCheck _ | .binOp .. | .unOp .. | .makeFunc .. | .makeInterface .. | .slice .. | .fieldAddr .. | .field .. | .indexAddr .. | .index ..
  | .lookup .. | .extract .. =>true
  | .call {callee:= .builtin .len, ..} | .call {callee:= .builtin .cap, ..} | .call {callee:= .builtin .min, ..} | .call {callee:= .builtin .max, ..}=>true
  | _=>false
def readsConv (τ : Tys) : Op → Bool
  | .convert _ d _ => match τ.get d with
    | some td => match td.kd with
      | .slice _=>false
      | _=>true
    | none=>true
  | _=>false
abbrev opW (τ:Tys) (σ cl:Specs) (rt:Nat) (o:Op) (Γ:Env) (h:Hp) (K:Value→Hp→Prop):Prop:=
  cnd (isR o || readsConv τ o) (opR τ o Γ h fun _ v=>K v h) (opC τ σ cl rt o Γ h K)
end Go.Wc
