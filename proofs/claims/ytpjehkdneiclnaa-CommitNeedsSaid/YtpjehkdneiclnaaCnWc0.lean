import Derived.OrdersHeld
import Derived.Scope
set_option linter.unusedSimpArgs false
set_option linter.unusedVariables false
namespace Go.Wc
abbrev Hp:=Array Obj
abbrev Env:=List (Nat × Value)
structure Sl where
  a:Option Addr
  len:Nat
  cap:Nat
abbrev cnd {α:Sort _} (b:Bool) (x y:α):α:=match b with | true=>x | false=>y
@[simp] theorem cnd_true {α:Sort _} (x y:α):cnd true x y=x:=rfl
@[simp] theorem cnd_false {α:Sort _} (x y:α):cnd false x y=y:=rfl
def hcell (h:Hp) (a:Addr):Option Value:=
  match h[a.block]? with
  | some (.cells c _ _)=>if a.spot.isSome then none else c[a.off]?
  | _=>none
def hfrz (h:Hp) (a:Addr):Bool:=
  match h[a.block]? with
  | some (.cells _ _ (lo,hi))=>lo≤a.off && a.off<hi
  | _=>false
def hset (h:Hp) (a:Addr) (v:Value):Hp:=
  h.modify a.block fun
      | .cells c elem frozen=> .cells (if a.spot.isSome then c else c.setIfInBounds a.off v) elem frozen
      | o=>o
theorem cell_eq (w:World) (a:Addr):w.cell? a=hcell w.heap a:=rfl
theorem frz_eq (w:World) (a:Addr):w.frozen? a=hfrz w.heap a:=rfl
theorem set_eq (w:World) (a:Addr) (v:Value):(w.setCell a v).heap=hset w.heap a v:=rfl
def Env.find:Env→Nat→Option Value
  | [],_=>none
  | (k,v)::r,n=>bif Nat.beq k n then some v else Env.find r n
def present (Γ:Env):Operand→Bool
  | .tmp t=>(Env.find Γ t).isSome
  | _=>true
def ev (Γ:Env):Operand→Value
  | .tmp t=>(Env.find Γ t).getD undef
  | .const v=>v
  | .global g=> .pointer (some ⟨g,0,none⟩)
  | .func f=> .func (.func f) #[] #[]
def put (dst:Option Nat) (v:Value) (Γ:Env):Env:=
  match dst with
  | some d=>(d,v)::Γ
  | none=>Γ
inductive CK where
  | int (k:IntKind) | bool | str | ptr | sl | map | any | lump (k:IntKind) (n:Nat)
def ckn:CK→Nat
  | .lump _ n=>n
  | _=>1
def ckns:List CK→Nat
  | []=>0
  | c::r=>ckn c+ckns r
def nrmF (l:List Int):Nat→Nat→List Int
  | 0,_=>[]
  | n+1,i=>l.getD i 0::nrmF l n (i+1)
abbrev nrm (n:Nat) (l:List Int):List Int:=nrmF l n 0
def lumpV (k:IntKind) (n:Nat) (l:List Int):List Value:=(nrm n l).map (Value.int k)
theorem nrmF_length (l:List Int): ∀ n i,(nrmF l n i).length=n
  | 0,_=>rfl
  | n+1,i=>by simp [nrmF,nrmF_length l n]
theorem nrmF_get (l:List Int): ∀ n i j,j<n→(nrmF l n i)[j]? =some (l.getD (i+j) 0)
  | n+1,i,0,_=>by simp [nrmF]
  | n + 1, i, j + 1, h => by
    simp only [nrmF,List.getElem?_cons_succ]
    rw [nrmF_get l n (i+1) j (by omega)]
    congr 2; omega
theorem nrm_eq {n:Nat} {l:List Int} (h:l.length=n):nrm n l=l:=by
  apply List.ext_getElem?
  intro j
  by_cases hj:j<n
  · rw [nrmF_get l n 0 j hj, Nat.zero_add]
    simp [List.getD_eq_getElem?_getD,List.getElem?_eq_getElem (h ▸ hj)]
  · rw [List.getElem?_eq_none (by rw [nrmF_length]; omega),List.getElem?_eq_none (by omega)]
theorem nrm_length (n:Nat) (l:List Int):(nrm n l).length=n:=nrmF_length l n 0
theorem nrm_nrm (n:Nat) (l:List Int):nrm n (nrm n l)=nrm n l:=nrm_eq (nrm_length n l)
theorem lumpV_length (k:IntKind) (n:Nat) (l:List Int):(lumpV k n l).length=n:=by simp [lumpV,nrm_length]
def intsOk (k:IntKind):Nat→List Value→Bool
  | 0,[]=>true
  | n+1, .int k' _::r=>decide (k'=k) && intsOk k n r
  | _,_=>false
def unInts:List Value→List Int
  | .int _ x::r=>x::unInts r
  | _=>[]
theorem intsOk_eq {k:IntKind}: ∀ {n:Nat} {vs:List Value},intsOk k n vs=true→vs=(unInts vs).map (Value.int k)∧vs.length=n
  | 0,[],_=>⟨rfl,rfl⟩
  | 0,_::_,h=>by simp [intsOk] at h
  | n+1,[],h=>by simp [intsOk] at h
  | n + 1, v :: r, h => by
    cases v with
    | int k' x =>
      simp only [intsOk,Bool.and_eq_true,decide_eq_true_eq] at h
      obtain ⟨rfl,h⟩:=h
      obtain ⟨h1,h2⟩:=intsOk_eq h
      exact ⟨by simp only [unInts,List.map_cons]; rw [← h1],by simp [h2]⟩
    | _=>simp [intsOk] at h
abbrev shape:CK→(Value→Prop)→Prop
  | .int k,K=> ∃ n:Int,K (.int k n)
  | .bool,K=> ∃ b:Bool,K (.bool b)
  | .str,K=> ∃ s:ByteArray,K (.string s)
  | .ptr,K=> ∃ p:Option Addr,K (.pointer p)
  | .sl,K=> ∃ s:Sl,K (.slice s.a s.len s.cap)
  | .map,K=> ∃ m:Option Nat,K (.map m)
  | .any,K=> ∃ v:Value,K v
  | .lump _ _,_=>False
theorem shape_elim {c:CK} {K:Value→Prop} (h:shape c K): ∃ v,K v:=by
  cases c <;> first | exact h.elim | (obtain ⟨x,hx⟩:=h; exact ⟨_,hx⟩)
inductive Kd where
  | bool | int (k:IntKind) | str | ptr (e:Nat) | slice (e:Nat) | arr (n e:Nat) | map (k e:Nat)
  | struct (fs:List (Nat × Nat)) | func | iface | other
def kdOf:TypeDesc→Kd
  | .bool=> .bool
  | .int k=> .int k
  | .string=> .str
  | .pointer e=> .ptr e
  | .slice e=> .slice e
  | .array n e=> .arr n e
  | .map k e=> .map k e
  | .struct fs=> .struct (fs.toList.map fun f=>(f.type,f.offset))
  | .func _ _ _=> .func
  | .interface _=> .iface
  | _=> .other
structure TI where
  kd:Kd
  size:Nat
  bytes:Nat
  zero:Value
  cks:List CK
  eq:Bool
def eqOf (P:Program) (t:Nat) (d:TypeDesc):Bool:=
  match d with
  | .struct fs=>fs.toList.all (fun f=>f.name != "_") && !P.stoodInHeld t && !P.eqGuardType P.depth t
  | .array _ _=> !P.eqGuardType P.depth t
  | _=>true
def tiOf (P:Program) (t:Nat):Option (Kd × Nat × Nat × Value × Bool):=
  match P.info? t,P.underlying t with
  | some i,some d=>i.zero.map fun z=>(kdOf d,i.size,i.bytes,z,eqOf P t d)
  | _,_=>none
abbrev Tys:=List (Nat × TI)
def Tys.get:Tys→Nat→Option TI
  | [],_=>none
  | (k,v)::r,n=>bif Nat.beq k n then some v else Tys.get r n
def Agrees (P:Program) (t:Nat) (ti:TI):Prop:=
  tiOf P t=some (ti.kd,ti.size,ti.bytes,ti.zero,ti.eq)∧ti.zero.cells.size=ti.size
def Agree (P:Program) (τ:Tys):Prop:= ∀ t ti,τ.get t=some ti→Agrees P t ti
theorem agree_of (P:Program): ∀ τ:Tys,(τ.map (fun p=>tiOf P p.1)=τ.map (fun p=>some (p.2.kd,p.2.size,p.2.bytes,p.2.zero,p.2.eq)))→
    (τ.map (fun p=>p.2.zero.cells.size)=τ.map (fun p=>p.2.size))→Agree P τ
  | [],_,_=>fun t ti h=>by simp [Tys.get] at h
  | (k, v) :: r, h, h2 => by
    simp only [List.map_cons,List.cons.injEq] at h h2
    intro t ti ht
    simp only [Tys.get] at ht
    cases hk:Nat.beq k t with
    | true =>
      rw [hk] at ht; simp only [cond_true,Option.some.injEq] at ht; subst ht
      have:k=t:=by simpa using hk
      subst this; exact ⟨h.1,h2.1⟩
    | false=>rw [hk] at ht; exact agree_of P r h.2 h2.2 t ti ht
def br (b:Bool) (A B:Prop):Prop:=match b with | true=>A | false=>B
@[simp] theorem br_true (A B:Prop):br true A B=A:=propext ⟨fun h=>h,fun h=>h⟩
@[simp] theorem br_false (A B:Prop):br false A B=B:=propext ⟨fun h=>h,fun h=>h⟩
theorem br_iff {b:Bool} {A B:Prop}:br b A B↔(b=true→A)∧(b=false→B):=by cases b <;> simp [br]
abbrev brA (b:Bool) (A B:Prop):Prop:=match b with | true=>A | false=>B
theorem brA_eq (b:Bool) (A B:Prop):brA b A B=br b A B:=by cases b <;> rfl
def nilW (p:Option Addr) (K:Addr→Prop):Prop:=match p with | some a=>K a | none=>False
@[simp] theorem nilW_some (a:Addr) (K:Addr→Prop):nilW (some a) K=K a:=propext ⟨fun h=>h,fun h=>h⟩
def ldI (k:IntKind) (h:Hp) (a:Addr) (K:Int→Prop):Prop:= ∃ n:Int,hcell h a=some (.int k n)∧K n
def ldB (h:Hp) (a:Addr) (K:Bool→Prop):Prop:= ∃ b:Bool,hcell h a=some (.bool b)∧K b
def ldT (h:Hp) (a:Addr) (K:ByteArray→Prop):Prop:= ∃ s:ByteArray,hcell h a=some (.string s)∧K s
def ldP (h:Hp) (a:Addr) (K:Option Addr→Prop):Prop:= ∃ p:Option Addr,hcell h a=some (.pointer p)∧K p
def ldS (h:Hp) (a:Addr) (K:Sl→Prop):Prop:= ∃ s:Sl,hcell h a=some (.slice s.a s.len s.cap)∧K s
def ldM (h:Hp) (a:Addr) (K:Option Nat→Prop):Prop:= ∃ m:Option Nat,hcell h a=some (.map m)∧K m
def ldV (h:Hp) (a:Addr) (K:Value→Prop):Prop:= ∃ v:Value,hcell h a=some v∧K v
abbrev ldC:CK→Hp→Addr→((Hp→Prop)→Value→Prop)→Prop
  | .int k,h,a,K=>ldI k h a fun n=>K (fun h'=>hcell h' a=some (.int k n)) (.int k n)
  | .bool,h,a,K=>ldB h a fun n=>K (fun h'=>hcell h' a=some (.bool n)) (.bool n)
  | .str,h,a,K=>ldT h a fun n=>K (fun h'=>hcell h' a=some (.string n)) (.string n)
  | .ptr,h,a,K=>ldP h a fun n=>K (fun h'=>hcell h' a=some (.pointer n)) (.pointer n)
  | .sl,h,a,K=>ldS h a fun n=>K (fun h'=>hcell h' a=some (.slice n.a n.len n.cap)) (.slice n.a n.len n.cap)
  | .map,h,a,K=>ldM h a fun n=>K (fun h'=>hcell h' a=some (.map n)) (.map n)
  | .any,h,a,K=>ldV h a fun v=>K (fun h'=>hcell h' a=some v) v
  | .lump _ _,_,_,_=>False
def lfact (k:IntKind) (n:Nat) (l:List Int) (a:Addr) (h:Hp):Prop:= ∀ i,i<n→hcell h (a.add i)=some (.int k (l.getD i 0))
def ldL (k:IntKind) (n:Nat) (h:Hp) (a:Addr) (K:List Int→Prop):Prop:= ∃ l:List Int,l.length=n∧lfact k n l a h∧K l
theorem ldC_elim {c:CK} {h:Hp} {a:Addr} {K:(Hp→Prop)→Value→Prop} (H:ldC c h a K):
    ∃ v,hcell h a=some v∧K (fun h'=>hcell h' a=some v) v:=by
  cases c <;> first | exact H.elim | (obtain ⟨n,h1,h2⟩:=H; exact ⟨_,h1,h2⟩)
abbrev ldCs:List CK→Hp→Addr→Nat→((Hp→Prop)→List Value→Prop)→Prop
  | [],_,_,_,K=>K (fun _=>True) []
  | c :: cs, h, a, i, K => match c with
    | .lump k n=>ldL k n h (a.add i) fun l=>ldCs cs h a (i+n) fun g vs=>K (fun h'=>lfact k n l (a.add i) h'∧g h') (lumpV k n l++vs)
    | c=>ldC c h (a.add i) fun f v=>ldCs cs h a (i+1) fun g vs=>K (fun h'=>f h'∧g h') (v::vs)
def st (h:Hp) (a:Addr) (v:Value) (K:Hp→Prop):Prop:=(∃ u,hcell h a=some u)∧hfrz h a=false∧K (hset h a v)
abbrev stV (h:Hp) (a:Addr) (v:Value) (K:Hp→Prop):Prop:=
  match v with
  | .agg _=>False
  | .tuple _=>False
  | v=>st h a v K
abbrev stAll (h:Hp) (a:Addr) (i:Nat):List Value→(Hp→Prop)→Prop
  | [],K=>K h
  | v::vs,K=>stV h (a.add i) v fun h'=>stAll h' a (i+1) vs K
def ixW (base:Option Addr) (len:Nat) (i:Int) (size:Nat) (K:Addr→Prop):Prop:=
  ∃ a,base=some a∧(0≤i∧i<(len:Int))∧K (a.add (i.toNat*size))
def slW (s : Sl) (lo hi : Int) (size : Nat) (K : Sl → Prop) : Prop :=
  (0≤hi∧hi≤(s.cap:Int))∧(0≤lo∧lo≤hi)∧
    K ⟨if s.cap=lo.toNat then s.a else s.a.map (·.add (lo.toNat*size)),hi.toNat - lo.toNat,s.cap - lo.toNat⟩
def slX (s : Sl) (lo hi mx : Int) (size : Nat) (K : Sl → Prop) : Prop :=
  (0≤mx∧mx≤(s.cap:Int))∧(0≤hi∧hi≤mx)∧(0≤lo∧lo≤hi)∧
    K ⟨if mx.toNat=lo.toNat then s.a else s.a.map (·.add (lo.toNat*size)),hi.toNat - lo.toNat,mx.toNat - lo.toNat⟩
def stW (s:ByteArray) (lo hi:Int) (K:ByteArray→Prop):Prop:=
  (0≤hi∧hi≤(s.size:Int))∧(0≤lo∧lo≤hi)∧K (s.extract lo.toNat hi.toNat)
def cellsAt (h:Hp) (a:Option Addr) (n:Nat) (vs:List Value):Prop:=
  match a with
  | none=>vs=[]
  | some a=>vs.length=n∧ ∀ i,(hi:i<vs.length)→hcell h (a.add i)=some vs[i]
def zeros (z:Value) (n:Nat):List Value:=(List.replicate n z.cells.toList).flatten
set_option linter.unusedVariables false in
def apV (T size bytes : Nat) (z : Value) (h : Hp) (s : Sl) (n : Nat) (new : List Value) (K : Sl → Hp → Prop) : Prop :=
  if s.len+n≤s.cap then
    match s.a with
    | some a=>stAll h (a.add (s.len*size)) 0 new fun h'=>K ⟨s.a,s.len+n,s.cap⟩ h'
    | none=>K ⟨none,s.len+n,s.cap⟩ h
  else
    bytes ≠ 0∧Builtin.nextslicecap (s.len+n) s.cap*bytes≤2 ^ 48∧ ∃ old,cellsAt h s.a (s.len*size) old∧
      ∀ c,s.len+n≤c→K ⟨some ⟨h.size,0,none⟩,s.len+n,c⟩ (h.push (.cells (old++new++zeros z (c - (s.len+n))).toArray T (0,0)))
def apW (T size bytes:Nat) (z:Value) (h:Hp) (s x:Sl) (K:Sl→Hp→Prop):Prop:=
  ∃ new,cellsAt h x.a (x.len*size) new∧apV T size bytes z h s x.len new K
def byteVals (s:ByteArray):List Value:=s.data.toList.map fun b=> .int .u8 b.toNat
def apT (T size bytes:Nat) (z:Value) (h:Hp) (s:Sl) (x:ByteArray) (K:Sl→Hp→Prop):Prop:=
  apV T size bytes z h s x.size (byteVals x) K
def apZ (T size bytes:Nat) (z:Value) (h:Hp) (s:Sl) (n:Int) (K:Sl→Hp→Prop):Prop:=
  0≤n∧n*bytes≤2 ^ 48∧((s.len+n.toNat:Nat):Int)≤IntKind.i64.max∧apV T size bytes z h s n.toNat (zeros z n.toNat) K
def cpW (size : Nat) (h : Hp) (d x : Sl) (K : Int → Hp → Prop) : Prop :=
  ∃ new, cellsAt h x.a (min x.len d.len * size) new ∧
    match d.a with
    | some a=>stAll h a 0 new fun h'=>K (min x.len d.len:Nat) h'
    | none=>K (min x.len d.len:Nat) h
def clW (z:Value) (h:Hp) (s:Sl) (K:Hp→Prop):Prop:=
  match s.a with
  | none=>K h
  | some a=>stAll h a 0 (zeros z s.len) K
set_option linter.unusedVariables false in
def mkW (T size bytes : Nat) (z : Value) (h : Hp) (len cap : Int) (K : Sl → Hp → Prop) : Prop :=
  (0≤len∧len≤cap∧cap*bytes≤2 ^ 48)∧cap≤IntKind.i64.max∧
    K ⟨some ⟨h.size,0,none⟩,len.toNat,cap.toNat⟩ (h.push (.cells (zeros z cap.toNat).toArray T (0,0)))
def sameK:Kd→Value→Value→Option Bool
  | .int _, .int k a, .int k' b=>if k=k' then some (a==b) else none
  | .str, .string a, .string b=>some (a==b)
  | .bool, .bool a, .bool b=>some (a==b)
  | _,_,_=>none
def mfind (kd : Kd) (k : Value) : List MapEntry → Nat → Option (Option (Nat × Value))
  | [],_=>some none
  | e :: es, i =>
    match sameK kd k e.key with
    | some true=>some (some (i,e.val))
    | some false=>mfind kd k es (i+1)
    | none=>none
def lkW (kd:Kd) (h:Hp) (m:Option Nat) (key:Value) (K:(Hp→Prop)→Option Value→Prop):Prop:=
  match m with
  | none=>K (fun _=>True) none
  | some r=> ∃ es clock,h[r]? =some (.map es clock)∧ ∃ o,mfind kd key es.toList 0=some o∧
      K (fun h'=> ∃ es' clock' o',h'[r]? =some (.map es' clock')∧mfind kd key es'.toList 0=some o'∧o'.map (·.2)=o.map (·.2)) (o.map (·.2))
abbrev shapes:List CK→(List Value→Prop)→Prop
  | [],K=>K []
  | c :: cs, K => match c with
    | .lump k n=> ∃ l:List Int,shapes cs fun vs=>K (lumpV k n l++vs)
    | c=>shape c fun v=>shapes cs fun vs=>K (v::vs)
def isAgg:Kd→Bool
  | .struct _=>true
  | .arr _ _=>true
  | _=>false
abbrev isA (ti:TI) (v:Value) (K:Value→Prop):Prop:=
  cnd (isAgg ti.kd) (shapes ti.cks fun vs=>v= .agg vs.toArray∧K (.agg vs.toArray)) (match ti.cks with
    | c::_=>shape c fun u=>v=u∧K u
    | []=>False)
abbrev lkA (ti:TI) (kd:Kd) (h:Hp) (m:Option Nat) (key:Value) (K:(Hp→Prop)→Value→Bool→Prop):Prop:=
  lkW kd h m key fun f o=>isA ti (o.getD ti.zero) fun v=>K f v o.isSome
def muO (es:Array MapEntry) (clock:Nat) (key val:Value):Option (Nat × Value)→Obj
  | some (i,_)=> .map (es.modify i fun e=> {e with key,val}) clock
  | none=> .map (es.push {key,val,born:=clock}) (clock+1)
def muW (kd:Kd) (h:Hp) (m:Option Nat) (key val:Value) (K:Hp→Prop):Prop:=
  ∃ r,m=some r∧ ∃ es clock,h[r]? =some (.map es clock)∧ ∃ o,mfind kd key es.toList 0=some o∧K (h.setIfInBounds r (muO es clock key val o))
def dlO (es:Array MapEntry) (clock:Nat):Option (Nat × Value)→Obj
  | some (i,_)=> .map (es.eraseIdxIfInBounds i) clock
  | none=> .map es clock
def dlW (kd:Kd) (h:Hp) (m:Option Nat) (key:Value) (K:Hp→Prop):Prop:=
  match m with
  | none=>K h
  | some r=> ∃ es clock,h[r]? =some (.map es clock)∧ ∃ o,mfind kd key es.toList 0=some o∧K (h.setIfInBounds r (dlO es clock o))
def lnM (h:Hp) (m:Option Nat) (K:(Hp→Prop)→Int→Prop):Prop:=
  match m with
  | none=>K (fun _=>True) 0
  | some r=> ∃ es clock,h[r]? =some (.map es clock)∧K (fun h'=> ∃ es' clock',h'[r]? =some (.map es' clock')∧es'.size=es.size) es.size
def s2b (T:Nat) (h:Hp) (s:ByteArray) (K:Sl→Hp→Prop):Prop:=
  ∀ c,s.size≤c→K ⟨some ⟨h.size,0,none⟩,s.size,c⟩ (h.push (.cells (byteVals s++List.replicate (c - s.size) (Value.int .u8 0)).toArray T (c,c+1)))
def b2s (h:Hp) (s:Sl) (K:(Hp→Prop)→ByteArray→Prop):Prop:=
  match s.a with
  | none=>K (fun _=>True) .empty
  | some a=> ∃ bs:ByteArray,cellsAt h (some a) s.len (byteVals bs)∧K (fun h'=>cellsAt h' (some a) s.len (byteVals bs)) bs
end Go.Wc
