import Derived.OrdersHeld
import Derived.Scope
import Derived.Laws.Sem
import Derived.Laws.Cells
import Derived.Laws.Entries
import Derived.Tactics
import Derived.KernelRfl
import Derived.MapKept
set_option linter.unusedVariables false
set_option linter.unusedSimpArgs false
set_option maxHeartbeats 4000000
set_option maxRecDepth 100000
namespace Go.Wc
abbrev Hp:=Array Obj
abbrev Env:=List (Nat × Value)
structure Sl where
 a:Option Addr
 len:Nat
 cap:Nat
abbrev cnd {α:Sort _} (b:Bool) (x y:α):α:=match b with | true=>x | false=>y
@[simp] theorem PK {α:Sort _} (x y:α):cnd true x y=x:=rfl
@[simp] theorem Po {α:Sort _} (x y:α):cnd false x y=y:=rfl
def hcell (h:Hp) (a:Addr):Option Value:=
 match h[a.block]? with
 | some (.cells c _ _)=>if a.spot.isSome then none else c[a.off]?
 | _=>none
def hfrz (h:Hp) (a:Addr):Bool:=
 match h[a.block]? with
 | some (.cells _ _ (lo,hi))=>lo<=a.off && a.off<hi
 | _=>false
def hset (h:Hp) (a:Addr) (v:Value):Hp:=
 h.modify a.block fun
   | .cells c elem frozen=> .cells (if a.spot.isSome then c else c.setIfInBounds a.off v) elem frozen
   | o=>o
theorem Bo (w:World) (a:Addr):w.cell? a=hcell w.heap a:=rfl
theorem LV (w:World) (a:Addr):w.frozen? a=hfrz w.heap a:=rfl
def Env.find:Env->Nat->Option Value
 | [],_=>none
 | (k,v)::r,n=>bif Nat.beq k n then some v else Env.find r n
def present (Γ:Env):Operand->Bool
 | .tmp t=>(Env.find Γ t).isSome
 | _=>true
def ev (Γ:Env):Operand->Value
 | .tmp t=>(Env.find Γ t).getD undef
 | .const v=>v
 | .global g=> .pointer (some ⟨g,0,none⟩)
 | .func f=> .func (.func f) #[] #[]
def put (dst:Option Nat) (v:Value) (Γ:Env):Env:=
 match dst with
 | some d=>(d,v)::Γ
 | none=>Γ
inductive CK where
 | int (k:IntKind) | bool | str | ptr | sl | map | any | lump (k:IntKind) (n:Nat)
def ckn:CK->Nat
 | .lump _ n=>n
 | _=>1
def ckns:List CK->Nat
 | []=>0
 | c::r=>ckn c+ckns r
def nrmF (l:List Int):Nat->Nat->List Int
 | 0,_=>[]
 | n+1,i=>l.getD i 0::nrmF l n (i+1)
abbrev nrm (n:Nat) (l:List Int):List Int:=nrmF l n 0
def lumpV (k:IntKind) (n:Nat) (l:List Int):List Value:=(nrm n l).map (Value.int k)
theorem kG (l:List Int): ∀ n i,(nrmF l n i).length=n
 | 0,_=>rfl
 | n+1,i=>by simp [nrmF,kG l n]
theorem qw (l:List Int): ∀ n i j,j<n->(nrmF l n i)[j]? =some (l.getD (i+j) 0)
 | n+1,i,0,_=>by simp [nrmF]
 | n+1,i,j+1,h=>by simp only [nrmF,List.getElem?_cons_succ];rw [qw l n (i+1) j (by omega)];congr 2; omega
theorem kH {n:Nat} {l:List Int} (h:l.length=n):nrm n l=l:=by
 apply List.ext_getElem?;intro j
 by_cases hj:j<n
 ·rw [qw l n 0 j hj,Nat.zero_add]
  simp [List.getD_eq_getElem?_getD,List.getElem?_eq_getElem (h ▸ hj)]
 ·rw [List.getElem?_eq_none (by rw [kG]; omega),List.getElem?_eq_none (by omega)]
theorem mu (n:Nat) (l:List Int):(nrm n l).length=n:=kG l n 0
theorem cm (k:IntKind) (n:Nat) (l:List Int):(lumpV k n l).length=n:=by simp [lumpV,mu]
def intsOk (k:IntKind):Nat->List Value->Bool
 | 0,[]=>true
 | n+1, .int k' _::r=>decide (k'=k) && intsOk k n r
 | _,_=>false
def unInts:List Value->List Int
 | .int _ x::r=>x::unInts r
 | _=>[]
theorem lI {k:IntKind}: ∀ {n:Nat} {vs:List Value},intsOk k n vs=true->vs=(unInts vs).map (Value.int k)/\vs.length=n
 | 0,[],_=>⟨rfl,rfl⟩
 | 0,_::_,h=>by simp [intsOk] at h
 | n+1,[],h=>by simp [intsOk] at h
 | n+1,v::r,h=>by
  cases v with
  | int k' x=>
   simp only [intsOk,Bool.and_eq_true,decide_eq_true_eq] at h;obtain ⟨rfl,h⟩:=h;obtain ⟨h1,h2⟩:=lI h
   exact ⟨by simp only [unInts,List.map_cons]; rw [<- h1],by simp [h2]⟩
  | _=>simp [intsOk] at h
abbrev shape:CK->(Value->Prop)->Prop
 | .int k,K=> ∃ n:Int,K (.int k n)
 | .bool,K=> ∃ b:Bool,K (.bool b)
 | .str,K=> ∃ s:ByteArray,K (.string s)
 | .ptr,K=> ∃ p:Option Addr,K (.pointer p)
 | .sl,K=> ∃ s:Sl,K (.slice s.a s.len s.cap)
 | .map,K=> ∃ m:Option Nat,K (.map m)
 | .any,K=> ∃ v:Value,K v
 | .lump _ _,_=>False
theorem qx {c:CK} {K:Value->Prop} (h:shape c K): ∃ v,K v:=by cases c <;> first | exact h.elim | (obtain ⟨x,hx⟩:=h; exact ⟨_,hx⟩)
inductive Kd where
 | bool | int (k:IntKind) | str | ptr (e:Nat) | slice (e:Nat) | arr (n e:Nat) | map (k e:Nat)
 | struct (fs:List (Nat × Nat)) | func | iface | other
def kdOf:TypeDesc->Kd
 | .bool=> .bool
 | .int k=> .int k
 | .string=> .str
 | .pointer e=> .ptr e
 | .slice e=> .slice e
 | .array n e=> .arr n e
 | .map k e=> .map k e
 | .struct fs=> .struct (fs.toList.map fun f=>(f.type,f.offset))
 | .func _ _ _=> .func
 | .interface _=> .iface
 | _=> .other
structure TI where
 kd:Kd
 size:Nat
 bytes:Nat
 zero:Value
 gC:List CK
 eq:Bool
def eqOf (P:Program) (t:Nat) (d:TypeDesc):Bool:=
 match d with
 | .struct fs=>fs.toList.all (fun f=>f.name != "_") && !P.stoodInHeld t && !P.eqGuardType P.depth t
 | .array _ _=> !P.eqGuardType P.depth t
 | _=>true
def tiOf (P:Program) (t:Nat):Option (Kd × Nat × Nat × Value × Bool):=
 match P.info? t,P.underlying t with
 | some i,some d=>i.zero.map fun z=>(kdOf d,i.size,i.bytes,z,eqOf P t d)
 | _,_=>none
abbrev Tys:=List (Nat × TI)
def Tys.get:Tys->Nat->Option TI
 | [],_=>none
 | (k,v)::r,n=>bif Nat.beq k n then some v else Tys.get r n
def Agrees (P:Program) (t:Nat) (ti:TI):Prop:=
 tiOf P t=some (ti.kd,ti.size,ti.bytes,ti.zero,ti.eq)/\ti.zero.cells.size=ti.size
def Agree (P:Program) (τ:Tys):Prop:= ∀ t ti,τ.get t=some ti->Agrees P t ti
theorem qy (P:Program): ∀ τ:Tys,(τ.map (fun p=>tiOf P p.1)=τ.map (fun p=>some (p.2.kd,p.2.size,p.2.bytes,p.2.zero,p.2.eq)))->
  (τ.map (fun p=>p.2.zero.cells.size)=τ.map (fun p=>p.2.size))->Agree P τ
 | [],_,_=>fun t ti h=>by simp [Tys.get] at h
 | (k,v)::r,h,h2=>by
  simp only [List.map_cons,List.cons.injEq] at h h2;intro t ti ht;simp only [Tys.get] at ht
  cases hk:Nat.beq k t with
  | true=>
   rw [hk] at ht; simp only [cond_true,Option.some.injEq] at ht; subst ht;have:k=t:=by simpa using hk
   subst this; exact ⟨h.1,h2.1⟩
  | false=>rw [hk] at ht; exact qy P r h.2 h2.2 t ti ht
def br (b:Bool) (A B:Prop):Prop:=match b with | true=>A | false=>B
@[simp] theorem ak (A B:Prop):br true A B=A:=propext ⟨fun h=>h,fun h=>h⟩
@[simp] theorem aa (A B:Prop):br false A B=B:=propext ⟨fun h=>h,fun h=>h⟩
theorem zx {b:Bool} {A B:Prop}:br b A B↔(b=true->A)/\(b=false->B):=by cases b <;> simp [br]
abbrev brA (b:Bool) (A B:Prop):Prop:=match b with | true=>A | false=>B
theorem DP (b:Bool) (A B:Prop):brA b A B=br b A B:=by cases b <;> rfl
def nilW (p:Option Addr) (K:Addr->Prop):Prop:=match p with | some a=>K a | none=>False
@[simp] theorem Pp (a:Addr) (K:Addr->Prop):nilW (some a) K=K a:=propext ⟨fun h=>h,fun h=>h⟩
def ldI (k:IntKind) (h:Hp) (a:Addr) (K:Int->Prop):Prop:= ∃ n:Int,hcell h a=some (.int k n)/\K n
def ldB (h:Hp) (a:Addr) (K:Bool->Prop):Prop:= ∃ b:Bool,hcell h a=some (.bool b)/\K b
def ldT (h:Hp) (a:Addr) (K:ByteArray->Prop):Prop:= ∃ s:ByteArray,hcell h a=some (.string s)/\K s
def ldP (h:Hp) (a:Addr) (K:Option Addr->Prop):Prop:= ∃ p:Option Addr,hcell h a=some (.pointer p)/\K p
def ldS (h:Hp) (a:Addr) (K:Sl->Prop):Prop:= ∃ s:Sl,hcell h a=some (.slice s.a s.len s.cap)/\K s
def ldM (h:Hp) (a:Addr) (K:Option Nat->Prop):Prop:= ∃ m:Option Nat,hcell h a=some (.map m)/\K m
def ldV (h:Hp) (a:Addr) (K:Value->Prop):Prop:= ∃ v:Value,hcell h a=some v/\K v
abbrev ldC:CK->Hp->Addr->((Hp->Prop)->Value->Prop)->Prop
 | .int k,h,a,K=>ldI k h a fun n=>K (fun h'=>hcell h' a=some (.int k n)) (.int k n)
 | .bool,h,a,K=>ldB h a fun n=>K (fun h'=>hcell h' a=some (.bool n)) (.bool n)
 | .str,h,a,K=>ldT h a fun n=>K (fun h'=>hcell h' a=some (.string n)) (.string n)
 | .ptr,h,a,K=>ldP h a fun n=>K (fun h'=>hcell h' a=some (.pointer n)) (.pointer n)
 | .sl,h,a,K=>ldS h a fun n=>K (fun h'=>hcell h' a=some (.slice n.a n.len n.cap)) (.slice n.a n.len n.cap)
 | .map,h,a,K=>ldM h a fun n=>K (fun h'=>hcell h' a=some (.map n)) (.map n)
 | .any,h,a,K=>ldV h a fun v=>K (fun h'=>hcell h' a=some v) v
 | .lump _ _,_,_,_=>False
def lfact (k:IntKind) (n:Nat) (l:List Int) (a:Addr) (h:Hp):Prop:= ∀ i,i<n->hcell h (a.add i)=some (.int k (l.getD i 0))
def ldL (k:IntKind) (n:Nat) (h:Hp) (a:Addr) (K:List Int->Prop):Prop:= ∃ l:List Int,l.length=n/\lfact k n l a h/\K l
theorem m5 {c:CK} {h:Hp} {a:Addr} {K:(Hp->Prop)->Value->Prop} (H:ldC c h a K):
  ∃ v,hcell h a=some v/\K (fun h'=>hcell h' a=some v) v:=by
 cases c <;> first | exact H.elim | (obtain ⟨n,h1,h2⟩:=H; exact ⟨_,h1,h2⟩)
abbrev ldCs:List CK->Hp->Addr->Nat->((Hp->Prop)->List Value->Prop)->Prop
 | [],_,_,_,K=>K (fun _=>True) []
 | c::cs,h,a,i,K=>match c with
  | .lump k n=>ldL k n h (a.add i) fun l=>ldCs cs h a (i+n) fun g vs=>K (fun h'=>lfact k n l (a.add i) h'/\g h') (lumpV k n l++vs)
  | c=>ldC c h (a.add i) fun f v=>ldCs cs h a (i+1) fun g vs=>K (fun h'=>f h'/\g h') (v::vs)
def st (h:Hp) (a:Addr) (v:Value) (K:Hp->Prop):Prop:=(∃ u,hcell h a=some u)/\hfrz h a=false/\K (hset h a v)
abbrev stV (h:Hp) (a:Addr) (v:Value) (K:Hp->Prop):Prop:=
 match v with
 | .agg _=>False
 | .tuple _=>False
 | v=>st h a v K
abbrev stAll (h:Hp) (a:Addr) (i:Nat):List Value->(Hp->Prop)->Prop
 | [],K=>K h
 | v::vs,K=>stV h (a.add i) v fun h'=>stAll h' a (i+1) vs K
def ixW (base:Option Addr) (len:Nat) (i:Int) (size:Nat) (K:Addr->Prop):Prop:=
 ∃ a,base=some a/\(0<=i/\i<(len:Int))/\K (a.add (i.toNat*size))
def slW (s:Sl) (lo hi:Int) (size:Nat) (K:Sl->Prop):Prop:=
 (0<=hi/\hi<=(s.cap:Int))/\(0<=lo/\lo<=hi)/\
  K ⟨if s.cap=lo.toNat then s.a else s.a.map (·.add (lo.toNat*size)),hi.toNat - lo.toNat,s.cap - lo.toNat⟩
def slX (s:Sl) (lo hi mx:Int) (size:Nat) (K:Sl->Prop):Prop:=
 (0<=mx/\mx<=(s.cap:Int))/\(0<=hi/\hi<=mx)/\(0<=lo/\lo<=hi)/\
  K ⟨if mx.toNat=lo.toNat then s.a else s.a.map (·.add (lo.toNat*size)),hi.toNat - lo.toNat,mx.toNat - lo.toNat⟩
def stW (s:ByteArray) (lo hi:Int) (K:ByteArray->Prop):Prop:=
 (0<=hi/\hi<=(s.size:Int))/\(0<=lo/\lo<=hi)/\K (s.extract lo.toNat hi.toNat)
def cellsAt (h:Hp) (a:Option Addr) (n:Nat) (vs:List Value):Prop:=
 match a with
 | none=>vs=[]
 | some a=>vs.length=n/\ ∀ i,(hi:i<vs.length)->hcell h (a.add i)=some vs[i]
def zeros (z:Value) (n:Nat):List Value:=(List.replicate n z.cells.toList).flatten
set_option linter.unusedVariables false in
def apV (T size bytes:Nat) (z:Value) (h:Hp) (s:Sl) (n:Nat) (new:List Value) (K:Sl->Hp->Prop):Prop:=
 if s.len+n<=s.cap then
  match s.a with
  | some a=>stAll h (a.add (s.len*size)) 0 new fun h'=>K ⟨s.a,s.len+n,s.cap⟩ h'
  | none=>K ⟨none,s.len+n,s.cap⟩ h
 else
  bytes ≠ 0/\Builtin.nextslicecap (s.len+n) s.cap*bytes<=2 ^ 48/\ ∃ old,cellsAt h s.a (s.len*size) old/\
   ∀ c,s.len+n<=c->K ⟨some ⟨h.size,0,none⟩,s.len+n,c⟩ (h.push (.cells (old++new++zeros z (c - (s.len+n))).toArray T (0,0)))
def apW (T size bytes:Nat) (z:Value) (h:Hp) (s x:Sl) (K:Sl->Hp->Prop):Prop:=
 ∃ new,cellsAt h x.a (x.len*size) new/\apV T size bytes z h s x.len new K
def byteVals (s:ByteArray):List Value:=s.data.toList.map fun b=> .int .u8 b.toNat
def apT (T size bytes:Nat) (z:Value) (h:Hp) (s:Sl) (x:ByteArray) (K:Sl->Hp->Prop):Prop:=
 apV T size bytes z h s x.size (byteVals x) K
def apZ (T size bytes:Nat) (z:Value) (h:Hp) (s:Sl) (n:Int) (K:Sl->Hp->Prop):Prop:=
 0<=n/\n*bytes<=2 ^ 48/\((s.len+n.toNat:Nat):Int)<=IntKind.i64.max/\apV T size bytes z h s n.toNat (zeros z n.toNat) K
def cpW (size:Nat) (h:Hp) (d x:Sl) (K:Int->Hp->Prop):Prop:=
 ∃ new,cellsAt h x.a (min x.len d.len*size) new/\
  match d.a with
  | some a=>stAll h a 0 new fun h'=>K (min x.len d.len:Nat) h'
  | none=>K (min x.len d.len:Nat) h
def clW (z:Value) (h:Hp) (s:Sl) (K:Hp->Prop):Prop:=
 match s.a with
 | none=>K h
 | some a=>stAll h a 0 (zeros z s.len) K
set_option linter.unusedVariables false in
def mkW (T size bytes:Nat) (z:Value) (h:Hp) (len cap:Int) (K:Sl->Hp->Prop):Prop:=
 (0<=len/\len<=cap/\cap*bytes<=2 ^ 48)/\cap<=IntKind.i64.max/\
  K ⟨some ⟨h.size,0,none⟩,len.toNat,cap.toNat⟩ (h.push (.cells (zeros z cap.toNat).toArray T (0,0)))
def sameK:Kd->Value->Value->Option Bool
 | .int _, .int k a, .int k' b=>if k=k' then some (a==b) else none
 | .str, .string a, .string b=>some (a==b)
 | .bool, .bool a, .bool b=>some (a==b)
 | _,_,_=>none
def mfind (kd:Kd) (k:Value):List MapEntry->Nat->Option (Option (Nat × Value))
 | [],_=>some none
 | e::es,i=>
  match sameK kd k e.key with
  | some true=>some (some (i,e.val))
  | some false=>mfind kd k es (i+1)
  | none=>none
def lkW (kd:Kd) (h:Hp) (m:Option Nat) (key:Value) (K:(Hp->Prop)->Option Value->Prop):Prop:=
 match m with
 | none=>K (fun _=>True) none
 | some r=> ∃ es clock,h[r]? =some (.map es clock)/\ ∃ o,mfind kd key es.toList 0=some o/\
   K (fun h'=> ∃ es' clock' o',h'[r]? =some (.map es' clock')/\mfind kd key es'.toList 0=some o'/\o'.map (·.2)=o.map (·.2)) (o.map (·.2))
abbrev shapes:List CK->(List Value->Prop)->Prop
 | [],K=>K []
 | c::cs,K=>match c with
  | .lump k n=> ∃ l:List Int,shapes cs fun vs=>K (lumpV k n l++vs)
  | c=>shape c fun v=>shapes cs fun vs=>K (v::vs)
def isAgg:Kd->Bool
 | .struct _=>true
 | .arr _ _=>true
 | _=>false
abbrev isA (ti:TI) (v:Value) (K:Value->Prop):Prop:=
 cnd (isAgg ti.kd) (shapes ti.gC fun vs=>v= .agg vs.toArray/\K (.agg vs.toArray)) (match ti.gC with
  | c::_=>shape c fun u=>v=u/\K u
  | []=>False)
abbrev lkA (ti:TI) (kd:Kd) (h:Hp) (m:Option Nat) (key:Value) (K:(Hp->Prop)->Value->Bool->Prop):Prop:=
 lkW kd h m key fun f o=>isA ti (o.getD ti.zero) fun v=>K f v o.isSome
def muO (es:Array MapEntry) (clock:Nat) (key val:Value):Option (Nat × Value)->Obj
 | some (i,_)=> .map (es.modify i fun e=> {e with key,val}) clock
 | none=> .map (es.push {key,val,born:=clock}) (clock+1)
def muW (kd:Kd) (h:Hp) (m:Option Nat) (key val:Value) (K:Hp->Prop):Prop:=
 ∃ r,m=some r/\ ∃ es clock,h[r]? =some (.map es clock)/\ ∃ o,mfind kd key es.toList 0=some o/\K (h.setIfInBounds r (muO es clock key val o))
def dlO (es:Array MapEntry) (clock:Nat):Option (Nat × Value)->Obj
 | some (i,_)=> .map (es.eraseIdxIfInBounds i) clock
 | none=> .map es clock
def dlW (kd:Kd) (h:Hp) (m:Option Nat) (key:Value) (K:Hp->Prop):Prop:=
 match m with
 | none=>K h
 | some r=> ∃ es clock,h[r]? =some (.map es clock)/\ ∃ o,mfind kd key es.toList 0=some o/\K (h.setIfInBounds r (dlO es clock o))
def lnM (h:Hp) (m:Option Nat) (K:(Hp->Prop)->Int->Prop):Prop:=
 match m with
 | none=>K (fun _=>True) 0
 | some r=> ∃ es clock,h[r]? =some (.map es clock)/\K (fun h'=> ∃ es' clock',h'[r]? =some (.map es' clock')/\es'.size=es.size) es.size
def s2b (T:Nat) (h:Hp) (s:ByteArray) (K:Sl->Hp->Prop):Prop:=
 ∀ c,s.size<=c->K ⟨some ⟨h.size,0,none⟩,s.size,c⟩ (h.push (.cells (byteVals s++List.replicate (c - s.size) (Value.int .u8 0)).toArray T (c,c+1)))
def It (h:Hp) (s:Sl) (K:(Hp->Prop)->ByteArray->Prop):Prop:=
 match s.a with
 | none=>K (fun _=>True) .empty
 | some a=> ∃ bs:ByteArray,cellsAt h (some a) s.len (byteVals bs)/\K (fun h'=>cellsAt h' (some a) s.len (byteVals bs)) bs
abbrev Spec:=List Value->Hp->(Value->Hp->Prop)->Prop
abbrev Specs:=List (Nat × Spec)
def Specs.get:Specs->Nat->Option Spec
 | [],_=>none
 | (k,v)::r,n=>bif Nat.beq k n then some v else Specs.get r n
abbrev phi (cl:Specs) (f:Value) (args:List Value) (h:Hp) (K:Value->Hp->Prop):Prop:=
 match f with
 | .func (.func id) first captured=>match cl.get id with
  | some S=>S (first.toList++args++captured.toList) h K
  | none=>False
 | _=>False
abbrev intB (op:BinOp) (k:IntKind) (x y:Int) (K:Value->Prop):Prop:=
 match op with
 | .add=>K (.int k (k.wrap (x+y)))
 | .sub=>K (.int k (k.wrap (x - y)))
 | .mul=>K (.int k (k.wrap (x*y)))
 | .quo=>y ≠ 0/\K (.int k (k.wrap (x.tdiv y)))
 | .rem=>y ≠ 0/\K (.int k (x.tmod y))
 | .and=>K (.int k (k.wrap (BitVec.ofInt k.bits x &&& BitVec.ofInt k.bits y).toNat))
 | .or=>K (.int k (k.wrap (BitVec.ofInt k.bits x ||| BitVec.ofInt k.bits y).toNat))
 | .xor=>K (.int k (k.wrap (BitVec.ofInt k.bits x ^^^ BitVec.ofInt k.bits y).toNat))
 | .andNot=>K (.int k (k.wrap (BitVec.ofInt k.bits x &&& ~~~ BitVec.ofInt k.bits y).toNat))
 | .eql=>K (.bool (x==y))
 | .neq=>K (.bool (x !=y))
 | .lss=>K (.bool (decide (x<y)))
 | .leq=>K (.bool (decide (x<=y)))
 | .gtr=>K (.bool (decide (x>y)))
 | .geq=>K (.bool (decide (x>=y)))
 | _=>False
abbrev shW (op:BinOp) (k:IntKind) (x y:Int) (K:Value->Prop):Prop:=
 match op with
 | .shl=>0<=y/\K (.int k (k.wrap (x*2 ^ (min y.toNat k.bits))))
 | .shr=>0<=y/\K (.int k (x.fdiv (2 ^ (min y.toNat k.bits))))
 | _=>False
abbrev strB (op:BinOp) (x y:ByteArray) (K:Value->Prop):Prop:=
 match op with
 | .add=>((x.size+y.size:Nat):Int)<=IntKind.i64.max/\K (.string (x++y))
 | .eql=>K (.bool (x.toList==y.toList))
 | .neq=>K (.bool (!(x.toList==y.toList)))
 | .lss=>K (.bool (Op.bytesLess x.toList y.toList))
 | .leq=>K (.bool (Op.bytesLess x.toList y.toList || x.toList==y.toList))
 | .gtr=>K (.bool (!(Op.bytesLess x.toList y.toList || x.toList==y.toList)))
 | .geq=>K (.bool (!(Op.bytesLess x.toList y.toList)))
 | _=>False
abbrev partW (ti:TI) (cs:List Value) (off:Nat) (K:Value->Prop):Prop:=
 cnd (isAgg ti.kd) (K (.agg ((cs.drop off).take ti.size).toArray)) (match (cs.drop off) with
  | v::_=>K v
  | []=>False)
abbrev eqFs (τ:Tys) (eq:Nat->Value->Value->(Bool->Prop)->Prop) (xs ys:List Value):List (Nat × Nat)->(Bool->Prop)->Prop
 | [],K=>K true
 | (ft,off)::fs,K=>match τ.get ft with
  | none=>False
  | some tf=>partW tf xs off fun u=>partW tf ys off fun v=>eq ft u v fun b=>eqFs τ eq xs ys fs fun c=>K (b && c)
abbrev eqW (τ:Tys):Nat->Nat->Value->Value->(Bool->Prop)->Prop
 | 0,_,_,_,_=>False
 | d+1,t,x,y,K=>match τ.get t with
  | none=>False
  | some ti=>match ti.kd,x,y with
   | .bool, .bool a, .bool b=>K (a==b)
   | .int _, .int k a, .int k' b=>cnd (decide (k=k')) (K (a==b)) (False)
   | .str, .string a, .string b=>K (a==b)
   | .struct fs, .agg xs, .agg ys=>cnd ti.eq (eqFs τ (eqW τ d) xs.toList ys.toList fs K) (False)
   | .arr n e, .agg xs, .agg ys=>match τ.get e with
    | some te=>match te.kd with
     | .int k=>cnd (Nat.beq te.size 1 && intsOk k n xs.toList && intsOk k n ys.toList) (K (unInts xs.toList==unInts ys.toList)) (False)
     | _=>False
    | none=>False
   | _,_,_=>False
abbrev eqB (τ:Tys) (t:Nat) (ti:TI) (x y:Value) (K:Bool->Prop):Prop:=
 match ti.kd,x,y with
 | .struct _, .agg a, .agg b=>cnd ti.eq (eqW τ 6 t (.agg a) (.agg b) K) (False)
 | .arr _ _, .agg a, .agg b=>cnd ti.eq (eqW τ 6 t (.agg a) (.agg b) K) (False)
 | .bool, .bool a, .bool b=>K (a==b)
 | .ptr _, .pointer a, .pointer none=>K a.isNone
 | .ptr _, .pointer none, .pointer b=>K b.isNone
 | .slice _, .slice a _ _, .slice none _ _=>K a.isNone
 | .map _ _, .map a, .map none=>K a.isNone
 | .func, .nilFunc, .nilFunc=>K true
 | .func, .func _ _ _, .nilFunc=>K false
 | _,_,_=>False
abbrev binW (τ:Tys) (op:BinOp) (t:Nat) (x y:Value) (K:Value->Prop):Prop:=
 match x,y with
 | .int k a, .int k' b=>
  match op with
  | .shl | .shr=>shW op k a b K
  | _=>cnd (decide (k=k')) (intB op k a b K) (False)
 | .string a, .string b=>strB op a b K
 | _,_=>match τ.get t with
  | none=>False
  | some ti=>match op with
   | .eql=>eqB τ t ti x y fun b=>K (.bool b)
   | .neq=>eqB τ t ti x y fun b=>K (.bool !b)
   | _=>False
abbrev unW (op:UnOp) (x:Value) (K:Value->Prop):Prop:=
 match op,x with
 | .not, .bool b=>K (.bool !b)
 | .neg, .int k n=>K (.int k (k.wrap (0 - n)))
 | .xor, .int k n=>K (.int k (k.wrap (BitVec.ofInt k.bits (if k.signed then -1 else k.max) ^^^ BitVec.ofInt k.bits n).toNat))
 | _,_=>False
def setL:List Value->Nat->List Value->List Value
 | cs,_,[]=>cs
 | cs,i,v::vs=>setL (cs.set i v) (i+1) vs
abbrev fillL (place:Nat->Option (Nat × Nat)):List (Nat × Value)->List Value->(List Value->Prop)->Prop
 | [],cs,K=>K cs
 | (i,v)::r,cs,K=>match place i with
  | none=>False
  | some (off,size)=>cnd (Nat.beq v.cells.toList.length size && Nat.ble (off+size) cs.length) (fillL place r (setL cs off v.cells.toList) K) (False)
def fieldPlace (τ:Tys) (fs:List (Nat × Nat)) (i:Nat):Option (Nat × Nat):=
 match fs[i]? with
 | some (t,off)=>match τ.get t with
  | some ti=>some (off,ti.size)
  | none=>none
 | none=>none
abbrev buildW (τ:Tys) (t:Nat) (parts:List (Nat × Value)) (K:Value->Prop):Prop:=
 match τ.get t with
 | none=>False
 | some ti=>match ti.kd with
  | .struct fs=>cnd (fs.all (fun f=>(τ.get f.1).isSome)) (fillL (fieldPlace τ fs) parts ti.zero.cells.toList fun cs=>K (.agg cs.toArray)) (False)
  | .arr _ e=>match τ.get e with
   | some te=>fillL (fun i=>some (i*te.size,te.size)) parts ti.zero.cells.toList fun cs=>K (.agg cs.toArray)
   | none=>False
  | _=>False
def isKey:Kd->Bool
 | .int _ | .str | .bool=>true
 | _=>false
abbrev opR (τ:Tys) (o:Op) (Γ:Env) (h:Hp) (K:(Hp->Prop)->Value->Prop):Prop:=
 match o with
 | .move x=>K (fun _=>True) (ev Γ x)
 | .assign x=>K (fun _=>True) (ev Γ x)
 | .pick c a b=>match ev Γ c with
  | .bool t=>brA t (K (fun _=>True) (ev Γ a)) (K (fun _=>True) (ev Γ b))
  | _=>False
 | .build t ps=>buildW τ t (ps.toList.map fun p=>(p.1,ev Γ p.2)) (K fun _=>True)
 | .load t a=>match ev Γ a with
  | .pointer (some p)=>match τ.get t with
   | some ti=>cnd (isAgg ti.kd) ((cnd (Nat.beq (ckns ti.gC) ti.size) (ldCs ti.gC h p 0 fun f vs=>K f (.agg vs.toArray)) (False))) (match ti.gC with
     | [c]=>ldC c h p K
     | _=>False)
   | none=>False
  | _=>False
 | .nilCheck x=>match ev Γ x with
  | .pointer p=>nilW p fun a=>K (fun _=>True) (.pointer (some a))
  | .func (.func f) x y=>K (fun _=>True) (.func (.func f) x y)
  | _=>False
 | .binOp op t x y _=>binW τ op t (ev Γ x) (ev Γ y) (K fun _=>True)
 | .unOp op _ x=>unW op (ev Γ x) (K fun _=>True)
 | .convert s d x=>match τ.get s,τ.get d with
  | some ts,some td=>match ts.kd,td.kd,ev Γ x with
   | .int _, .int k, .int _ n=>K (fun _=>True) (.int k (k.wrap n))
   | .str, .str, .string b=>K (fun _=>True) (.string b)
   | .slice e, .str, .slice a l c=>match τ.get e with
    | some te=>match te.kd with
     | .int .u8=>It h ⟨a,l,c⟩ fun f b=>K f (.string b)
     | _=>False
    | none=>False
   | _,_,_=>False
  | _,_=>False
 | .makeFunc f x y=>K (fun _=>True) (.func f (x.toList.map (ev Γ)).toArray (y.toList.map (ev Γ)).toArray)
 | .makeInterface t x=>match τ.get t with
  | some ti=>match ti.kd with
   | .iface=>False
   | _=>K (fun _=>True) (.iface t (ev Γ x))
  | none=>False
 | .slice t x lo hi none=>
  let l:=match lo with | some y=>ev Γ y | none=> .int .i64 0
  match τ.get t with
  | some ti=>match ti.kd,ev Γ x,l with
   | .slice e, .slice a n c, .int _ i=>match τ.get e with
    | some te=>match hi with
     | none=>slW ⟨a,n,c⟩ i n te.size fun s=>K (fun _=>True) (.slice s.a s.len s.cap)
     | some y=>match ev Γ y with
      | .int _ j=>slW ⟨a,n,c⟩ i j te.size fun s=>K (fun _=>True) (.slice s.a s.len s.cap)
      | _=>False
    | none=>False
   | .str, .string s, .int _ i=>match hi with
    | none=>stW s i s.size fun s=>K (fun _=>True) (.string s)
    | some y=>match ev Γ y with
     | .int _ j=>stW s i j fun s=>K (fun _=>True) (.string s)
     | _=>False
   | .arr n e, .pointer (some p), .int _ i=>match τ.get e with
    | some te=>match hi with
     | none=>slW ⟨some p,n,n⟩ i n te.size fun s=>K (fun _=>True) (.slice s.a s.len s.cap)
     | some y=>match ev Γ y with
      | .int _ j=>slW ⟨some p,n,n⟩ i j te.size fun s=>K (fun _=>True) (.slice s.a s.len s.cap)
      | _=>False
    | none=>False
   | _,_,_=>False
  | none=>False
 | .slice t x lo (some y) (some z)=>
  let l:=match lo with | some y=>ev Γ y | none=> .int .i64 0
  match τ.get t with
  | some ti=>match ti.kd,ev Γ x,l,ev Γ y,ev Γ z with
   | .slice e, .slice a n c, .int _ i, .int _ j, .int _ m=>match τ.get e with
    | some te=>slX ⟨a,n,c⟩ i j m te.size fun s=>K (fun _=>True) (.slice s.a s.len s.cap)
    | none=>False
   | _,_,_,_,_=>False
  | none=>False
 | .fieldAddr t x i=>match τ.get t with
  | some ti=>match ti.kd,ev Γ x with
   | .struct fs, .pointer (some a)=>match fs[i]? with
    | some (ft,off)=>match τ.get ft with
     | some tf=>cnd (Nat.beq tf.size 0) (False) (K (fun _=>True) (.pointer (some (a.add off))))
     | none=>False
    | none=>False
   | _,_=>False
  | none=>False
 | .field t x i=>match τ.get t with
  | some ti=>match ti.kd,ev Γ x with
   | .struct fs, .agg cs=>match fs[i]? with
    | some (ft,off)=>match τ.get ft with
     | some tf=>partW tf cs.toList off (K fun _=>True)
     | none=>False
    | none=>False
   | _,_=>False
  | none=>False
 | .indexAddr t x i=>match τ.get t with
  | some ti=>match ti.kd,ev Γ x,ev Γ i with
   | .slice e, .slice a n _, .int _ j=>match τ.get e with
    | some te=>ixW a n j te.size fun p=>K (fun _=>True) (.pointer (some p))
    | none=>False
   | .arr n e, .pointer (some a), .int _ j=>match τ.get e with
    | some te=>ixW (some a) n j te.size fun p=>K (fun _=>True) (.pointer (some p))
    | none=>False
   | _,_,_=>False
  | none=>False
 | .index t x i=>match τ.get t with
  | some ti=>match ti.kd,ev Γ x,ev Γ i with
   | .str, .string s, .int _ j=>(0<=j/\j<(s.size:Int))/\K (fun _=>True) (.int .u8 (s.data.toList.getD j.toNat 0).toNat)
   | .arr n e, .agg cs, .int _ j=>match τ.get e with
    | some te=>match te.kd with
     | .int k=>cnd (Nat.beq te.size 1 && intsOk k n cs.toList) ((0<=j/\j<(n:Int))/\K (fun _=>True) (.int k ((unInts cs.toList).getD j.toNat 0))) (False)
     | _=>False
    | none=>False
   | _,_,_=>False
  | none=>False
 | .lookup t x i ok=>match τ.get t with
  | some ti=>match ti.kd,ev Γ x with
   | .map kt e, .map m=>match τ.get kt,τ.get e with
    | some tk,some te=>cnd (isKey tk.kd) (lkA te tk.kd h m (ev Γ i) fun f v b=>K f (cnd (ok) (.tuple #[v, .bool b]) (v))) (False)
    | _,_=>False
   | _,_=>False
  | none=>False
 | .extract x i=>match ev Γ x with
  | .tuple vs=>match vs.toList.drop i with
   | v::_=>K (fun _=>True) v
   | []=>False
  | _=>False
 | .call {callee:= .builtin b,args,argTypes}=>
  match b,args.toList,argTypes.toList with
  | .len,[x],[t]=>match τ.get t with
   | some ti=>match ti.kd,ev Γ x with
    | .str, .string s=>K (fun _=>True) (.int .i64 s.size)
    | .slice _, .slice _ n _=>K (fun _=>True) (.int .i64 n)
    | .map _ _, .map m=>lnM h m fun f n=>K f (.int .i64 n)
    | .arr n _,_=>K (fun _=>True) (.int .i64 n)
    | _,_=>False
   | none=>False
  | .cap,[x],[t]=>match τ.get t with
   | some ti=>match ti.kd,ev Γ x with
    | .slice _, .slice _ _ c=>K (fun _=>True) (.int .i64 c)
    | _,_=>False
   | none=>False
  | .min,[x,y],_=>match ev Γ x,ev Γ y with
   | .int k a, .int _ b=>K (fun _=>True) (.int k (if b<a then b else a))
   | _,_=>False
  | .max,[x,y],_=>match ev Γ x,ev Γ y with
   | .int k a, .int _ b=>K (fun _=>True) (.int k (if b>a then b else a))
   | _,_=>False
  | _,_,_=>False
 | _=>False
abbrev opC (τ:Tys) (σ cl:Specs) (rt:Nat) (o:Op) (Γ:Env) (h:Hp) (K:Value->Hp->Prop):Prop:=
  match o with
  | .alloc e=>match τ.get e with
    | some te=>K (.pointer (some ⟨h.size,0,none⟩)) (h.push (.cells te.zero.cells e (0,0)))
    | none=>False
  | .box e x=>K (.pointer (some ⟨h.size,0,none⟩)) (h.push (.cells (ev Γ x).cells e (0,0)))
  | .buildSlice t n ps=>match τ.get t with
    | some ti=>match ti.kd with
      | .slice e=>match τ.get e with
        | some te=>cnd (Nat.ble (n*te.size) 16777216) (fillL (fun i=>some (i*te.size,te.size)) (ps.toList.map fun p=>(p.1,ev Γ p.2)) (zeros te.zero n) fun cs=>
              K (.slice (some ⟨h.size,0,none⟩) n n) (h.push (.cells cs.toArray e (0,0)))) (False)
        | none=>False
      | _=>False
    | none=>False
  | .store t a x=>match ev Γ a with
    | .pointer (some p)=>match τ.get t with
      | some ti=>cnd (Nat.beq (ev Γ x).cells.toList.length ti.size) (stAll h p 0 (ev Γ x).cells.toList fun h'=>K undef h') (False)
      | none=>False
    | _=>False
  | .convert s d x=>match τ.get s,τ.get d with
    | some ts,some td=>match ts.kd,td.kd,ev Γ x with
      | .str, .slice e, .string b=>match τ.get e with
        | some te=>match te.kd with
          | .int .u8=>s2b e h b fun s h'=>K (.slice s.a s.len s.cap) h'
          | _=>False
        | none=>False
      | _,_,_=>False
    | _,_=>False
  | .makeMap _ none=>K (.map (some h.size)) (h.push (.map #[] 0))
  | .makeMap t (some x)=>match τ.get t,ev Γ x with
    | some ti, .int _ _=>match ti.kd with
      | .map _ _=>K (.map (some h.size)) (h.push (.map #[] 0))
      | _=>False
    | _,_=>False
  | .makeSlice t l c=>match τ.get t,ev Γ l,ev Γ c with
    | some ti, .int _ i, .int _ j=>match ti.kd with
      | .slice e=>match τ.get e with
        | some te=>mkW e te.size te.bytes te.zero h i j fun s h'=>K (.slice s.a s.len s.cap) h'
        | none=>False
      | _=>False
    | _,_,_=>False
  | .mapUpdate t m k x=>match τ.get t with
    | some ti=>match ti.kd,ev Γ m with
      | .map kt _, .map r=>match τ.get kt with
        | some tk=>cnd (isKey tk.kd) (muW tk.kd h r (ev Γ k) (ev Γ x) fun h'=>K undef h') (False)
        | none=>False
      | _,_=>False
    | none=>False
  | .call { callee := .builtin b, args, argTypes } =>
    match b,args.toList,argTypes.toList with
    | .append,[s,x],[t,u]=>match τ.get t,τ.get u,ev Γ s with
      | some ti,some tu, .slice a n c=>match ti.kd with
        | .slice e=>match τ.get e with
          | some te=>match tu.kd,ev Γ x with
            | .slice _, .slice b m d=>apW e te.size te.bytes te.zero h ⟨a,n,c⟩ ⟨b,m,d⟩ fun s h'=>K (.slice s.a s.len s.cap) h'
            | .str, .string y=>cnd (Nat.beq te.size 1) (apT e te.size te.bytes te.zero h ⟨a,n,c⟩ y fun s h'=>K (.slice s.a s.len s.cap) h') (False)
            | .int _, .int _ m=>apZ e te.size te.bytes te.zero h ⟨a,n,c⟩ m fun s h'=>K (.slice s.a s.len s.cap) h'
            | _,_=>False
          | none=>False
        | _=>False
      | _,_,_=>False
    | .copy,[d,x],(t::_)=>match τ.get t,ev Γ d,ev Γ x with
      | some ti, .slice a n c, .slice b m e=>match ti.kd with
        | .slice el=>match τ.get el with
          | some te=>cpW te.size h ⟨a,n,c⟩ ⟨b,m,e⟩ fun n h'=>K (.int .i64 n) h'
          | none=>False
        | _=>False
      | _,_,_=>False
    | .clear,[x],(t::_)=>match τ.get t with
      | some ti=>match ti.kd,ev Γ x with
        | .slice e, .slice a n c=>match τ.get e with
          | some te=>clW te.zero h ⟨a,n,c⟩ fun h'=>K undef h'
          | none=>False
        | _,_=>False
      | none=>False
    | .delete,[m,k],(t::_)=>match τ.get t with
      | some ti=>match ti.kd,ev Γ m with
        | .map kt _, .map r=>match τ.get kt with
          | some tk=>cnd (isKey tk.kd) (dlW tk.kd h r (ev Γ k) fun h'=>K undef h') (False)
          | none=>False
        | _,_=>False
      | none=>False
    | _,_,_=>False
  | .call {callee:= .value (.func f),args,argTypes:=_}=>match σ.get f with
    | some S=>S (args.toList.map (ev Γ)) h K
    | none=>False
  | .call {callee:= .value x,args,argTypes:=_}=>match τ.get rt with
    | some ti=>phi cl (ev Γ x) (args.toList.map (ev Γ)) h fun v h'=>isA ti v fun v=>K v h'
    | none=>False
  | _=>False
def isR:Op->Bool
 | .move _ | .assign _ | .pick .. | .build .. | .load .. | .nilCheck _ | .binOp .. | .unOp .. | .makeFunc .. | .makeInterface .. | .slice .. | .fieldAddr .. | .field .. | .indexAddr .. | .index ..
 | .lookup .. | .extract .. =>true
 | .call {callee:= .builtin .len, ..} | .call {callee:= .builtin .cap, ..} | .call {callee:= .builtin .min, ..} | .call {callee:= .builtin .max, ..}=>true
 | _=>false
def readsConv (τ:Tys):Op->Bool
 | .convert _ d _=>match τ.get d with
  | some td=>match td.kd with
   | .slice _=>false
   | _=>true
  | none=>true
 | _=>false
abbrev opW (τ:Tys) (σ cl:Specs) (rt:Nat) (o:Op) (Γ:Env) (h:Hp) (K:Value->Hp->Prop):Prop:=
 cnd (isR o || readsConv τ o) (opR τ o Γ h fun _ v=>K v h) (opC τ σ cl rt o Γ h K)
end Go.Wc
namespace Go.Wc
variable {P:Program} {τ:Tys} {t:Nat} {ti:TI} {w:World}
theorem Agrees.info (h:Agrees P t ti): ∃ i,P.info? t=some i/\i.size=ti.size/\i.bytes=ti.bytes/\i.zero=some ti.zero:=by
 obtain ⟨h,_⟩:=h;unfold tiOf at h;split at h
 ·rename_i i d hi hd
  cases hz:i.zero with
  | none=>rw [hz] at h; simp at h
  | some z=>rw [hz] at h; simp at h; exact ⟨i,hi,h.2.1,h.2.2.1,by rw [<- h.2.2.2.1]; exact hz⟩
 ·cases h
theorem Agrees.und (h:Agrees P t ti): ∃ d,P.underlying t=some d/\kdOf d=ti.kd:=by
 obtain ⟨h,_⟩:=h;unfold tiOf at h;split at h
 ·rename_i i d hi hd
  cases hz:i.zero with
  | none=>rw [hz] at h; simp at h
  | some z=>rw [hz] at h; simp at h; exact ⟨d,hd,h.1⟩
 ·cases h
theorem Agrees.eqf (h:Agrees P t ti): ∃ d,P.underlying t=some d/\kdOf d=ti.kd/\eqOf P t d=ti.eq:=by
 obtain ⟨h,_⟩:=h;unfold tiOf at h;split at h
 ·rename_i i d hi hd
  cases hz:i.zero with
  | none=>rw [hz] at h; simp at h
  | some z=>rw [hz] at h; simp at h; exact ⟨d,hd,h.1,h.2.2.2.2⟩
 ·cases h
theorem cW {d:TypeDesc} {e:Nat} (h:kdOf d= .slice e):d= .slice e:=by cases d <;> simp [kdOf] at h; subst h; rfl
theorem wF {d:TypeDesc} {e:Nat} (h:kdOf d= .ptr e):d= .pointer e:=by cases d <;> simp [kdOf] at h; subst h; rfl
theorem jC {d:TypeDesc} {n e:Nat} (h:kdOf d= .arr n e):d= .array n e:=by cases d <;> simp [kdOf] at h; obtain ⟨rfl,rfl⟩:=h; rfl
theorem jD {d:TypeDesc} {n e:Nat} (h:kdOf d= .map n e):d= .map n e:=by cases d <;> simp [kdOf] at h; obtain ⟨rfl,rfl⟩:=h; rfl
theorem jb {d:TypeDesc} {k:IntKind} (h:kdOf d= .int k):d= .int k:=by cases d <;> simp [kdOf] at h; subst h; rfl
theorem tE {d:TypeDesc} (h:kdOf d= .bool):d= .bool:=by cases d <;> simp [kdOf] at h; rfl
theorem gF {d:TypeDesc} (h:kdOf d= .str):d= .string:=by cases d <;> simp [kdOf] at h; rfl
theorem tH {d:TypeDesc} (h:kdOf d= .func): ∃ p r v,d= .func p r v:=by cases d <;> simp [kdOf] at h; exact ⟨_,_,_,rfl⟩
theorem jt {d:TypeDesc} {fs:List (Nat × Nat)} (h:kdOf d= .struct fs): ∃ f:Array Field,d= .struct f/\f.toList.map (fun f=>(f.type,f.offset))=fs:=by cases d <;> simp [kdOf] at h; exact ⟨_,rfl,h⟩
theorem PL (h:Agrees P t ti) (w:World): ∃ d,(underlying t).run P w= .ok d w/\kdOf d=ti.kd:=by obtain ⟨d,h1,h2⟩:=h.und;exact ⟨d,run_underlying h1 w,h2⟩
theorem oe (h:Agrees P t ti) (w:World): ∃ i,(typeInfo t).run P w= .ok i w/\i.size=ti.size/\i.bytes=ti.bytes/\i.zero=some ti.zero:=by obtain ⟨i,h1,h2⟩:=h.info;exact ⟨i,by simp [typeInfo,h1],h2⟩
theorem eG (h:Agrees P t ti) (w:World):(Go.sizeOf t).run P w= .ok ti.size w:=by obtain ⟨i,h1,h2,_⟩:=oe h w;simp [Go.sizeOf,h1,h2]
theorem kJ (h:Agrees P t ti) (w:World):(zeroValue t).run P w= .ok ti.zero w:=by obtain ⟨i,h1,_,_,h2⟩:=oe h w;simp [zeroValue,h1,h2]
theorem tJ (h:Agrees P t ti) (w:World):(Go.isAgg t).run P w= .ok (isAgg ti.kd) w:=by obtain ⟨d,h1,h2⟩:=PL h w;rw [<- h2];simp only [Go.isAgg,Sem.run_bind,h1,Result.andThen_ok];cases d <;> rfl
theorem LW {a:Addr} {v:Value} (h:hcell w.heap a=some v):(Go.load a).run P w= .ok v w:=by rw [<- Bo] at h;simp [Go.load,Sem.run,h]
theorem add_add (a:Addr) (i j:Nat):(a.add i).add j=a.add (i+j):=by
 unfold Addr.add
 by_cases hi:i=0
 ·subst hi; simp
 ·by_cases hj:j=0
  ·subst hj; simp [hi]
  ·rw [if_neg hi,if_neg hj,if_neg (by omega)]
   simp [Nat.add_assoc]
theorem m6 (k:IntKind) (n:Nat) (l:List Int) (i:Nat) (h:i<n):(lumpV k n l)[i]? =some (.int k (l.getD i 0)):=by simp only [lumpV,List.getElem?_map,nrm,qw l n 0 i h,Nat.zero_add,Option.map_some]
theorem jE: ∀ {gC:List CK} {h:Hp} {a:Addr} {i:Nat} {K:(Hp->Prop)->List Value->Prop},ldCs gC h a i K->
  ∃ f vs,K f vs/\f h/\vs.length=ckns gC/\ ∀ h',f h'-> ∀ j,(hj:j<vs.length)->hcell h' (a.add (i+j))=some vs[j]
 | [],h,a,i,K,H=>⟨_,_,H,trivial,rfl,fun h' _ j hj=>absurd hj (by simp)⟩
 | c::cs,h,a,i,K,H=>by
  have one:ckn c=1->ldC c h (a.add i) (fun f v=>ldCs cs h a (i+1) fun g vs=>K (fun h'=>f h'/\g h') (v::vs))->
    ∃ f vs,K f vs/\f h/\vs.length=ckns (c::cs)/\ ∀ h',f h'-> ∀ j,(hj:j<vs.length)->hcell h' (a.add (i+j))=some vs[j]:=by
   intro hc H;obtain ⟨v,h1,h2⟩:=m5 H;obtain ⟨f,vs,h3,h4,h5,h6⟩:=jE h2;refine ⟨_,_,h3,⟨h1,h4⟩,by simp [h5,ckns,hc,Nat.add_comm],fun h' hf j hj=> ?_⟩
   cases j with
   | zero=>simpa using hf.1
   | succ j=>have:=h6 h' hf.2 j (by simpa using hj); simpa [Nat.add_assoc,Nat.add_comm 1 j] using this
  cases c with
  | lump k n=>
   obtain ⟨l,hl,h1,h2⟩:=(H:ldL k n h (a.add i) _)
   obtain ⟨f,vs,h3,h4,h5,h6⟩:=jE h2;refine ⟨_,_,h3,⟨h1,h4⟩,by simp [h5,ckns,ckn,cm],fun h' hf j hj=> ?_⟩
   by_cases hjn:j<n
   ·have e1:=hf.1 j hjn
    rw [add_add] at e1;rw [e1,<- m6 k n l j hjn];rw [<- List.getElem?_eq_getElem hj,List.getElem?_append_left (by rw [cm]; exact hjn)]
   ·have VH:j - n<vs.length:=by simp [cm] at hj; omega
    have:=h6 h' hf.2 (j - n) VH;rw [show i+n+(j - n)=i+j from by omega] at this
    rw [this,<- List.getElem?_eq_getElem hj,<- List.getElem?_eq_getElem VH,List.getElem?_append_right (by rw [cm]; omega),cm]
  | int k=>exact one rfl H
  | bool=>exact one rfl H
  | str=>exact one rfl H
  | ptr=>exact one rfl H
  | sl=>exact one rfl H
  | map=>exact one rfl H
  | any=>exact one rfl H
theorem kK {a:Addr} {n:Nat} {vs:List Value} (hn:vs.length=n) (h: ∀ j,(hj:j<vs.length)->hcell w.heap (a.add j)=some vs[j]):
  (loadCells a n).run P w= .ok vs.toArray w:=by
 subst hn;refine run_loadCells_list _ a vs fun j v hj=> ?_;rw [List.getElem?_eq_some_iff] at hj;obtain ⟨hj,rfl⟩:=hj;exact h j hj
theorem og (h:Agrees P t ti) {a:Addr} {vs:List Value} (hg:isAgg ti.kd=true) (hn:vs.length=ti.size)
  (hv: ∀ j,(hj:j<vs.length)->hcell w.heap (a.add j)=some vs[j]):(loadVar t a).run P w= .ok (.agg vs.toArray) w:=by
 simp only [loadVar,Sem.run_bind,tJ h,hg,Result.andThen_ok,if_true,eG h,kK hn hv,Sem.run_pure]
theorem mw (h:Agrees P t ti) {a:Addr} {v:Value} (hg:isAgg ti.kd=false) (hv:hcell w.heap a=some v):
  (loadVar t a).run P w= .ok v w:=by
 simp only [loadVar,Sem.run_bind,tJ h,hg,Result.andThen_ok,Bool.false_eq_true,if_false,LW hv]
theorem KK {a:Option Addr} {n:Nat} {j:Int} {size:Nat} {K:Addr->Prop} (H:ixW a n j size K): ∃ b,a=some b/\0<=j/\j<n/\K (b.add (j.toNat*size)):=by obtain ⟨b,h1,h2,h3⟩:=H; exact ⟨b,h1,h2.1,h2.2,h3⟩
theorem Iu {op:BinOp} {k:IntKind} {a b:Int} {K:Value->Prop} (H:intB op k a b K): ∃ v,K v/\ ∀ (t:Nat) (w:World),(binOp op t (.int k a) (.int k b)).run P w= .ok v w:=by
 cases op <;> simp only [intB] at H <;> first | exact H.elim | skip
 case quo=>exact ⟨_,H.2,fun t w=>by simp [binOp,Op.intDiv,H.1]⟩
 case rem=>exact ⟨_,H.2,fun t w=>by simp [binOp,Op.intDiv,H.1]⟩
 all_goals exact ⟨_,H,fun t w=>by simp [binOp,Op.intArith,Op.intBits,Op.intCmp]⟩
theorem KL {op:BinOp} {k k':IntKind} {a b:Int} {K:Value->Prop} (H:shW op k a b K): ∃ v,K v/\ ∀ (t:Nat) (w:World),(binOp op t (.int k a) (.int k' b)).run P w= .ok v w:=by
 cases op <;> simp only [shW] at H <;> first | exact H.elim | skip
 all_goals
  obtain ⟨h0,H⟩:=H;exact ⟨_,H,fun t w=>by simp [binOp,Op.shift,Int.not_lt.2 h0]⟩
theorem LX {op:BinOp} {a b:ByteArray} {K:Value->Prop} (H:strB op a b K): ∃ v,K v/\ ∀ (t:Nat) (w:World),(binOp op t (.string a) (.string b)).run P w= .ok v w:=by
 cases op <;> simp only [strB] at H <;> first | exact H.elim | skip
 case add=>exact ⟨_,H.2,fun t w=>by simp only [binOp,Op.stringOp]; rw [if_neg (by have:=H.1; omega)]; rfl⟩
 all_goals exact ⟨_,H,fun t w=>by simp [binOp,Op.stringOp]⟩
theorem zy {K:Value->Prop} {cs:Array Value} {off:Nat} (hA:Agrees P t ti) (H:partW ti cs.toList off K):
  ∃ v,K v/\ ∀ w:World,(part t cs off).run P w= .ok v w:=by
 unfold partW at H
 cases hg:isAgg ti.kd with
 | true=>
  rw [hg] at H;refine ⟨_,H,fun w=> ?_⟩;simp only [part,Sem.run_bind,tJ hA,hg,Result.andThen_ok,if_true,eG hA,Sem.run_pure];congr 2;apply Array.ext'
  rw [Array.toList_extract,List.extract_eq_take_drop]; simp
 | false=>
  rw [hg] at H; simp only [cond_false,cnd] at H;split at H
  case h_2=>exact H.elim
  rename_i v l e;refine ⟨_,H,fun w=> ?_⟩
  have:cs[off]? =some v:=by
   rw [<- Array.getElem?_toList];have:=congrArg List.head? e
   rwa [List.head?_drop] at this
  simp [part,tJ hA,hg,this]
theorem wG (eqf:Nat->Value->Value->Sem Bool) {eq:Nat->Value->Value->(Bool->Prop)->Prop} {xs ys:Array Value} (hA:Agree P τ)
  (hq: ∀ t x y K,eq t x y K-> ∃ b,K b/\ ∀ w:World,(eqf t x y).run P w= .ok b w): ∀ (f:List Field) (K:Bool->Prop),f.all (fun f=>f.name != "_")=true->
  eqFs τ eq xs.toList ys.toList (f.map fun f=>(f.type,f.offset)) K-> ∃ b,K b/\ ∀ w:World,
   (forIn (m:=Sem) f ((none,()):Option Bool × Unit) fun (f:Field) _=>
    if f.name ≠ "_" then do
     let u <- part f.type xs f.offset
     let v <- part f.type ys f.offset
     let b <- eqf f.type u v
     if (!b)=true then pure (ForInStep.done (some false,())) else pure (ForInStep.yield (none,()))
    else pure (ForInStep.yield (none,()))).run P w= .ok (if b=true then none else some false,()) w
 | [],K,_,H=>⟨true,H,fun w=>rfl⟩
 | x::f,K,hn,H=>by
  simp only [List.all_cons,Bool.and_eq_true] at hn;simp only [List.map_cons,eqFs] at H;split at H
  ·exact H.elim
  rename_i tf htf;obtain ⟨u,H,hu⟩:=zy (hA _ _ htf) H;obtain ⟨v,H,hv⟩:=zy (hA _ _ htf) H;obtain ⟨b,H,hb⟩:=hq _ _ _ _ H;obtain ⟨c,H,hc⟩:=wG eqf hA hq f _ hn.2 H;refine ⟨b && c,H,fun w=> ?_⟩;have hne:x.name ≠ "_" :=by simpa using hn.1
  simp only [List.forIn_cons,if_pos hne,Sem.run_bind,hu,hv,hb,Result.andThen_ok]
  cases b with
  | false=>simp
  | true=>simp only [Bool.not_true,Bool.false_eq_true,if_false,Sem.run_pure,Result.andThen_ok,Bool.true_and]; exact hc w
theorem wH (eqf:Value->Value->Sem Bool) {e n:Nat} {te:TI} {k:IntKind} {xs ys:Array Value} {l m:List Int} (hA:Agrees P e te) (hg:isAgg te.kd=false)
  (hx:xs.toList=l.map (Value.int k)) (hy:ys.toList=m.map (Value.int k)) (l1:l.length=n) (l2:m.length=n)
  (hq: ∀ a b,∀ w:World,(eqf (.int k a) (.int k b)).run P w= .ok (a==b) w): ∀ (r i:Nat),i+r=n-> ∀ w:World,
   (forIn (m:=Sem) (List.range' i r) ((none,()):Option Bool × Unit) fun (i:Nat) _=>do
     let u <- part e xs (i*1)
     let v <- part e ys (i*1)
     let b <- eqf u v
     if (!b)=true then pure (ForInStep.done (some false,())) else pure (ForInStep.yield (none,()))).run P w=
    .ok (if (l.drop i==m.drop i)=true then none else some false,()) w
 | 0,i,hi,w=>by
  rw [List.drop_eq_nil_of_le (by omega),List.drop_eq_nil_of_le (by omega)]
  rfl
 | r+1,i,hi,w=>by
  have hp: ∀ (zs:Array Value) (z:List Int) (hz:zs.toList=z.map (Value.int k)) (lz:i<z.length) (w:World),(part e zs (i*1)).run P w= .ok (.int k z[i]) w:=by
   intro zs z hz lz w
   have:zs[i]? =some (.int k z[i]):=by rw [<- Array.getElem?_toList,hz,List.getElem?_map,List.getElem?_eq_getElem lz]; rfl
   simp [part,tJ hA,hg,this]
  rw [List.range'_succ,List.forIn_cons];simp only [Sem.run_bind,hp xs l hx (by omega),hp ys m hy (by omega),hq,Result.andThen_ok];have e1:l.drop i=l[i]::l.drop (i+1):=List.drop_eq_getElem_cons (by omega);have e2:m.drop i=m[i]::m.drop (i+1):=List.drop_eq_getElem_cons (by omega);rw [e1,e2];have ih:=wH eqf hA hg hx hy l1 l2 hq r (i+1) (by omega) w
  by_cases he:l[i]=m[i]
  ·have hb:(l[i]==m[i])=true:=by simp [he]
   simp only [hb,Bool.not_true,Bool.false_eq_true,if_false,Sem.run_pure,Result.andThen_ok,List.cons_beq_cons,Bool.true_and];exact ih
  ·have hb:(l[i]==m[i])=false:=by simp [he]
   simp only [hb,Bool.not_false,if_true,Sem.run_pure,Result.andThen_ok,List.cons_beq_cons,Bool.false_and,Bool.false_eq_true,if_false]
theorem oh (hA:Agree P τ): ∀ (d d' t:Nat) (x y:Value) (K:Bool->Prop),d<d'->eqW τ d t x y K-> ∃ b,K b/\ ∀ w:World,(Op.equalIn d' t x y).run P w= .ok b w
 | 0,_,_,_,_,_,_,H=>by simp only [eqW] at H
 | d+1,0,_,_,_,_,hd,_=>by omega
 | d+1,d'+1,t,x,y,K,hd,H=>by
  simp only [eqW] at H;split at H
  ·exact H.elim
  rename_i ti ht;obtain ⟨ds,hds,hk,he⟩:=(hA t ti ht).eqf;have hu: ∀ w:World,(underlying t).run P w= .ok ds w:=fun w=>run_underlying hds w;split at H
  case h_1 a b e=>rw [e] at hk; obtain rfl:=tE hk; exact ⟨_,H,fun w=>by simp [Op.equalIn,hu]⟩
  case h_2 k0 k a k' b e=>
   rw [e] at hk; obtain rfl:=jb hk
   by_cases hkk:k=k'
   ·subst hkk; simp [cnd] at H; exact ⟨_,H,fun w=>by simp [Op.equalIn,hu]⟩
   ·simp [cnd,hkk] at H
  case h_3 a b e=>rw [e] at hk; obtain rfl:=gF hk; exact ⟨_,H,fun w=>by simp [Op.equalIn,hu]⟩
  case h_4 fs xs ys e=>
   rw [e] at hk; obtain ⟨f,rfl,hf⟩:=jt hk
   cases hq:ti.eq with
   | false=>rw [hq] at H; exact H.elim
   | true=> rw [hq] at H he; simp only [cnd] at H;simp only [eqOf,Bool.and_eq_true,Bool.not_eq_true'] at he;subst hf;obtain ⟨b,h1,h2⟩:=wG (P:=P) (Op.equalIn d') hA (fun t x y K h=>oh hA d d' t x y K (by omega) h) f.toList K he.1.1 H;refine ⟨b,h1,fun w=> ?_⟩;unfold Op.equalIn;simp only [Sem.run_bind,hu,Result.andThen_ok,run_program,he.1.2,Bool.false_eq_true,if_false];rw [<- Array.forIn_toList];rw [h2 w];cases b <;> rfl
  case h_5 n e' xs ys e=>
   rw [e] at hk; obtain rfl:=jC hk;split at H
   case h_2=>exact H.elim
   rename_i te hte;split at H
   case h_2=>exact H.elim
   rename_i k ek
   cases hc:(Nat.beq te.size 1 && intsOk k n xs.toList && intsOk k n ys.toList) with
   | false=>rw [hc] at H; exact H.elim
   | true=>
    rw [hc] at H; simp only [cnd] at H;simp only [Bool.and_eq_true,Nat.beq_eq] at hc;obtain ⟨de,hde,hke⟩:=(hA e' te hte).und;rw [ek] at hke; obtain rfl:=jb hke;have hue: ∀ w:World,(underlying e').run P w= .ok (.int k) w:=fun w=>run_underlying hde w;obtain ⟨x1,x2⟩:=lI hc.1.2;obtain ⟨y1,y2⟩:=lI hc.2;refine ⟨_,H,fun w=> ?_⟩
    cases d' with
    | zero=>omega
    | succ d'=>
    have l1:(unInts xs.toList).length=n:=by have:=congrArg List.length x1; simp at this x2; omega
    have l2:(unInts ys.toList).length=n:=by have:=congrArg List.length y1; simp at this y2; omega
    have key:=wH (P:=P) (Op.equalIn (d'+1) e') (hA e' te hte) (by rw [ek]; rfl) x1 y1 l1 l2 (fun a b w=>by simp [Op.equalIn,hue]) n 0 (by omega) w;have hsz: ∀ w:World,(Go.sizeOf e').run P w= .ok 1 w:=fun w=>by rw [eG (hA e' te hte),hc.1.1]
    unfold Op.equalIn;simp only [Sem.run_bind,hu,Result.andThen_ok,hsz];rw [Std.Legacy.Range.forIn_eq_forIn_range'];simp only [Std.Legacy.Range.size] at key |-
    simp only [Nat.sub_zero,Nat.add_sub_cancel,Nat.div_one];rw [key];simp only [List.drop_zero,Result.andThen_ok];cases (unInts xs.toList==unInts ys.toList) <;> rfl
  case h_6=>exact H.elim
theorem LY (hT:Agree P τ) (ht:τ.get t=some ti) {x y:Value} {K:Bool->Prop} (H:eqB τ t ti x y K):
  ∃ b,K b/\ ∀ w:World,(Op.equal t x y).run P w= .ok b w:=by
 have h:=hT t ti ht;obtain ⟨d,hd,hk⟩:=h.und;have hu: ∀ w:World,(underlying t).run P w= .ok d w:=fun w=>run_underlying hd w
 obtain ⟨n,hn⟩: ∃ n,Op.maxDepth=n+1:=⟨9999,rfl⟩
 unfold eqB at H;split at H
 case h_1 fs a b e=>
  cases hq:ti.eq with
  | false=>rw [hq] at H; exact H.elim
  | true=>rw [hq] at H; exact oh hT 6 Op.maxDepth t _ _ K (by decide) H
 case h_2 m fs a b e=>
  cases hq:ti.eq with
  | false=>rw [hq] at H; exact H.elim
  | true=>rw [hq] at H; exact oh hT 6 Op.maxDepth t _ _ K (by decide) H
 case h_3 a b e=>rw [e] at hk; obtain rfl:=tE hk; exact ⟨_,H,fun w=>by simp [Op.equal,hn,Op.equalIn,hu]⟩
 case h_4 a e=>rw [e] at hk; obtain rfl:=wF hk; exact ⟨_,H,fun w=>by cases a <;> simp [Op.equal,hn,Op.equalIn,hu]⟩
 case h_5 a _ e=>rw [e] at hk; obtain rfl:=wF hk; exact ⟨_,H,fun w=>by simp [Op.equal,hn,Op.equalIn,hu]⟩
 case h_6 a _ _ _ _ e=>rw [e] at hk; obtain rfl:=cW hk; exact ⟨_,H,fun w=>by cases a <;> simp [Op.equal,hn,Op.equalIn,hu]⟩
 case h_7 a e=>rw [e] at hk; obtain rfl:=jD hk; exact ⟨_,H,fun w=>by cases a <;> simp [Op.equal,hn,Op.equalIn,hu]⟩
 case h_8 e=>rw [e] at hk; obtain ⟨_,_,_,rfl⟩:=tH hk; exact ⟨_,H,fun w=>by simp [Op.equal,hn,Op.equalIn,hu]⟩
 case h_9 e=>rw [e] at hk; obtain ⟨_,_,_,rfl⟩:=tH hk; exact ⟨_,H,fun w=>by simp [Op.equal,hn,Op.equalIn,hu]⟩
 case h_10=>exact H.elim
theorem tK {op:BinOp} {x y:Operand} {a b:Array Value} (h:Agrees P t ti) (hq:ti.eq=true) (hg:isAgg ti.kd=true) (w:World):(eqGuard op t x y (.agg a) (.agg b)).run P w= .ok () w:=by
 obtain ⟨d,hd,hk,he⟩:=h.eqf
 have:P.eqGuardType P.depth t=false:=by
  rw [hq] at he;rw [<- hk] at hg;cases d <;> simp [kdOf,isAgg] at hg <;> simp only [eqOf,Bool.and_eq_true,Bool.not_eq_true'] at he
  ·exact he
  ·exact he.2
 unfold eqGuard;cases op <;> simp [run_program,this]
end Go.Wc
namespace Go.Wc
variable {P:Program} {τ:Tys} {t:Nat} {ti:TI} {w:World} {Γ:Env} {h:Hp}
def Yl (P:Program) (o:Oper) (Γ:Env) (h:Hp) (K:(Hp->Prop)->Value->Prop):Prop:=
 ∃ f v,K f v/\f h/\ ∀ w:World,f w.heap->(execOp (ev Γ) o).run P w= .ok (.value v) w
theorem DQ {o:Oper} {op:BinOp} {t:Nat} {x y:Operand} {u:Nat} {K:(Hp->Prop)->Value->Prop} (ho:o.op= .binOp op t x y u)
  (hA:Agree P τ) (H:binW τ op t (ev Γ x) (ev Γ y) (K fun _=>True)):Yl P o Γ h K:=by
 suffices ∃ v,K (fun _=>True) v/\ ∀ w:World,((do eqGuard op t x y (ev Γ x) (ev Γ y); binOp op t (ev Γ x) (ev Γ y):Sem Value)).run P w= .ok v w by obtain ⟨v,h1,h2⟩:=this;exact ⟨_,v,h1,trivial,fun w _=>by simp only [execOp,ho]; simp only [Sem.run_bind] at h2 |-; simp only [h2]; rfl⟩
 unfold binW at H;split at H
 case h_1 k a k' b e1 e2=>
  rw [e1,e2];have hg: ∀ w:World,(eqGuard op t x y (.int k a) (.int k' b)).run P w= .ok () w:=fun w=>by unfold eqGuard; split <;> rfl
  simp only [Sem.run_bind,hg,Result.andThen_ok];split at H
  case h_1=>obtain ⟨v,h1,h2⟩:=KL H; exact ⟨v,h1,h2 t⟩
  case h_2=>obtain ⟨v,h1,h2⟩:=KL H; exact ⟨v,h1,h2 t⟩
  case h_3=>
   by_cases hk:k=k'
   ·subst hk; simp [cnd] at H; obtain ⟨v,h1,h2⟩:=Iu H; exact ⟨v,h1,h2 t⟩
   ·simp [hk,cnd] at H
 case h_2 a b e1 e2=>
  rw [e1,e2];have hg: ∀ w:World,(eqGuard op t x y (.string a) (.string b)).run P w= .ok () w:=fun w=>by unfold eqGuard; split <;> rfl
  simp only [Sem.run_bind,hg,Result.andThen_ok];obtain ⟨v,h1,h2⟩:=LX H; exact ⟨v,h1,h2 t⟩
 case h_3 n1 n2=>
  split at H
  ·exact H.elim
  rename_i ti ht;have hAt:=hA t ti ht
  have key: ∀ K':Bool->Prop,eqB τ t ti (ev Γ x) (ev Γ y) K'-> ∃ b,K' b/\(∀ w:World,(Op.equal t (ev Γ x) (ev Γ y)).run P w= .ok b w)/\
    (∀ w:World,(eqGuard op t x y (ev Γ x) (ev Γ y)).run P w= .ok () w)/\
    (op= .eql->binOp op t (ev Γ x) (ev Γ y)=(do pure (.bool (<- Op.equal t (ev Γ x) (ev Γ y)))))/\
    (op= .neq->binOp op t (ev Γ x) (ev Γ y)=(do pure (.bool (!(<- Op.equal t (ev Γ x) (ev Γ y)))))):=by
   intro K' HK;obtain ⟨b,h1,h2⟩:=LY hA ht HK;refine ⟨b,h1,h2, ?_⟩;unfold eqB at HK;split at HK <;> first | exact HK.elim | skip
   case h_1=>
    rename_i e0 e1 e2
    cases hq:ti.eq with
    | false=>rw [hq] at HK; exact HK.elim
    | true=>rw [e1,e2]; exact ⟨fun w=>tK hAt hq (by rw [e0]; rfl) w,fun e=>by subst e; rfl,fun e=>by subst e; rfl⟩
   case h_2=>
    rename_i e0 e1 e2
    cases hq:ti.eq with
    | false=>rw [hq] at HK; exact HK.elim
    | true=>rw [e1,e2]; exact ⟨fun w=>tK hAt hq (by rw [e0]; rfl) w,fun e=>by subst e; rfl,fun e=>by subst e; rfl⟩
   all_goals (rename_i e1 e2; rw [e1,e2]; exact ⟨fun w=>by unfold eqGuard; split <;> rfl,fun e=>by subst e; rfl,fun e=>by subst e; rfl⟩)
  split at H
  case h_1=>
   obtain ⟨b,h1,h2,h3,h4,_⟩:=key _ H;exact ⟨_,h1,fun w=>by rw [h4 rfl]; simp [h3,h2]⟩
  case h_2=>
   obtain ⟨b,h1,h2,h3,_,h4⟩:=key _ H;exact ⟨_,h1,fun w=>by rw [h4 rfl]; simp [h3,h2]⟩
  case h_3=>exact H.elim
theorem Iv {o:Oper} {op:UnOp} {x:Operand} {u:Nat} {K:(Hp->Prop)->Value->Prop} (ho:o.op= .unOp op u x)
  (H:unW op (ev Γ x) (K fun _=>True)):Yl P o Γ h K:=by
 unfold unW at H;split at H
 case h_1 b e=>exact ⟨_,_,H,trivial,fun w _=>by simp [execOp,ho,e,Op.unary]⟩
 case h_2 k n e=>exact ⟨_,_,H,trivial,fun w _=>by simp [execOp,ho,e,Op.unary,Op.intArith]⟩
 case h_3 k n e=>exact ⟨_,_,H,trivial,fun w _=>by simp [execOp,ho,e,Op.unary,Op.intBits]⟩
 case h_4=>exact H.elim
theorem Iw {o:Oper} {t:Nat} {a:Operand} {K:(Hp->Prop)->Value->Prop} (ho:o.op= .load t a)
  (hA:Agree P τ) (H:opR τ (.load t a) Γ h K):Yl P o Γ h K:=by
 simp only [opR] at H;split at H
 case h_2=>exact H.elim
 rename_i p e;split at H
 case h_2=>exact H.elim
 rename_i ti ht;have hAt:=hA t ti ht
 cases hg:isAgg ti.kd with
 | true=>
  rw [hg] at H
  cases hn:Nat.beq (ckns ti.gC) ti.size with
  | false=>rw [hn] at H; exact H.elim
  | true=>
   rw [hn] at H; simp only [cond_true,cnd] at H;obtain ⟨f,vs,h1,h2,h3,h4⟩:=jE H;have hl:vs.length=ti.size:=by rw [h3]; simpa using hn
   refine ⟨_,_,h1,h2,fun w hf=> ?_⟩;simp only [execOp,ho,e,Instr.loadAt,Instr.sureAddr,Sem.run_bind,Sem.run_pure,Result.andThen_ok];rw [og hAt hg hl (fun j hj=>by simpa using h4 w.heap hf j hj)]
   rfl
 | false=>
  rw [hg] at H; simp only [cond_false,cnd] at H;split at H
  case h_2=>exact H.elim
  obtain ⟨v,h1,h2⟩:=m5 H;refine ⟨_,_,h2,h1,fun w hf=> ?_⟩;simp only [execOp,ho,e,Instr.loadAt,Instr.sureAddr,Sem.run_bind,Sem.run_pure,Result.andThen_ok];rw [mw hAt hg hf];rfl
theorem wI {o:Oper} {x:Operand} {K:(Hp->Prop)->Value->Prop} (ho:o.op= .nilCheck x)
  (H:opR τ (.nilCheck x) Γ h K):Yl P o Γ h K:=by
 simp only [opR] at H;split at H
 case h_1 p e=>
  cases p with
  | none=>exact H.elim
  | some a=>exact ⟨_,_,H,trivial,fun w _=>by simp [execOp,ho,e]⟩
 case h_2 f a b e=>exact ⟨_,_,H,trivial,fun w _=>by simp [execOp,ho,e]⟩
 case h_3=>exact H.elim
theorem qa {s:Sl} {lo hi:Int} {size:Nat} {K:Sl->Prop} (H:slW s lo hi size K):
  K ⟨if s.cap=lo.toNat then s.a else s.a.map (·.add (lo.toNat*size)),hi.toNat - lo.toNat,s.cap - lo.toNat⟩/\0<=lo/\lo<=hi/\0<=hi/\hi<=s.cap:=
 ⟨H.2.2,H.2.1.1,H.2.1.2,H.1.1,H.1.2⟩
theorem gh {k:IntKind} {i:Int} {y:Nat} {c:BoundsCode} (h0:0<=i) (h1:i<=y):(Instr.sliceBound (.int k i) y c).run P w= .ok i.toNat w:=by simp [Instr.sliceBound,asIntOf,h0,h1]
theorem DR {o:Oper} {t:Nat} {x:Operand} {lo hi:Option Operand} {K:(Hp->Prop)->Value->Prop} (ho:o.op= .slice t x lo hi none)
  (hA:Agree P τ) (H:opR τ (.slice t x lo hi none) Γ h K):Yl P o Γ h K:=by
 simp only [opR] at H;split at H
 case h_2=>exact H.elim
 rename_i ti ht;have hAt:=hA t ti ht;obtain ⟨d,hd,hk⟩:=hAt.und;have hu: ∀ w:World,(underlying t).run P w= .ok d w:=fun w=>run_underlying hd w;split at H
 case h_4=>exact H.elim
 case h_1 e a n c k i e1 e2 e3=>
  rw [e1] at hk; obtain rfl:=cW hk;split at H
  case h_2=>exact H.elim
  rename_i te hte;have hs:=eG (hA e te hte)
  cases hi with
  | none=>
   obtain ⟨h1,h2,h3,h4,h5⟩:=qa H;refine ⟨_,_,h1,trivial,fun w _=> ?_⟩
   cases lo with
   | none=>
    simp only at e3; cases e3
    simp [execOp,ho,e2,Instr.sliceAt,hu,Instr.slice,Instr.sliceBounds,hs]
   | some l=>
    simp only at e3;have hb:=gh (P:=P) (w:=w) (k:=k) (c:= .sliceB) h2 h3
    simp [execOp,ho,e2,e3,Instr.sliceAt,hu,Instr.slice,Instr.sliceBounds,hs,hb]
  | some y=>
   simp only at H;split at H
   case h_2=>exact H.elim
   rename_i k2 j ey;obtain ⟨h1,h2,h3,h4,h5⟩:=qa H;refine ⟨_,_,h1,trivial,fun w _=> ?_⟩;have m7:=gh (P:=P) (w:=w) (k:=k2) (c:= .sliceAcap) h4 h5
   cases lo with
   | none=>
    simp only at e3; cases e3
    simp [execOp,ho,e2,ey,Instr.sliceAt,hu,Instr.slice,Instr.sliceBounds,hs,m7]
   | some l=> simp only at e3;have hb:=gh (P:=P) (w:=w) (k:=k) (c:= .sliceB) (y:=j.toNat) h2 (by omega);simp [execOp,ho,e2,e3,ey,Instr.sliceAt,hu,Instr.slice,Instr.sliceBounds,hs,hb,m7]
 case h_2 s k i e1 e2 e3=>
  rw [e1] at hk; obtain rfl:=gF hk
  cases hi with
  | none=>
   obtain ⟨⟨h1,h2⟩,⟨h3,h4⟩,h5⟩:=H;refine ⟨_,_,h5,trivial,fun w _=> ?_⟩
   cases lo with
   | none=>
    simp only at e3; cases e3
    simp [execOp,ho,e2,Instr.sliceAt,hu,Instr.slice,Instr.sliceBounds]
   | some l=>
    simp only at e3;have hb:=gh (P:=P) (w:=w) (k:=k) (c:= .sliceB) h3 h4
    simp [execOp,ho,e2,e3,Instr.sliceAt,hu,Instr.slice,Instr.sliceBounds,hb]
  | some y=>
   simp only at H;split at H
   case h_2=>exact H.elim
   rename_i k2 j ey;obtain ⟨⟨h1,h2⟩,⟨h3,h4⟩,h5⟩:=H;refine ⟨_,_,h5,trivial,fun w _=> ?_⟩;have m7:=gh (P:=P) (w:=w) (k:=k2) (c:= .sliceAlen) h1 h2
   cases lo with
   | none=>
    simp only at e3; cases e3
    simp [execOp,ho,e2,ey,Instr.sliceAt,hu,Instr.slice,Instr.sliceBounds,m7]
   | some l=> simp only at e3;have hb:=gh (P:=P) (w:=w) (k:=k) (c:= .sliceB) (y:=j.toNat) h3 (by omega);simp [execOp,ho,e2,e3,ey,Instr.sliceAt,hu,Instr.slice,Instr.sliceBounds,hb,m7]
 case h_3 n e p k i e1 e2 e3=>
  rw [e1] at hk; obtain rfl:=jC hk;split at H
  case h_2=>exact H.elim
  rename_i te hte;have hs:=eG (hA e te hte)
  cases hi with
  | none=>
   obtain ⟨h1,h2,h3,h4,h5⟩:=qa H;refine ⟨_,_,h1,trivial,fun w _=> ?_⟩
   cases lo with
   | none=>
    simp only at e3; cases e3;simp [execOp,ho,e2,Instr.sliceAt,Instr.sureAddr,hu,Instr.sliceBounds,hs]
    by_cases hc:n=0 <;> simp [hc]
   | some l=>
    simp only at e3;have hb:=gh (P:=P) (w:=w) (k:=k) (c:= .sliceB) h2 h3;simp only [execOp,ho,e2,e3,Instr.sliceAt,Instr.sureAddr,hu,Instr.sliceBounds,hs,hb,Option.map_some,Option.map_none,Sem.run_bind,Result.andThen_ok,Sem.run_pure,Option.isSome_none,Bool.false_eq_true,if_false]
    by_cases hc:n=i.toNat <;> simp [hc]
  | some y=>
   simp only at H;split at H
   case h_2=>exact H.elim
   rename_i k2 j ey;obtain ⟨h1,h2,h3,h4,h5⟩:=qa H;refine ⟨_,_,h1,trivial,fun w _=> ?_⟩;have m7:=gh (P:=P) (w:=w) (k:=k2) (c:= .sliceAlen) h4 h5
   cases lo with
   | none=>
    simp only at e3; cases e3;simp [execOp,ho,e2,ey,Instr.sliceAt,Instr.sureAddr,hu,Instr.sliceBounds,hs,m7]
    by_cases hc:n=0 <;> simp [hc]
   | some l=>
    simp only at e3;have hb:=gh (P:=P) (w:=w) (k:=k) (c:= .sliceB) (y:=j.toNat) h2 (by omega);simp only [execOp,ho,e2,e3,ey,Instr.sliceAt,Instr.sureAddr,hu,Instr.sliceBounds,hs,hb,m7,Option.map_some,Option.map_none,Sem.run_bind,Result.andThen_ok,Sem.run_pure,Option.isSome_none,Bool.false_eq_true,if_false]
    by_cases hc:n=i.toNat <;> simp [hc]
theorem Cw {o:Oper} {t:Nat} {x y z:Operand} {lo:Option Operand} {K:(Hp->Prop)->Value->Prop} (ho:o.op= .slice t x lo (some y) (some z))
  (hA:Agree P τ) (H:opR τ (.slice t x lo (some y) (some z)) Γ h K):Yl P o Γ h K:=by
 simp only [opR] at H;split at H
 case h_2=>exact H.elim
 rename_i ti ht;have hAt:=hA t ti ht;obtain ⟨d,hd,hk⟩:=hAt.und;have hu: ∀ w:World,(underlying t).run P w= .ok d w:=fun w=>run_underlying hd w;split at H
 case h_2=>exact H.elim
 case h_1 e a n c k1 i k2 j k3 m e1 e2 e3 e4 e5=>
  rw [e1] at hk; obtain rfl:=cW hk;split at H
  case h_2=>exact H.elim
  rename_i te hte;have hs:=eG (hA e te hte);obtain ⟨⟨h1,h2⟩,⟨h3,h4⟩,⟨h5,h6⟩,h7⟩:=H;refine ⟨_,_,h7,trivial,fun w _=> ?_⟩;have b1:=gh (P:=P) (w:=w) (k:=k3) (c:= .slice3Acap) h1 h2;have b2:=gh (P:=P) (w:=w) (k:=k2) (c:= .slice3B) (y:=m.toNat) h3 (by omega);have b3:=gh (P:=P) (w:=w) (k:=k1) (c:= .slice3C) (y:=j.toNat) h5 (by omega)
  cases lo with
  | none=>
   simp only at e3; cases e3
   simp [execOp,ho,e2,e4,e5,Instr.sliceAt,hu,Instr.slice,Instr.sliceBounds,hs,b1,b2]
  | some l=> simp only at e3;simp [execOp,ho,e2,e3,e4,e5,Instr.sliceAt,hu,Instr.slice,Instr.sliceBounds,hs,b1,b2,b3]
theorem qz {f:Array Field} {fs:List (Nat × Nat)} {i ft off:Nat} (hf:f.toList.map (fun f=>(f.type,f.offset))=fs) (hi:fs[i]? =some (ft,off)):
  ∃ x,f[i]? =some x/\x.type=ft/\x.offset=off:=by
 subst hf;rw [List.getElem?_map] at hi;simp only [Array.getElem?_toList] at hi
 cases hx:f[i]? with
 | none=>rw [hx] at hi; simp at hi
 | some x=>rw [hx] at hi; simp at hi; exact ⟨x,rfl,hi.1,hi.2⟩
theorem u6 {o:Oper} {t:Nat} {x:Operand} {i:Nat} {K:(Hp->Prop)->Value->Prop} (ho:o.op= .fieldAddr t x i)
  (hA:Agree P τ) (H:opR τ (.fieldAddr t x i) Γ h K):Yl P o Γ h K:=by
 simp only [opR] at H;split at H
 case h_2=>exact H.elim
 rename_i ti ht;have hAt:=hA t ti ht;obtain ⟨d,hd,hk⟩:=hAt.und;have hu: ∀ w:World,(underlying t).run P w= .ok d w:=fun w=>run_underlying hd w;split at H
 case h_2=>exact H.elim
 case h_1 fs a e1 e2=>
  rw [e1] at hk; obtain ⟨f,rfl,hf⟩:=jt hk;split at H
  case h_2=>exact H.elim
  rename_i ft off hi;obtain ⟨y,hy,LZ,Ik⟩:=qz hf hi;split at H
  case h_2=>exact H.elim
  rename_i tf htf;have hs:=eG (hA ft tf htf)
  cases hz:Nat.beq tf.size 0 with
  | true=>rw [hz] at H; exact H.elim
  | false=>
   rw [hz] at H;have hz':tf.size ≠ 0:=by intro e; rw [e] at hz; cases hz
   refine ⟨_,_,H,trivial,fun w _=> ?_⟩;simp [execOp,ho,e2,Instr.fieldAt,Instr.sureAddr,hu,hy,LZ,Ik,Go.fieldPlace,hs,hz']
theorem DS {o:Oper} {t:Nat} {x:Operand} {i:Nat} {K:(Hp->Prop)->Value->Prop} (ho:o.op= .field t x i)
  (hA:Agree P τ) (H:opR τ (.field t x i) Γ h K):Yl P o Γ h K:=by
 simp only [opR] at H;split at H
 case h_2=>exact H.elim
 rename_i ti ht;have hAt:=hA t ti ht;obtain ⟨d,hd,hk⟩:=hAt.und;have hu: ∀ w:World,(underlying t).run P w= .ok d w:=fun w=>run_underlying hd w;split at H
 case h_2=>exact H.elim
 case h_1 fs a e1 e2=>
  rw [e1] at hk; obtain ⟨f,rfl,hf⟩:=jt hk;split at H
  case h_2=>exact H.elim
  rename_i ft off hi;obtain ⟨y,hy,LZ,Ik⟩:=qz hf hi;split at H
  case h_2=>exact H.elim
  rename_i tf htf;obtain ⟨v,h1,h2⟩:=zy (hA ft tf htf) H;refine ⟨_,_,h1,trivial,fun w _=> ?_⟩;simp [execOp,ho,e2,Instr.field,hu,hy,LZ,Ik,asAgg,h2]
theorem u7 {o:Oper} {t:Nat} {x i:Operand} {K:(Hp->Prop)->Value->Prop} (ho:o.op= .indexAddr t x i)
  (hA:Agree P τ) (H:opR τ (.indexAddr t x i) Γ h K):Yl P o Γ h K:=by
 simp only [opR] at H;split at H
 case h_2=>exact H.elim
 rename_i ti ht;have hAt:=hA t ti ht;obtain ⟨d,hd,hk⟩:=hAt.und;have hu: ∀ w:World,(underlying t).run P w= .ok d w:=fun w=>run_underlying hd w;split at H
 case h_3=>exact H.elim
 case h_1 e a n c k j e1 e2 e3=>
  rw [e1] at hk; obtain rfl:=cW hk;split at H
  case h_2=>exact H.elim
  rename_i te hte;obtain ⟨b,rfl,h1,h2,h3⟩:=KK H;refine ⟨_,_,h3,trivial,fun w _=> ?_⟩;simp [execOp,ho,e2,e3,Instr.indexAt,asIntOf,hu,eG (hA e te hte),h1,h2]
 case h_2 n e a k j e1 e2 e3=>
  rw [e1] at hk; obtain rfl:=jC hk;split at H
  case h_2=>exact H.elim
  rename_i te hte;obtain ⟨b,hb,h1,h2,h3⟩:=KK H;cases hb;refine ⟨_,_,h3,trivial,fun w _=> ?_⟩;simp [execOp,ho,e2,e3,Instr.indexAt,asIntOf,hu,eG (hA e te hte),h1,h2,Instr.sureAddr]
theorem DT {o:Oper} {t:Nat} {x i:Operand} {K:(Hp->Prop)->Value->Prop} (ho:o.op= .index t x i)
  (hA:Agree P τ) (H:opR τ (.index t x i) Γ h K):Yl P o Γ h K:=by
 simp only [opR] at H;split at H
 case h_2=>exact H.elim
 rename_i ti ht;have hAt:=hA t ti ht;obtain ⟨d,hd,hk⟩:=hAt.und;have hu: ∀ w:World,(underlying t).run P w= .ok d w:=fun w=>run_underlying hd w;split at H
 case h_3=>exact H.elim
 case h_2 n e cs k j e1 e2 e3=>
  rw [e1] at hk; obtain rfl:=jC hk;split at H
  case h_2=>exact H.elim
  rename_i te hte;split at H
  case h_2=>exact H.elim
  rename_i ik ek
  cases hc:(Nat.beq te.size 1 && intsOk ik n cs.toList) with
  | false=>rw [hc] at H; exact H.elim
  | true=>
   rw [hc] at H; simp only [cnd] at H;simp only [Bool.and_eq_true,Nat.beq_eq] at hc;obtain ⟨⟨h0,h1⟩,h2⟩:=H;refine ⟨_,_,h2,trivial,fun w _=> ?_⟩;obtain ⟨x1,x2⟩:=lI hc.2;have hlt:j.toNat<(unInts cs.toList).length:=by have:=congrArg List.length x1; simp at this x2; omega
   have hce:cs[j.toNat]? =some (.int ik ((unInts cs.toList).getD j.toNat 0)):=by
    have e4:cs.toList[j.toNat]? =((unInts cs.toList).map (Value.int ik))[j.toNat]? :=by rw [<- x1]
    rw [<- Array.getElem?_toList,e4,List.getElem?_map,List.getElem?_eq_getElem hlt];simp [List.getD_eq_getElem?_getD,List.getElem?_eq_getElem hlt]
   have hsz: ∀ w:World,(Go.sizeOf e).run P w= .ok 1 w:=fun w=>by rw [eG (hA e te hte),hc.1]
   simp [execOp,ho,e2,e3,Instr.index,asIntOf,hu,h0,h1,hsz,part,tJ (hA e te hte),ek,isAgg,hce]
 case h_1 s k j e1 e2 e3=>
  rw [e1] at hk; obtain rfl:=gF hk;obtain ⟨⟨h0,h1⟩,h2⟩:=H;refine ⟨_,_,h2,trivial,fun w _=> ?_⟩;have hlt:j.toNat<s.size:=by omega
  have e:s[j.toNat]? =some (s.data.toList.getD j.toNat 0):=by have V5:j.toNat<s.data.toList.length:=hlt;rw [getElem?_pos s j.toNat hlt];simp only [List.getD_eq_getElem?_getD,List.getElem?_eq_getElem V5,Option.getD_some];rfl
  simp [execOp,ho,e2,e3,Instr.index,asIntOf,hu,h0,e]
theorem zA {o:Oper} {x:Operand} {i:Nat} {K:(Hp->Prop)->Value->Prop} (ho:o.op= .extract x i)
  (H:opR τ (.extract x i) Γ h K):Yl P o Γ h K:=by
 simp only [opR] at H;split at H
 case h_2=>exact H.elim
 rename_i vs e;split at H
 case h_2=>exact H.elim
 rename_i v l e';refine ⟨_,_,H,trivial,fun w _=> ?_⟩
 have:vs[i]? =some v:=by
  rw [<- Array.getElem?_toList];have:=congrArg List.head? e'
  rwa [List.head?_drop] at this
 simp [execOp,ho,e,Instr.extract,this]
theorem wJ {o:Oper} {f:Fn} {x y:Array Operand} {K:(Hp->Prop)->Value->Prop} (ho:o.op= .makeFunc f x y)
  (H:opR τ (.makeFunc f x y) Γ h K):Yl P o Γ h K:=by
 refine ⟨_,_,H,trivial,fun w _=> ?_⟩;simp only [execOp,ho,Instr.makeFunc,Sem.run_bind,Sem.run_pure,Result.andThen_ok];rw [show Array.map (ev Γ) x=(List.map (ev Γ) x.toList).toArray from by apply Array.ext'; simp,show Array.map (ev Γ) y=(List.map (ev Γ) y.toList).toArray from by apply Array.ext'; simp]
theorem om {o:Oper} {x:Operand} {K:(Hp->Prop)->Value->Prop} (ho:o.op= .makeInterface t x)
  (hA:Agree P τ) (H:opR τ (.makeInterface t x) Γ h K):Yl P o Γ h K:=by
 simp only [opR] at H;split at H
 case h_2=>exact H.elim
 rename_i ti ht;obtain ⟨d,hd,hk⟩:=(hA t ti ht).und;have hu: ∀ w:World,(underlying t).run P w= .ok d w:=fun w=>run_underlying hd w;split at H
 case h_1=>exact H.elim
 rename_i hne;refine ⟨_,_,H,trivial,fun w _=> ?_⟩;simp only [execOp,ho,Instr.makeInterface,Sem.run_bind,hu,Result.andThen_ok];cases d <;> first | rfl | (exfalso; exact hne (by rw [<- hk]; rfl))
theorem PM {s:Sl} {K:(Hp->Prop)->ByteArray->Prop} (H:It h s K): ∃ f b,K f b/\f h/\ ∀ w:World,f w.heap->(Conv.bytesToString (.slice s.a s.len s.cap)).run P w= .ok (.string b) w:=by
 unfold It at H;split at H
 case h_1 e=>exact ⟨_,_,H,trivial,fun w _=>by rw [e]; simp [Conv.bytesToString]⟩
 case h_2 a e=>
  obtain ⟨bs,h1,h2⟩:=H;refine ⟨_,_,h2,h1,fun w hw=> ?_⟩;rw [e];obtain ⟨hl,hc⟩:=hw;simp only [Conv.bytesToString,Sem.run_bind,kK hl hc,Result.andThen_ok]
  have key: ∀ (g:Value->ByteArray->Sem (ForInStep ByteArray)),(∀ n r,g (.int .u8 n) r=pure (.yield (r.push (UInt8.ofNat n.toNat))))->
    ∀ (l:List UInt8) (acc:ByteArray),(forIn (m:=Sem) (l.map fun b=>Value.int .u8 b.toNat) acc g).run P w= .ok ⟨acc.data++l.toArray⟩ w:=by
   intro g hg l
   induction l with
   | nil=>intro acc; simp
   | cons b l ih=> intro acc;simp only [List.map_cons,List.forIn_cons,hg,Sem.run_bind,Sem.run_pure,Result.andThen_ok];rw [ih];congr 2;simp [ByteArray.push]
  simp only [byteVals];rw [List.forIn_toArray,key _ (fun n r=>rfl)];simp
theorem zB {o:Oper} {s d:Nat} {x:Operand} {K:(Hp->Prop)->Value->Prop} (ho:o.op= .convert s d x)
  (hA:Agree P τ) (H:opR τ (.convert s d x) Γ h K):Yl P o Γ h K:=by
 simp only [opR] at H;split at H
 case h_2=>exact H.elim
 rename_i ts td hts htd;obtain ⟨ds,hds,hks⟩:=(hA s ts hts).und;obtain ⟨dd,hdd,hkd⟩:=(hA d td htd).und;have hus: ∀ w:World,(underlying s).run P w= .ok ds w:=fun w=>run_underlying hds w;have hud: ∀ w:World,(underlying d).run P w= .ok dd w:=fun w=>run_underlying hdd w;split at H
 case h_4=>exact H.elim
 case h_1 k1 k k2 n e1 e2 e3=>
  rw [e1] at hks; rw [e2] at hkd; obtain rfl:=jb hks; obtain rfl:=jb hkd;refine ⟨_,_,H,trivial,fun w _=> ?_⟩;simp [execOp,ho,convert,hus,hud,e3,Conv.intToInt]
 case h_2 b e1 e2 e3=>
  rw [e1] at hks; rw [e2] at hkd; obtain rfl:=gF hks; obtain rfl:=gF hkd;refine ⟨_,_,H,trivial,fun w _=> ?_⟩;simp [execOp,ho,convert,hus,hud,e3]
 case h_3 e a l c e1 e2 e3=>
  rw [e1] at hks; rw [e2] at hkd; obtain rfl:=cW hks; obtain rfl:=gF hkd;split at H
  case h_2=>exact H.elim
  rename_i te hte;split at H
  case h_2=>exact H.elim
  rename_i ek;obtain ⟨de,hde,hke⟩:=(hA e te hte).und;rw [ek] at hke; obtain rfl:=jb hke;obtain ⟨f,b,h1,h2,h3⟩:=PM (P:=P) H;refine ⟨_,_,h1,h2,fun w hw=> ?_⟩;have hue:(underlying e).run P w= .ok (.int .u8) w:=run_underlying hde w;simp [execOp,ho,convert,hus,hud,e3,hue,h3 w hw]
theorem qA (off:Nat): ∀ (l:List Value) (k:Nat) (cs:Array Value),
  ((l.zipIdx k).foldl (fun cs (c,j)=>cs.setIfInBounds (off+j) c) cs).toList=setL cs.toList (off+k) l
 | [],k,cs=>by simp [setL]
 | v::l,k,cs=>by simp only [List.zipIdx_cons,List.foldl_cons,setL];rw [qA off l (k+1)];simp [Nat.add_assoc]
theorem u9 (pl pl':Nat->Option (Nat × Nat)) (hp: ∀ i x,pl i=some x->pl' i=some x): ∀ (ps:List (Nat × Value)) (cs:Array Value) (K:List Value->Prop),
    fillL pl ps cs.toList K-> ∃ r:Array Value,K r.toList/\Instr.fill pl' cs ps=some r
  | [],cs,K,H=>⟨cs,H,rfl⟩
  | (i, v) :: ps, cs, K, H => by
    simp only [fillL] at H;split at H
    . exact H.elim
    rename_i off size hi
    cases hc:(Nat.beq v.cells.toList.length size && Nat.ble (off+size) cs.toList.length) with
    | false=>rw [hc] at H; exact H.elim
    | true=>
      rw [hc] at H; simp only [cond_true,cnd] at H;simp only [Bool.and_eq_true,Nat.beq_eq,Nat.ble_eq,Array.length_toList] at hc
      rw [show setL cs.toList off v.cells.toList=(v.cells.zipIdx.foldl (fun cs (c,j)=>cs.setIfInBounds (off+j) c) cs).toList from by
        rw [<- Array.foldl_toList,Array.toList_zipIdx,qA]; simp] at H
      obtain ⟨r,h1,h2⟩:=u9 pl pl' hp ps _ K H;refine ⟨r,h1, ?_⟩;simp only [Instr.fill,hp _ _ hi];rw [if_neg (by have:=hc.1; have:=hc.2; simp; omega)];exact h2
theorem wK (hA:Agree P τ) (w:World): ∀ (f:List Field),(f.map (fun f=>(f.type,f.offset))).all (fun f=>(τ.get f.1).isSome)=true->
  (f.mapM fun f=>do pure (f.offset,<- Go.sizeOf f.type):Sem (List (Nat × Nat))).run P w= .ok (f.map fun f=>(f.offset,((τ.get f.type).map (·.size)).getD 0)) w
 | [],_=>rfl
 | x::f,hs=>by simp only [List.map_cons,List.all_cons,Bool.and_eq_true] at hs;obtain ⟨ti,hti⟩:=Option.isSome_iff_exists.1 hs.1;simp only [List.mapM_cons,Sem.run_bind,eG (hA _ _ hti),Result.andThen_ok,Sem.run_pure];rw [wK hA w f hs.2];simp [hti]
theorem DU {o:Oper} {ps:Array (Nat × Operand)} {K:(Hp->Prop)->Value->Prop} (ho:o.op= .build t ps)
  (hA:Agree P τ) (H:opR τ (.build t ps) Γ h K):Yl P o Γ h K:=by
 simp only [opR,buildW] at H;split at H
 case h_1=>exact H.elim
 rename_i ti ht;have hAt:=hA t ti ht;obtain ⟨d,hd,hk⟩:=hAt.und;have hu: ∀ w:World,(underlying t).run P w= .ok d w:=fun w=>run_underlying hd w;have hz: ∀ w:World,(zeroValue t).run P w= .ok ti.zero w:=kJ hAt;have hps:(ps.map fun (i,x)=>(i,ev Γ x)).toList=ps.toList.map fun p=>(p.1,ev Γ p.2):=by simp
 split at H
 case h_3=>exact H.elim
 case h_1 fs e1=>
  rw [e1] at hk; obtain ⟨f,rfl,hf⟩:=jt hk
  cases hall:fs.all (fun f=>(τ.get f.1).isSome) with
  | false=>rw [hall] at H; exact H.elim
  | true=>
   rw [hall] at H; simp only [cond_true,cnd] at H
   obtain ⟨r,h1,h2⟩:=u9 _ (fun i=>((f.toList.map fun f=>(f.offset,((τ.get f.type).map (·.size)).getD 0)).toArray)[i]?) (fun i x hx=>by
    unfold fieldPlace at hx;split at hx
    ·rename_i tt off hi
     split at hx
     ·rename_i tj htj
      cases hx;obtain ⟨y,hy,LZ,Ik⟩:=qz hf hi;have:f.toList[i]? =some y:=by rw [Array.getElem?_toList]; exact hy
      simp [List.getElem?_map,this,LZ,Ik,htj]
     ·cases hx
    ·cases hx) _ _ _ H
   refine ⟨_,_,h1,trivial,fun w _=> ?_⟩;simp only [execOp,ho,Instr.build,Sem.run_bind,hu,hz,Result.andThen_ok,Array.mapM_eq_mapM_toList,Sem.run_map];rw [wK hA w f.toList (by rw [hf]; exact hall)];simp only [Result.andThen_ok];rw [hps,h2];simp
 case h_2 n e e1=>
  rw [e1] at hk; obtain rfl:=jC hk;split at H
  case h_2=>exact H.elim
  rename_i te hte;obtain ⟨r,h1,h2⟩:=u9 _ _ (fun i x hx=>hx) _ _ _ H;refine ⟨_,_,h1,trivial,fun w _=> ?_⟩;simp only [execOp,ho,Instr.build,Sem.run_bind,hu,hz,Result.andThen_ok,eG (hA e te hte)];rw [hps,h2];simp
theorem zC {d:TypeDesc}: ∀ {a b:Value},sameK (kdOf d) a b=Instr.sameNow d a b:=by intro a b;cases d <;> simp only [kdOf] <;> cases a <;> cases b <;> rfl
theorem jW {d:TypeDesc} {k:Value}: ∀ (l:List MapEntry) (i:Nat),mfind (kdOf d) k l i=Instr.findNow d k l i
 | [],_=>rfl
 | e::l,i=>by simp only [mfind,Instr.findNow,zC];rw [jW l (i+1)];rfl
theorem mz {d:TypeDesc} {kt:Nat} {k:Value} {e:Bool} (hd:P.underlying kt=some d) (hk:isKey (kdOf d)=true) (w:World):
  (Instr.checkKey e 10000 kt k).run P w= .ok () w:=by
 show (Instr.checkKey e (9999+1) kt k).run P w=_;unfold Instr.checkKey;simp only [Sem.run_bind,run_underlying hd,Result.andThen_ok];cases d <;> simp [kdOf,isKey] at hk <;> rfl
theorem kM {r:Nat} {es:Array MapEntry} {clock:Nat} (hb:w.heap[r]? =some (.map es clock)):(getObj r).run P w= .ok (.map es clock) w:=by simp [getObj,Sem.run,hb]
theorem lJ {kt:TypeId} {d:TypeDesc} {k:Value} {l:List MapEntry} {a:Option (Nat × Value)} (hd:P.underlying kt=some d) (h:Instr.findNow d k l 0=some a) (w:World):
  (Instr.findKey kt k l).run P w= .ok a w:=by
 simp [Instr.findKey,run_underlying hd,Result.andThen,h]
theorem qB {v:Value} {K:Value->Prop} (H:isA ti v K):K v:=by
 unfold isA at H
 have key: ∀ (cs:List CK) (K':List Value->Prop),shapes cs K'-> ∃ vs,K' vs:=by
  intro cs
  induction cs with
  | nil=>exact fun K' H=>⟨_,H⟩
  | cons c cs ih=>
   intro K' H
   have one:(shape c fun v=>shapes cs fun vs=>K' (v::vs))-> ∃ vs,K' vs:=fun H=>by obtain ⟨u,hu⟩:=qx H; obtain ⟨vs,hvs⟩:=ih _ hu; exact ⟨_,hvs⟩
   cases c with
   | lump k n=>obtain ⟨l,hl⟩:=H; obtain ⟨vs,hvs⟩:=ih _ hl; exact ⟨_,hvs⟩
   | int k=>exact one H
   | bool=>exact one H
   | str=>exact one H
   | ptr=>exact one H
   | sl=>exact one H
   | map=>exact one H
   | any=>exact one H
 cases hg:Go.Wc.isAgg ti.kd with
 | true=>
  rw [hg] at H;obtain ⟨vs,h1,h2⟩:=key _ _ H
  rw [h1]; exact h2
 | false=>
  rw [hg] at H; simp only [cond_false,cnd] at H;split at H
  ·obtain ⟨u,h1,h2⟩:=qx H; rw [h1]; exact h2
  ·exact H.elim
theorem Cx {o:Oper} {x i:Operand} {ok:Bool} {K:(Hp->Prop)->Value->Prop} (ho:o.op= .lookup t x i ok)
  (hA:Agree P τ) (H:opR τ (.lookup t x i ok) Γ h K):Yl P o Γ h K:=by
 simp only [opR] at H;split at H
 case h_2=>exact H.elim
 rename_i ti ht;obtain ⟨d,hd,hk⟩:=(hA t ti ht).und;have hu: ∀ w:World,(underlying t).run P w= .ok d w:=fun w=>run_underlying hd w;split at H
 case h_2=>exact H.elim
 case h_1 kt e m e1 e2=>
  rw [e1] at hk; obtain rfl:=jD hk;split at H
  case h_2=>exact H.elim
  rename_i tk te htk hte
  cases hkk:isKey tk.kd with
  | false=>rw [hkk] at H; exact H.elim
  | true=>
   rw [hkk] at H; simp only [cond_true,cnd] at H;obtain ⟨dk,hdk,hkd⟩:=(hA kt tk htk).und;have huk: ∀ w:World,(underlying kt).run P w= .ok dk w:=fun w=>run_underlying hdk w;have hck: ∀ (w:World) (b:Bool),(Instr.checkKey b 10000 kt (ev Γ i)).run P w= .ok () w:=fun w b=>mz hdk (by rw [hkd]; exact hkk) w;have hz:=kJ (hA e te hte);unfold lkA lkW at H;split at H
   case h_1=>
    refine ⟨_,_,qB (K:=fun v=>K (fun _=>True) (bif ok then .tuple #[v, .bool false] else v)) H,trivial,fun w _=> ?_⟩;simp only [execOp,ho,e2,Instr.lookup,Sem.run_bind,hu,Result.andThen_ok,Sem.run_pure,hck,Instr.findKey,huk,Instr.findNow,hz,Option.getD_none];cases ok <;> rfl
   case h_2 r=>
    obtain ⟨es,clock,h1,oo,h2,h3⟩:=H;have h4:=qB h3;refine ⟨_,_,h4,⟨es,clock,oo,h1,h2,rfl⟩,fun w hw=> ?_⟩;obtain ⟨es',clock',o',g1,g2,g3⟩:=hw;rw [<- hkd,jW] at g2;simp only [execOp,ho,e2,Instr.lookup,Sem.run_bind,hu,Result.andThen_ok,kM g1,Sem.run_pure,hck,lJ hdk g2,<- g3]
    cases o' with
    | none=>simp only [Option.map_none,Option.getD_none,Option.isSome_none,Sem.run_bind,hz,Result.andThen_ok,Sem.run_pure]; cases ok <;> rfl
    | some p=>obtain ⟨j,v⟩:=p; simp only [Option.map_some,Option.getD_some,Option.isSome_some]; cases ok <;> rfl
theorem zD {o:Oper} {b:Builtin} {args:Array Operand} {ats:Array TypeId} {K:(Hp->Prop)->Value->Prop} (ho:o.op= .call {callee:= .builtin b,args:=args,argTypes:=ats})
  (hA:Agree P τ) (H:opR τ (.call {callee:= .builtin b,args:=args,argTypes:=ats}) Γ h K):Yl P o Γ h K:=by
 simp only [opR] at H
 obtain ⟨al,rfl⟩: ∃ l:List Operand,args=l.toArray:=⟨args.toList,by simp⟩
 obtain ⟨tl,rfl⟩: ∃ l:List TypeId,ats=l.toArray:=⟨ats.toList,by simp⟩
 split at H
 case h_1 x t e1 e2=>
  simp only at e1 e2; subst e1 e2;split at H
  case h_2=>exact H.elim
  rename_i ti ht;obtain ⟨d,hd,hk⟩:=(hA t ti ht).und;have hu: ∀ w:World,(underlying t).run P w= .ok d w:=fun w=>run_underlying hd w;split at H
  case h_5=>exact H.elim
  case h_1 s e1 e2=>
   rw [e1] at hk; obtain rfl:=gF hk;refine ⟨_,_,H,trivial,fun w _=> ?_⟩;simp [execOp,ho,resolve,invoke,builtin,Builtin.len_,e2,hu,goInt]
  case h_2 e a n c e1 e2=>
   rw [e1] at hk; obtain rfl:=cW hk;refine ⟨_,_,H,trivial,fun w _=> ?_⟩;simp [execOp,ho,resolve,invoke,builtin,Builtin.len_,e2,hu,goInt]
  case h_3 kt e m e1 e2=>
   rw [e1] at hk; obtain rfl:=jD hk;unfold lnM at H;split at H
   case h_1=>
    refine ⟨_,_,H,trivial,fun w _=> ?_⟩;simp [execOp,ho,resolve,invoke,builtin,Builtin.len_,e2,hu,goInt]
   case h_2 r=>
    obtain ⟨es,clock,h1,h2⟩:=H;refine ⟨_,_,h2,⟨es,clock,h1,rfl⟩,fun w hw=> ?_⟩;obtain ⟨es',clock',g1,g2⟩:=hw;simp [execOp,ho,resolve,invoke,builtin,Builtin.len_,e2,hu,goInt,kM g1,g2]
  case h_4 n e x e1=>
   rw [e1] at hk; obtain rfl:=jC hk;refine ⟨_,_,H,trivial,fun w _=> ?_⟩;simp [execOp,ho,resolve,invoke,builtin,Builtin.len_,hu,goInt]
 case h_2 x t e1 e2=>
  simp only at e1 e2; subst e1 e2;split at H
  case h_2=>exact H.elim
  rename_i ti ht;obtain ⟨d,hd,hk⟩:=(hA t ti ht).und;have hu: ∀ w:World,(underlying t).run P w= .ok d w:=fun w=>run_underlying hd w;split at H
  case h_2=>exact H.elim
  case h_1 e a n c e1 e2=>
   rw [e1] at hk; obtain rfl:=cW hk;refine ⟨_,_,H,trivial,fun w _=> ?_⟩;simp [execOp,ho,resolve,invoke,builtin,Builtin.cap_,e2,hu,goInt]
 case h_3 x y l e1=>
  simp only at e1; subst e1;split at H
  case h_2=>exact H.elim
  rename_i k a k2 b e1 e2;refine ⟨_,_,H,trivial,fun w _=> ?_⟩;simp [execOp,ho,resolve,invoke,builtin,Builtin.min_,Builtin.min2,e1,e2]
 case h_4 x y l e1=>
  simp only at e1; subst e1;split at H
  case h_2=>exact H.elim
  rename_i k a k2 b e1 e2;refine ⟨_,_,H,trivial,fun w _=> ?_⟩;simp [execOp,ho,resolve,invoke,builtin,Builtin.max_,Builtin.max2,e1,e2]
 case h_5=>exact H.elim
theorem jF {o:Oper} {K:(Hp->Prop)->Value->Prop} (hA:Agree P τ) (H:opR τ o.op Γ h K):Yl P o Γ h K:=by
 cases ho:o.op with
 | move x=>rw [ho] at H; exact ⟨_,_,H,trivial,fun w _=>by simp [execOp,ho]⟩
 | assign x=>rw [ho] at H; exact ⟨_,_,H,trivial,fun w _=>by simp [execOp,ho]⟩
 | pick c a b=>
  rw [ho] at H; simp only [opR] at H;split at H
  case h_2=>exact H.elim
  rename_i t e
  cases t with
  | true=>exact ⟨_,_,H,trivial,fun w _=>by simp [execOp,ho,e,asBool]⟩
  | false=>exact ⟨_,_,H,trivial,fun w _=>by simp [execOp,ho,e,asBool]⟩
 | build t ps=>rw [ho] at H; exact DU ho hA H
 | load t a=>rw [ho] at H; exact Iw ho hA H
 | nilCheck x=>rw [ho] at H; exact wI ho H
 | binOp op t x y u=>rw [ho] at H; exact DQ ho hA H
 | unOp op u x=>rw [ho] at H; exact Iv ho H
 | convert s d x=>rw [ho] at H; exact zB ho hA H
 | makeFunc f x y=>rw [ho] at H; exact wJ ho H
 | makeInterface t x=>rw [ho] at H; exact om ho hA H
 | slice t x lo hi mx=>
  rw [ho] at H
  cases mx with
  | none=>exact DR ho hA H
  | some m=>cases hi with
   | none=>simp only [opR] at H
   | some y=>exact Cw ho hA H
 | fieldAddr t x i=>rw [ho] at H; exact u6 ho hA H
 | field t x i=>rw [ho] at H; exact DS ho hA H
 | indexAddr t x i=>rw [ho] at H; exact u7 ho hA H
 | index t x i=>rw [ho] at H; exact DT ho hA H
 | lookup t x i ok=>rw [ho] at H; exact Cx ho hA H
 | extract x i=>rw [ho] at H; exact zA ho H
 | call c=>
  rw [ho] at H;obtain ⟨callee,args,ats⟩:=c
  cases callee with
  | builtin b=>exact zD ho hA H
  | _=>simp only [opR] at H
 | _=>rw [ho] at H; simp only [opR] at H
def Same (w w':World):Prop:=w'.os=w.os/\w'.output=w.output/\w'.tape=w.tape
theorem Same.refl (w:World):Same w w:=⟨rfl,rfl,rfl⟩
theorem Same.trans {a b c:World} (h1:Same a b) (h2:Same b c):Same a c:=⟨h2.1.trans h1.1,h2.2.1.trans h1.2.1,h2.2.2.trans h1.2.2⟩
def Callable (P:Program) (f:Nat):Prop:= ∃ fn,P.funcs[f]? =some fn/\(fn.name== "runtime.NumGoroutine")=false/\fn.body.isNone=false
def SpecOk (P:Program) (f:Nat) (S:Spec):Prop:=
 Callable P f/\ ∀ args K w,S args w.heap K->Calls P f args.toArray w fun e w'=> ∃ v,e= .returned v/\Same w w'/\K v w'.heap
def SpecsOk (P:Program) (σ:Specs):Prop:= ∀ f S,σ.get f=some S->SpecOk P f S
theorem dM:SpecsOk P []:=fun f S h=>by simp [Specs.get] at h
theorem gG {f:Nat} {S:Spec} {σ:Specs} (h1:SpecOk P f S) (h2:SpecsOk P σ):SpecsOk P ((f,S)::σ):=by
  intro g T hg;simp only [Specs.get] at hg
  cases hb:Nat.beq f g with
  | true => rw [hb] at hg; simp only [cond_true, cnd, Option.some.injEq] at hg; subst hg; have : f = g := by simpa using hb
            subst this; exact h1
  | false=>rw [hb] at hg; exact h2 g T hg
def Out (P:Program) (K:Value->Hp->Prop) (w:World):Result Next->Prop
 | .ok (.value v) w'=>Same w w'/\K v w'.heap
 | .ok .skip w'=>Same w w'/\K undef w'.heap
 | .ok (.enter f args) w'=>Same w w'/\Calls P f args w' fun e w''=> ∃ v,e= .returned v/\Same w' w''/\K v w''.heap
 | _=>False
theorem Cy {a:Addr} {v u:Value} (hu:hcell w.heap a=some u) (hf:hfrz w.heap a=false) (hv:v.oneCell'=true):
  (store a v).run P w= .ok () (w.setCell a v):=by
 rw [run_store P w a v .plain hv];rw [<- Bo] at hu;rw [<- LV] at hf;simp [hu,hf]
theorem DV {a:Addr} {v:Value} {K:Hp->Prop} (H:stV h a v K):v.oneCell'=true/\(∃ u,hcell h a=some u)/\hfrz h a=false/\K (hset h a v):=by cases v <;> first | exact H.elim | exact ⟨rfl,H⟩
theorem m8: ∀ {vs:List Value} {a:Addr} {i:Nat} {K:Hp->Prop} {w:World},stAll w.heap a i vs K->
  ∃ w',(storeCells a vs i).run P w= .ok () w'/\Same w w'/\K w'.heap
 | [],a,i,K,w,H=>⟨w,rfl,Same.refl w,H⟩
 | v::vs,a,i,K,w,H=>by obtain ⟨hv,⟨u,hu⟩,hf,hK⟩:=DV H;obtain ⟨w',h1,h2,h3⟩:=m8 (w:=w.setCell (a.add i) v) (vs:=vs) (a:=a) (i:=i+1) (K:=K) hK;refine ⟨w', ?_,Same.trans ⟨rfl,rfl,rfl⟩ h2,h3⟩;simp only [storeCells,Sem.run_bind,Cy hu hf hv,Result.andThen_ok];exact h1
theorem m9 (l:Array Value) (n:Nat):(List.range (n*l.size)).map (fun i=>l[i % l.size]!)=(List.replicate n l.toList).flatten:=by
 induction n with
 | zero=>simp
 | succ n ih=>
  rw [Nat.succ_mul,List.range_add,List.map_append,ih,List.replicate_succ',List.flatten_append];congr 1;simp only [List.flatten_cons,List.flatten_nil,List.append_nil,List.map_map];apply List.ext_getElem
  ·simp
  ·intro i h1 h2
   simp only [List.length_map,List.length_range] at h1;simp only [List.getElem_map,List.getElem_range,Function.comp];rw [Nat.mul_comm n,Nat.mul_add_mod,Nat.mod_eq_of_lt h1];simp [h1]
theorem oq {z:Value} (m n:Nat) (hm:z.cells.size=m):((Array.range (n*m)).map (fun i=>z.cells[i % z.cells.size]!))=(zeros z n).toArray:=by subst hm;apply Array.ext';simp only [Array.toList_map,Array.toList_range];exact m9 _ _
theorem DW {o:Oper} {e:Nat} {K:Value->Hp->Prop} (ho:o.op= .alloc e) (hA:Agree P τ) {σ cl:Specs} {rt:Nat} (H:opC τ σ cl rt (.alloc e) Γ w.heap K):
  Out P K w ((execOp (ev Γ) o).run P w):=by
 simp only [opC] at H;split at H
 case h_2=>exact H.elim
 rename_i te hte;simp only [execOp,ho,Instr.alloc,Sem.run_bind,kJ (hA e te hte),Result.andThen_ok,newVar,newRow,run_newObj,Sem.run_pure];exact ⟨⟨rfl,rfl,rfl⟩,H⟩
theorem L6 {o:Oper} {e:Nat} {x:Operand} {K:Value->Hp->Prop} (ho:o.op= .box e x) {σ cl:Specs} {rt:Nat} (H:opC τ σ cl rt (.box e x) Γ w.heap K):
  Out P K w ((execOp (ev Γ) o).run P w):=by
 simp only [opC] at H;simp only [execOp,ho,Instr.box,Sem.run_bind,Result.andThen_ok,newVar,newRow,run_newObj,Sem.run_pure];exact ⟨⟨rfl,rfl,rfl⟩,H⟩
theorem s5 {o:Oper} {n:Nat} {ps:Array (Nat × Operand)} {K:Value->Hp->Prop} (ho:o.op= .buildSlice t n ps) (hA:Agree P τ) {σ cl:Specs} {rt:Nat} (H:opC τ σ cl rt (.buildSlice t n ps) Γ w.heap K):
  Out P K w ((execOp (ev Γ) o).run P w):=by
 simp only [opC] at H;split at H
 case h_2=>exact H.elim
 rename_i ti ht;obtain ⟨d,hd,hk⟩:=(hA t ti ht).und;split at H
 case h_2=>exact H.elim
 rename_i e e1;rw [e1] at hk; obtain rfl:=cW hk;split at H
 case h_2=>exact H.elim
 rename_i te hte
 cases hb:Nat.ble (n*te.size) 16777216 with
 | false=>rw [hb] at H; exact H.elim
 | true=>
  rw [hb] at H; simp only [cond_true,cnd] at H;simp only [Nat.ble_eq] at hb;have hz:=kJ (hA e te hte);have hsz:=(hA e te hte).2;have hps:(ps.map fun (i,x)=>(i,ev Γ x)).toList=ps.toList.map fun p=>(p.1,ev Γ p.2):=by simp
  obtain ⟨r,h1,h2⟩:=u9 _ _ (fun i x hx=>hx) _ (zeros te.zero n).toArray _ (by simpa using H);simp only [execOp,ho,Instr.buildSlice,Sem.run_bind,run_underlying hd,Result.andThen_ok,eG (hA e te hte)];rw [if_neg (by omega)]
  have hfin:Out P K w ((Sem.run P (match Instr.fill (fun i=>some (i*te.size,te.size)) (zeros te.zero n).toArray (ps.map fun (i,x)=>(i,ev Γ x)).toList with
    | some cells=>do pure (Value.slice (some (<- newRow e cells)) n n)
    | _=>stuck "buildSlice: a part of the wrong size") w).andThen fun a w'=>Sem.run P (pure (Next.value a)) w'):=by
   rw [hps,h2];simp only [newRow,Sem.run_bind,run_newObj,Result.andThen_ok,Sem.run_pure];refine ⟨⟨rfl,rfl,rfl⟩, ?_⟩;simpa using h1
  by_cases h0:n*te.size=0
  ·rw [if_pos h0,Sem.run_bind,Sem.run_pure,Result.andThen_ok]
   rw [<- oq te.size n hsz,h0] at hfin;rw [h0];simp only [show Array.range 0= #[] from rfl,Array.map_empty] at hfin |-
   exact hfin
  ·rw [if_neg h0]
   rw [Sem.run_bind,hz,Result.andThen_ok,Sem.run_bind,Sem.run_pure,Result.andThen_ok];rw [oq te.size n hsz];exact hfin
theorem wL (h:Hp) (o:Obj) (f:Obj->Obj):(h.push o).modify h.size f=h.push (f o):=by
 apply Array.ext
 ·simp
 ·intro i h1 h2
  simp only [Array.size_modify,Array.size_push] at h1;rw [Array.getElem_modify]
  by_cases hi:h.size=i
  ·subst hi; simp
  ·rw [if_neg hi,Array.getElem_push_lt (by omega),Array.getElem_push_lt (by omega)]
theorem DX {o:Oper} {a x:Operand} {K:Value->Hp->Prop} (ho:o.op= .store t a x) (hA:Agree P τ) {σ cl:Specs} {rt:Nat} (H:opC τ σ cl rt (.store t a x) Γ w.heap K):
  Out P K w ((execOp (ev Γ) o).run P w):=by
 simp only [opC] at H;split at H
 case h_2=>exact H.elim
 rename_i p ep;split at H
 case h_2=>exact H.elim
 rename_i ti ht
 cases hb:Nat.beq (ev Γ x).cells.toList.length ti.size with
 | false=>rw [hb] at H; exact H.elim
 | true=>
  rw [hb] at H; simp only [cond_true,cnd] at H;obtain ⟨w',h1,h2,h3⟩:=m8 (P:=P) H;have hs:(ev Γ x).cells.size=ti.size:=by simpa using hb
  simp only [execOp,ho,ep,Instr.storeAt,Instr.sureAddr,Sem.run_bind,Sem.run_pure,Result.andThen_ok,storeVar,eG (hA t ti ht)];rw [if_neg (by simp [hs])];rw [h1];exact ⟨h2,h3⟩
theorem zE {o:Oper} {s d:Nat} {x:Operand} {K:Value->Hp->Prop} (ho:o.op= .convert s d x) (hA:Agree P τ) {σ cl:Specs} {rt:Nat} (H:opC τ σ cl rt (.convert s d x) Γ w.heap K):
  Out P K w ((execOp (ev Γ) o).run P w):=by
 simp only [opC] at H;split at H
 case h_2=>exact H.elim
 rename_i ts td hts htd;obtain ⟨ds,hds,hks⟩:=(hA s ts hts).und;obtain ⟨dd,hdd,hkd⟩:=(hA d td htd).und;split at H
 case h_2=>exact H.elim
 case h_1 e b e1 e2 e3=>
  rw [e1] at hks; rw [e2] at hkd; obtain rfl:=gF hks; obtain rfl:=cW hkd;split at H
  case h_2=>exact H.elim
  rename_i te hte;split at H
  case h_2=>exact H.elim
  rename_i ek;obtain ⟨de,hde,hke⟩:=(hA e te hte).und;rw [ek] at hke; obtain rfl:=jb hke;have hc: ∀ n,b.size<=(Question.appendCap b.size 0 e).cut n:=fun n=>by simp [Question.cut]
  obtain ⟨c,hcap⟩: ∃ c,(Question.appendCap b.size 0 e).cut (w.tape w.drawn (Question.appendCap b.size 0 e))=c:=⟨_,rfl⟩
  have hcge:b.size<=c:=by rw [<- hcap]; exact hc _
  have H':=H c hcge
  have hch:(choose (.appendCap b.size 0 e)).run P w= .ok c {w with drawn:=w.drawn+1}:=by rw [run_choose,hcap]; rfl
  have hsz:(byteVals b++List.replicate (c - b.size) (Value.int .u8 0)).length=c:=by
   have:(byteVals b).length=b.size:=by simp [byteVals]
   simp [this]; omega
  have harr:(Array.map (fun b=>Value.int IntKind.u8 (b.toNat:Int)) b.data++Array.replicate (c - b.size) (Value.int IntKind.u8 0))=(byteVals b++List.replicate (c - b.size) (Value.int .u8 0)).toArray:=by apply Array.ext'; simp [byteVals]
  generalize byteVals b++List.replicate (c - b.size) (Value.int .u8 0)=L at*
  simp only [execOp,ho,convert,Sem.run_bind,run_underlying hds,run_underlying hdd,run_underlying hde,Result.andThen_ok,e3,Conv.stringToBytes,hch,newRow,run_newObj,Sem.run_pure,markStringish,run_shape,harr];simp only [World.shape?,Array.getElem?_push_size,run_freeze,Result.andThen_ok,World.freeze,List.size_toArray,hsz];refine ⟨⟨rfl,rfl,rfl⟩, ?_⟩;simp only [Nat.one_ne_zero,if_false];rw [wL];exact H'
theorem zF {o:Oper} {x:Option Operand} {K:Value->Hp->Prop} (ho:o.op= .makeMap t x) (hA:Agree P τ) {σ cl:Specs} {rt:Nat} (H:opC τ σ cl rt (.makeMap t x) Γ w.heap K):
  Out P K w ((execOp (ev Γ) o).run P w):=by
 cases x with
 | none=>
  simp only [opC] at H;simp only [execOp,ho,Instr.makeMap,Option.map_none,Sem.run_bind,Sem.run_pure,Result.andThen_ok,run_newObj]
  exact ⟨⟨rfl,rfl,rfl⟩,H⟩
 | some x=>
  simp only [opC] at H;split at H
  case h_2=>exact H.elim
  rename_i ti k n ht ex;split at H
  case h_2=>exact H.elim
  rename_i kt e e1;obtain ⟨d,hd,hk⟩:=(hA t ti ht).und;rw [e1] at hk; obtain rfl:=jD hk;simp only [execOp,ho,Instr.makeMap,Option.map_some,Sem.run_bind,run_underlying hd,ex,asInt,asIntOf,Sem.run_pure,Result.andThen_ok,run_newObj];exact ⟨⟨rfl,rfl,rfl⟩,H⟩
theorem vc {o:Oper} {l c:Operand} {K:Value->Hp->Prop} (ho:o.op= .makeSlice t l c) (hA:Agree P τ) {σ cl:Specs} {rt:Nat} (H:opC τ σ cl rt (.makeSlice t l c) Γ w.heap K):
  Out P K w ((execOp (ev Γ) o).run P w):=by
 simp only [opC] at H;split at H
 case h_2=>exact H.elim
 rename_i ti k1 i k2 j ht el ec;split at H
 case h_2=>exact H.elim
 rename_i e e1;obtain ⟨d,hd,hk⟩:=(hA t ti ht).und;rw [e1] at hk; obtain rfl:=cW hk;split at H
 case h_2=>exact H.elim
 rename_i te hte;obtain ⟨⟨h1,h2,h3⟩,h4,h5⟩:=H;obtain ⟨inf,hi,hi1,qC,hi3⟩:=oe (hA e te hte) w;have hsz:=(hA e te hte).2;have hmax:IntKind.i64.max=9223372036854775807:=by decide
 have wr: ∀ x:Int,0<=x->x<=IntKind.i64.max->IntKind.i64.wrap x=x:=by
  intro x h0 hm;rw [hmax] at hm;have e1:(2:Int) ^ 64=18446744073709551616:=by decide
  have e2:(2:Int) ^ (64 - 1)=9223372036854775808:=by decide
  simp only [IntKind.wrap,IntKind.bits,IntKind.signed,Bool.true_and,decide_eq_true_eq,e1,e2];split <;> omega
 have hni:IntKind.i64.wrap i=i:=wr i h1 (by omega);have hnj:IntKind.i64.wrap j=j:=wr j (by omega) h4
 have hbig:(decide (j<0) || decide ((te.bytes:Int)*j>2 ^ 48))=false:=by rw [Bool.or_eq_false_iff]; refine ⟨by simp; omega, ?_⟩;rw [Int.mul_comm]; simpa using h3
 simp only [execOp,ho,Instr.makeSlice,Sem.run_bind,run_underlying hd,el,ec,asInt,asIntOf,Sem.run_pure,Result.andThen_ok,hi,hni,hnj,qC,hbig,Bool.false_or];have VI:(decide (i<0) || decide (i>j))=false:=by rw [Bool.or_eq_false_iff]; exact ⟨by simp; omega,by simp; omega⟩
 rw [if_neg (by rw [VI]; simp)];simp only [Sem.run_bind,run_askRoom,Result.andThen_ok,eG (hA e te hte)]
 have hfin:Out P K w ((Sem.run P (do let a <- newRow e ((Array.range (j.toNat*te.size)).map (fun x=>te.zero.cells[x % te.zero.cells.size]!)); pure (Value.slice (some a) i.toNat j.toNat)) w).andThen fun a w'=>Sem.run P (pure (Next.value a)) w'):=by rw [oq te.size j.toNat hsz];simp only [newRow,Sem.run_bind,run_newObj,Result.andThen_ok,Sem.run_pure];exact ⟨⟨rfl,rfl,rfl⟩,h5⟩
 by_cases h0:j.toNat*te.size=0
 ·rw [if_pos h0,Sem.run_bind,Sem.run_pure,Result.andThen_ok,h0]
  rw [h0] at hfin;simp only [show Array.range 0= #[] from rfl,Array.map_empty] at hfin |-
  exact hfin
 ·rw [if_neg h0,Sem.run_bind,kJ (hA e te hte),Result.andThen_ok,Sem.run_bind,Sem.run_pure,Result.andThen_ok]
  exact hfin
theorem wM {a b:ByteArray}:(a==b)=true↔a=b:=by
 constructor
 ·intro h
  cases a; cases b;have h:(ByteArray.beq _ _)=true:=h;unfold ByteArray.beq at h;simp at h;simp [h]
 ·rintro rfl
  show (ByteArray.beq _ _)=true;simp [ByteArray.beq]
theorem wN {kd:Kd} {k x:Value} (hs:sameK kd k x=some true):Instr.sameBits 10000 x k=true:=by
 unfold sameK at hs;split at hs
 ·rename_i k1 a k2 b
  split at hs
  ·rename_i e; subst e; simp at hs; subst hs; simp [Instr.sameBits]
  ·cases hs
 ·simp only [Option.some.injEq] at hs; rw [wM] at hs; subst hs; exact wM.2 rfl
 ·simp at hs; subst hs; simp [Instr.sameBits]
 ·cases hs
theorem qD {kd:Kd} {k:Value}: ∀ {l:List MapEntry} {n i:Nat} {v:Value},mfind kd k l n=some (some (i,v))->
  n<=i/\ ∃ e,l[i - n]? =some e/\sameK kd k e.key=some true/\e.val=v
 | [],n,i,v,H=>by simp [mfind] at H
 | e::l,n,i,v,H=>by
  simp only [mfind] at H;split at H
  ·rename_i hs; simp at H; obtain ⟨rfl,rfl⟩:=H; exact ⟨Nat.le_refl _,e,by simp,hs,rfl⟩
  ·obtain ⟨h1,e',h2,h3⟩:=qD H
   refine ⟨by omega,e', ?_,h3⟩;rw [show i - n=(i - (n+1))+1 from by omega];simpa using h2
  ·cases H
theorem nc {r:Nat} {es:Array MapEntry} {clock:Nat} (o:Obj) (hb:w.heap[r]? =some (.map es clock)):(setObj r o).run P w= .ok () {w with heap:=w.heap.setIfInBounds r o}:=by simp [setObj,Sem.run,hb]
theorem vf {o:Oper} {m k x:Operand} {K:Value->Hp->Prop} (ho:o.op= .mapUpdate t m k x) (hA:Agree P τ) {σ cl:Specs} {rt:Nat} (H:opC τ σ cl rt (.mapUpdate t m k x) Γ w.heap K):
  Out P K w ((execOp (ev Γ) o).run P w):=by
 simp only [opC] at H;split at H
 case h_2=>exact H.elim
 rename_i ti ht;obtain ⟨d,hd,hk⟩:=(hA t ti ht).und;split at H
 case h_2=>exact H.elim
 rename_i kt e r e1 em;rw [e1] at hk; obtain rfl:=jD hk;split at H
 case h_2=>exact H.elim
 rename_i tk htk
 cases hkk:isKey tk.kd with
 | false=>rw [hkk] at H; exact H.elim
 | true=>
  rw [hkk] at H; simp only [cond_true,cnd] at H;obtain ⟨dk,hdk,hkd⟩:=(hA kt tk htk).und;obtain ⟨r',rfl,es,clock,h1,oo,h2,h3⟩:=H;have hck:(Instr.checkKey false 10000 kt (ev Γ k)).run P w= .ok () w:=mz hdk (by rw [hkd]; exact hkk) w;have h2':=h2;rw [<- hkd,jW] at h2';simp only [execOp,ho,Instr.mapUpdate,Sem.run_bind,run_underlying hd,em,Result.andThen_ok,kM h1,hck,lJ hdk h2']
  cases oo with
  | none=>
   simp only [nc _ h1,Result.andThen_ok]
   exact ⟨⟨rfl,rfl,rfl⟩,h3⟩
  | some p=>
   obtain ⟨i,v⟩:=p;obtain ⟨_,e',g1,g2,_⟩:=qD h2
   have hkey:(((es[i]?).map (·.key)).getD (ev Γ k))=e'.key:=by rw [<- Array.getElem?_toList]; simp only [Nat.sub_zero] at g1; rw [g1]; rfl
   simp only [hkey,Instr.keyThatStays,wN g2,if_true,Sem.run_bind,Sem.run_pure,Result.andThen_ok,nc _ h1];exact ⟨⟨rfl,rfl,rfl⟩,h3⟩
theorem Cz {o:Oper} {args:Array Operand} {ats:Array TypeId} {m k:Operand} {K:Value->Hp->Prop} (ho:o.op= .call {callee:= .builtin .delete,args:=args,argTypes:=ats})
  (e0:args.toList=[m,k]) (e0': ∃ l,ats.toList=t::l) (hA:Agree P τ)
  (H:match τ.get t with
   | some ti=>match ti.kd,ev Γ m with
    | .map kt _, .map r=>match τ.get kt with
     | some tk=>bif isKey tk.kd then dlW tk.kd w.heap r (ev Γ k) fun h'=>K undef h' else False
     | none=>False
    | _,_=>False
   | none=>False):
  Out P K w ((execOp (ev Γ) o).run P w):=by
 obtain rfl:args= #[m,k]:=by apply Array.ext'; simpa using e0
 obtain ⟨l,hl⟩:=e0';have L9:ats[0]? =some t:=by rw [<- Array.getElem?_toList,hl]; rfl
 split at H
 case h_2=>exact H.elim
 rename_i ti ht;obtain ⟨d,hd,hk⟩:=(hA t ti ht).und;split at H
 case h_2=>exact H.elim
 rename_i kt e r e1 em;rw [e1] at hk; obtain rfl:=jD hk;split at H
 case h_2=>exact H.elim
 rename_i tk htk
 cases hkk:isKey tk.kd with
 | false=>rw [hkk] at H; exact H.elim
 | true=>
  rw [hkk] at H; simp only [cond_true,cnd] at H;obtain ⟨dk,hdk,hkd⟩:=(hA kt tk htk).und;have hck: ∀ b,(Instr.checkKey b 10000 kt (ev Γ k)).run P w= .ok () w:=fun b=>mz hdk (by rw [hkd]; exact hkk) w;unfold dlW at H;split at H
  case h_1=>
   simp [execOp,ho,resolve,invoke,builtin,Builtin.delete_,L9,run_underlying hd,em,hck,Out];exact ⟨⟨rfl,rfl,rfl⟩,H⟩
  case h_2 r'=>
   obtain ⟨es,clock,h1,oo,h2,h3⟩:=H;have h2':=h2;rw [<- hkd,jW] at h2'
   cases oo with
   | none=>
    simp [execOp,ho,resolve,invoke,builtin,Builtin.delete_,L9,run_underlying hd,em,hck,Out,kM h1,lJ hdk h2',nc _ h1]
    exact ⟨⟨rfl,rfl,rfl⟩,h3⟩
   | some p=> simp [execOp,ho,resolve,invoke,builtin,Builtin.delete_,L9,run_underlying hd,em,hck,Out,kM h1,lJ hdk h2',nc _ h1];exact ⟨⟨rfl,rfl,rfl⟩,h3⟩
theorem DY {o:Oper} {args:Array Operand} {ats:Array TypeId} {x:Operand} {K:Value->Hp->Prop} (ho:o.op= .call {callee:= .builtin .clear,args:=args,argTypes:=ats})
  (e0:args.toList=[x]) (e0': ∃ l,ats.toList=t::l) (hA:Agree P τ)
  (H:match τ.get t with
   | some ti=>match ti.kd,ev Γ x with
    | .slice e, .slice a n c=>match τ.get e with
     | some te=>clW te.zero w.heap ⟨a,n,c⟩ fun h'=>K undef h'
     | none=>False
    | _,_=>False
   | none=>False):
  Out P K w ((execOp (ev Γ) o).run P w):=by
 obtain rfl:args= #[x]:=by apply Array.ext'; simpa using e0
 obtain ⟨l,hl⟩:=e0';have L9:ats[0]? =some t:=by rw [<- Array.getElem?_toList,hl]; rfl
 split at H
 case h_2=>exact H.elim
 rename_i ti ht;obtain ⟨d,hd,hk⟩:=(hA t ti ht).und;split at H
 case h_2=>exact H.elim
 rename_i e a n c e1 ex;rw [e1] at hk; obtain rfl:=cW hk;split at H
 case h_2=>exact H.elim
 rename_i te hte;simp only [execOp,ho,resolve,invoke,builtin,Sem.run_bind,Sem.run_pure,Result.andThen_ok,Builtin.clear_,L9];simp only [List.map_toArray,List.map_cons,List.map_nil,List.getElem?_toArray,List.getElem?_cons_zero,ex,Sem.run_bind,run_underlying hd,Result.andThen_ok]
 cases a with
 | none=>
  simp only [Sem.run_pure,Result.andThen_ok]
  exact ⟨Same.refl w,H⟩
 | some a=>
  cases n with
  | zero=>
   simp only [Sem.run_pure,Result.andThen_ok];have H:K undef w.heap:=H
   exact ⟨Same.refl w,H⟩
  | succ n=>
   obtain ⟨w',g1,g2,g3⟩:=m8 (P:=P) H
   have hzc:(Builtin.zeroCells te.zero.cells (n+1)).toList=zeros te.zero (n+1):=by simp only [Builtin.zeroCells,Array.toList_map,Array.toList_range];exact m9 _ _
   simp only [Sem.run_bind,kJ (hA e te hte),Result.andThen_ok,hzc,g1,Sem.run_pure];exact ⟨g2,g3⟩
theorem jX {a:Option Addr} {n size l c:Nat} {vs:List Value} (H:cellsAt w.heap a (n*size) vs):
  (Builtin.firstCells size n (.slice a l c)).run P w= .ok vs.toArray w:=by
 cases a with
 | none=>simp only [cellsAt] at H; subst H; rfl
 | some a=>obtain ⟨h1,h2⟩:=H; exact kK h1 h2
theorem Iy {o:Oper} {args:Array Operand} {ats:Array TypeId} {d x:Operand} {K:Value->Hp->Prop} (ho:o.op= .call {callee:= .builtin .copy,args:=args,argTypes:=ats})
  (e0:args.toList=[d,x]) (e0': ∃ l,ats.toList=t::l) (hA:Agree P τ)
  (H:match τ.get t,ev Γ d,ev Γ x with
   | some ti, .slice a n c, .slice b m e=>match ti.kd with
    | .slice el=>match τ.get el with
     | some te=>cpW te.size w.heap ⟨a,n,c⟩ ⟨b,m,e⟩ fun n h'=>K (.int .i64 n) h'
     | none=>False
    | _=>False
   | _,_,_=>False):
  Out P K w ((execOp (ev Γ) o).run P w):=by
 obtain rfl:args= #[d,x]:=by apply Array.ext'; simpa using e0
 obtain ⟨l,hl⟩:=e0';have L9:ats[0]? =some t:=by rw [<- Array.getElem?_toList,hl]; rfl
 split at H
 case h_2=>exact H.elim
 rename_i ti a n c b m e ht ed ex;split at H
 case h_2=>exact H.elim
 rename_i el e1;obtain ⟨dd,hd,hk⟩:=(hA t ti ht).und;rw [e1] at hk; obtain rfl:=cW hk;split at H
 case h_2=>exact H.elim
 rename_i te hte;obtain ⟨new,h1,h2⟩:=H;have hc:=jX (P:=P) (l:=m) (c:=e) h1;simp only [execOp,ho,resolve,invoke,builtin,Sem.run_bind,Sem.run_pure,Result.andThen_ok,Builtin.copy_,L9];simp only [List.map_toArray,List.map_cons,List.map_nil,List.getElem?_toArray,List.getElem?_cons_zero,List.getElem?_cons_succ,ed,ex,Sem.run_bind,run_underlying hd,Result.andThen_ok,Builtin.lenOf,Sem.run_pure,eG (hA el te hte)];have hmin:m.min n=min m n:=rfl;simp only [hmin,hc,Result.andThen_ok]
 cases a with
 | none=>
  simp only [Sem.run_pure,Result.andThen_ok]
  exact ⟨Same.refl w,h2⟩
 | some a=> obtain ⟨w',g1,g2,g3⟩:=m8 (P:=P) h2;simp only [g1,Sem.run_bind,Sem.run_pure,Result.andThen_ok];exact ⟨g2,g3⟩
theorem DZ {e:Nat} {te:TI} {s:Sl} {n:Nat} {new:List Value} {K:Sl->Hp->Prop} (hA:Agrees P e te) (zs:Bool)
  (hz:zs=true->((s.len+n:Nat):Int)<=IntKind.i64.max) (x:Value) (app:Sem (Array Value))
  (happ: ∀ w':World,w'.heap=w.heap->app.run P w'= .ok new.toArray w')
  (H:apV e te.size te.bytes te.zero w.heap s n new K):
  Out P (fun v h'=> ∃ r:Sl,v= .slice r.a r.len r.cap/\K r h') w
   ((Sem.run P (do
    let size <- Go.sizeOf e
    let need:=s.len+n
    if need<=s.cap then
     let new <- app
     if let some a:=s.a then storeCells (a.add (s.len*size)) new.toList
     pure (.slice s.a need s.cap)
    else
     if (need:Int)>IntKind.i64.max/\(zs\/(<- typeInfo e).bytes=0) then runtimePanic (.error "growslice: len out of range")
     if Builtin.nextslicecap need s.cap*(<- typeInfo e).bytes>2 ^ 48 then (if zs then runtimePanic (.error "growslice: len out of range") else do
      if !(<- Builtin.mayShare size s.len n s.a x) then mark .noRoom
      unsupported (.resourceLimit "append: a slice or a string whose bytes no memory bears"))
     let newCap <- choose (.appendCap need s.cap e)
     askRoom (newCap*(<- typeInfo e).bytes)
     let old <- Builtin.firstCells size s.len (.slice s.a s.len s.cap)
     let new <- app
     let rest:=Builtin.zeroCells (<- zeroValue e).cells (newCap - need)
     pure (.slice (some (<- newRow e (old++new++rest))) need newCap)) w).andThen fun a w'=>Result.ok (Next.value a) w'):=by
 simp only [Sem.run_bind,eG hA,Result.andThen_ok];unfold apV at H
 by_cases hc:s.len+n<=s.cap
 ·rw [if_pos hc] at H |-
  simp only [Sem.run_bind,happ w rfl,Result.andThen_ok];obtain ⟨sa,sl,sc⟩:=s
  cases sa with
  | none=>
   simp only [Sem.run_pure,Result.andThen_ok]
   exact ⟨Same.refl w,_,rfl,H⟩
  | some a=> obtain ⟨w',g1,g2,g3⟩:=m8 (P:=P) H;simp only [Sem.run_bind,g1,Result.andThen_ok,Sem.run_pure];exact ⟨g2,_,rfl,g3⟩
 ·rw [if_neg hc] at H |-
  obtain ⟨hb,hcap,old,hold,H⟩:=H;obtain ⟨inf,hi,hi1,qC,hi3⟩:=oe hA w
  have hi': ∀ w':World,∃ i,(typeInfo e).run P w'= .ok i w'/\i.bytes=te.bytes:=fun w'=>by obtain ⟨i,h1,_,h2,_⟩:=oe hA w'; exact ⟨i,h1,h2⟩
  simp only [Sem.run_bind,hi,Result.andThen_ok]
  rw [if_neg (by
   rintro ⟨h1,h2⟩;rcases h2 with h2 | h2
   ·have:=hz h2; omega
   ·exact hb (by rw [<- qC]; exact h2))]
  simp only [Sem.run_bind,Result.andThen_ok,hi];rw [if_neg (by rw [qC]; omega)]
  obtain ⟨c,hcd⟩: ∃ c,(Question.appendCap (s.len+n) s.cap e).cut (w.tape w.drawn (Question.appendCap (s.len+n) s.cap e))=c:=⟨_,rfl⟩
  have hcge:s.len+n<=c:=by rw [<- hcd]; simp [Question.cut]
  have hch:(choose (.appendCap (s.len+n) s.cap e)).run P w= .ok c {w with drawn:=w.drawn+1}:=by rw [run_choose,hcd]; rfl
  obtain ⟨age,hj,_⟩:=hi' {w with drawn:=w.drawn+1};have hfc:=jX (P:=P) (w:= {w with drawn:=w.drawn+1}) (l:=s.len) (c:=s.cap) hold;have hzr:=kJ hA {w with drawn:=w.drawn+1};have hap:=happ {w with drawn:=w.drawn+1} rfl;simp only [Sem.run_pure,Sem.run_bind,Result.andThen_ok,hch,hj,run_askRoom,hfc,hap,hzr,newRow,run_newObj];refine ⟨⟨rfl,rfl,rfl⟩,⟨_,_,_⟩,rfl, ?_⟩;have:=H c hcge
  rw [show (old.toArray++new.toArray++Builtin.zeroCells te.zero.cells (c - (s.len+n)))=(old++new++zeros te.zero (c - (s.len+n))).toArray from by
   apply Array.ext';simp only [Builtin.zeroCells,Array.toList_append,Array.toList_map,Array.toList_range]
   rw [m9]; simp [zeros]]
  exact this
theorem CA {o:Oper} {args:Array Operand} {ats:Array TypeId} {s x:Operand} {t u:Nat} {K:Value->Hp->Prop} (ho:o.op= .call {callee:= .builtin .append,args:=args,argTypes:=ats})
  (e0:args.toList=[s,x]) (e0':ats.toList=[t,u]) (hA:Agree P τ)
  (H:match τ.get t,τ.get u,ev Γ s with
   | some ti,some tu, .slice a n c=>match ti.kd with
    | .slice e=>match τ.get e with
     | some te=>match tu.kd,ev Γ x with
      | .slice _, .slice b m d=>apW e te.size te.bytes te.zero w.heap ⟨a,n,c⟩ ⟨b,m,d⟩ fun s h'=>K (.slice s.a s.len s.cap) h'
      | .str, .string y=>bif Nat.beq te.size 1 then apT e te.size te.bytes te.zero w.heap ⟨a,n,c⟩ y fun s h'=>K (.slice s.a s.len s.cap) h' else False
      | .int _, .int _ m=>apZ e te.size te.bytes te.zero w.heap ⟨a,n,c⟩ m fun s h'=>K (.slice s.a s.len s.cap) h'
      | _,_=>False
     | none=>False
    | _=>False
   | _,_,_=>False):
  Out P K w ((execOp (ev Γ) o).run P w):=by
 obtain rfl:args= #[s,x]:=by apply Array.ext'; simpa using e0
 obtain rfl:ats= #[t,u]:=by apply Array.ext'; simpa using e0'
 split at H
 case h_2=>exact H.elim
 rename_i ti tu a n c ht htu es;split at H
 case h_2=>exact H.elim
 rename_i e e1;obtain ⟨dd,hd,hk⟩:=(hA t ti ht).und;rw [e1] at hk; obtain rfl:=cW hk;obtain ⟨du,hdu,hku⟩:=(hA u tu htu).und;split at H
 case h_2=>exact H.elim
 rename_i te hte;have hAe:=hA e te hte
 have fin: ∀ r:Result Next,Out P (fun v h'=> ∃ r:Sl,v= .slice r.a r.len r.cap/\K (.slice r.a r.len r.cap) h') w r->Out P K w r:=by
  intro r hr;have aux: ∀ v h',(∃ r:Sl,v= .slice r.a r.len r.cap/\K (.slice r.a r.len r.cap) h')->K v h':=by rintro v h' ⟨r,rfl,h⟩; exact h
  unfold Out at hr |-
  split at hr
  ·exact ⟨hr.1,aux _ _ hr.2⟩
  ·exact ⟨hr.1,aux _ _ hr.2⟩
  ·exact ⟨hr.1,Calls.mono hr.2 fun e w'' ⟨v,h1,h2,h3⟩=>⟨v,h1,h2,aux _ _ h3⟩⟩
  ·exact hr.elim
 apply fin;simp only [execOp,ho,resolve,invoke,builtin,Sem.run_bind,Sem.run_pure,Result.andThen_ok,Builtin.append_];simp only [List.map_toArray,List.map_cons,List.map_nil,List.getElem?_toArray,List.getElem?_cons_zero,List.getElem?_cons_succ,es,Sem.run_bind,run_underlying hd,run_underlying hdu,Result.andThen_ok,Sem.run_pure];split at H
 case h_4=>exact H.elim
 case h_1 el b m d e2 e3=>
  rw [e2] at hku; obtain rfl:=cW hku;obtain ⟨new,h1,h2⟩:=H;have hap: ∀ w':World,w'.heap=w.heap->(Builtin.firstCells te.size m (.slice b m d)).run P w'= .ok new.toArray w':=fun w' hw=>jX (by rw [hw]; exact h1);have key:=DZ (P:=P) (w:=w) hAe false (by simp) (ev Γ x) (Builtin.firstCells te.size m (.slice b m d)) hap h2;simp only [Sem.run_bind,eG hAe,Result.andThen_ok] at key |-
  simp only [e3,Bool.false_eq_true,if_false,Bool.not_false,if_true,Builtin.lenOf] at key |-
  exact key
 case h_2 y e2 e3=>
  rw [e2] at hku; obtain rfl:=gF hku
  cases hb:Nat.beq te.size 1 with
  | false=>rw [hb] at H; exact H.elim
  | true=>
  rw [hb] at H; simp only [cond_true,cnd] at H
  have hap: ∀ w':World,w'.heap=w.heap->(Builtin.firstCells te.size y.size (.string y)).run P w'= .ok (byteVals y).toArray w':=fun w' _=>by
   simp only [Builtin.firstCells,Sem.run_pure];congr 1;apply Array.ext';have:y.extract 0 y.size=y:=by simp
   rw [this];simp [byteVals]
  have key:=DZ (P:=P) (w:=w) hAe false (by simp) (ev Γ x) (Builtin.firstCells te.size y.size (.string y)) hap H;simp only [Sem.run_bind,eG hAe,Result.andThen_ok] at key |-
  simp only [e3,Bool.false_eq_true,if_false,Bool.not_false,if_true,Builtin.lenOf] at key |-
  exact key
 case h_3 k2 k m e2 e3=>
  rw [e2] at hku; obtain rfl:=jb hku;obtain ⟨h0,h1,h2,h3⟩:=H;have hmax:IntKind.i64.max=9223372036854775807:=by decide
  have hw:IntKind.i64.wrap m=m:=by
   rw [hmax] at h2;have e1:(2:Int) ^ 64=18446744073709551616:=by decide
   have e2:(2:Int) ^ (64 - 1)=9223372036854775808:=by decide
   simp only [IntKind.wrap,IntKind.bits,IntKind.signed,Bool.true_and,decide_eq_true_eq,e1,e2];split <;> omega
  obtain ⟨inf,hi,hi1,qC,hi3⟩:=oe hAe w;have hsz:=hAe.2
  have hap: ∀ w':World,w'.heap=w.heap->((if m.toNat*te.size=0 then pure #[] else do pure (Builtin.zeroCells (<- zeroValue e).cells m.toNat)):Sem (Array Value)).run P w'= .ok (zeros te.zero m.toNat).toArray w':=fun w' _=>by
   have hzc:Builtin.zeroCells te.zero.cells m.toNat=(zeros te.zero m.toNat).toArray:=by apply Array.ext';simp only [Builtin.zeroCells,Array.toList_map,Array.toList_range];exact m9 _ _
   by_cases Ma:m.toNat*te.size=0
   ·rw [if_pos Ma,Sem.run_pure,<- hzc,Builtin.zeroCells,hsz,Ma,show Array.range 0= #[] from rfl,Array.map_empty]
   ·rw [if_neg Ma,Sem.run_bind,kJ hAe,Result.andThen_ok,Sem.run_pure,hzc]
  have key:=DZ (P:=P) (w:=w) hAe true (fun _=>h2) (ev Γ x) _ hap h3;simp only [Sem.run_bind,eG hAe,Result.andThen_ok] at key |-
  simp only [e3,if_true,Sem.run_bind,asInt,asIntOf,Sem.run_pure,Result.andThen_ok,hw,Bool.not_true,Bool.false_eq_true,if_false] at key |-
  rw [if_neg (by omega)];simp only [Sem.run_bind,hi,Result.andThen_ok,qC];rw [if_neg (by omega)];rw [Sem.run_bind,Sem.run_pure,Result.andThen_ok];exact key
theorem Iz {o:Oper} {f:Nat} {args:Array Operand} {ats:Array TypeId} {K:Value->Hp->Prop} (ho:o.op= .call {callee:= .value (.func f),args:=args,argTypes:=ats})
  {S:Spec} (hS:SpecOk P f S) (H:S (args.toList.map (ev Γ)) w.heap K):Out P K w ((execOp (ev Γ) o).run P w):=by
 obtain ⟨⟨fn,h1,h2,h3⟩,h4⟩:=hS;have h5:=h4 _ _ _ H;simp only [execOp,ho,resolve,ev,Deferred.ofValue,invoke,Sem.run_bind,Sem.run_pure,Result.andThen_ok,callFunc,run_program,h1,h2,h3,Bool.false_eq_true,if_false];refine ⟨Same.refl w, ?_⟩;have:(#[]++Array.map (ev Γ) args++ #[])=(args.toList.map (ev Γ)).toArray:=by apply Array.ext'; simp
 rw [this];exact h5
theorem Mb {o:Oper} {x:Operand} {args:Array Operand} {ats:Array TypeId} {K:Value->Hp->Prop} (ho:o.op= .call {callee:= .value x,args:=args,argTypes:=ats})
  {cl:Specs} (hcl:SpecsOk P cl) (H:phi cl (ev Γ x) (args.toList.map (ev Γ)) w.heap K):Out P K w ((execOp (ev Γ) o).run P w):=by
 unfold phi at H;split at H
 case h_2=>exact H.elim
 rename_i id first captured ex
 split at H
 case h_2=>exact H.elim
 rename_i S hS;obtain ⟨⟨fn,h1,h2,h3⟩,h4⟩:=hcl id S hS;have h5:=h4 _ _ _ H;simp only [execOp,ho,resolve,ex,Deferred.ofValue,invoke,Sem.run_bind,Sem.run_pure,Result.andThen_ok,callFunc,run_program,h1,h2,h3,Bool.false_eq_true,if_false];refine ⟨Same.refl w, ?_⟩;have:(first++Array.map (ev Γ) args++captured)=(first.toList++args.toList.map (ev Γ)++captured.toList).toArray:=by apply Array.ext'; simp
 rw [this];exact h5
theorem tO {o:Oper} {K:Value->Hp->Prop} {σ cl:Specs} {rt:Nat} (hA:Agree P τ) (hσ:SpecsOk P σ) (hcl:SpecsOk P cl)
  (H:opC τ σ cl rt o.op Γ w.heap K):Out P K w ((execOp (ev Γ) o).run P w):=by
 cases ho:o.op with
 | alloc e=>rw [ho] at H; exact DW ho hA H
 | box e x=>rw [ho] at H; exact L6 ho H
 | buildSlice t n ps=>rw [ho] at H; exact s5 ho hA H
 | store t a x=>rw [ho] at H; exact DX ho hA H
 | convert s d x=>rw [ho] at H; exact zE ho hA H
 | makeMap t x=>rw [ho] at H; exact zF ho hA H
 | makeSlice t l c=>rw [ho] at H; exact vc ho hA H
 | mapUpdate t m k x=>rw [ho] at H; exact vf ho hA H
 | call c=>
  rw [ho] at H;obtain ⟨callee,args,ats⟩:=c
  cases callee with
  | builtin b=>
   simp only [opC] at H;split at H
   case h_1 s x t u e1 e2=>exact CA ho e1 e2 hA H
   case h_2 d x t l e1 e2=>exact Iy ho e1 ⟨l,e2⟩ hA H
   case h_3 x t l e1 e2=>exact DY ho e1 ⟨l,e2⟩ hA H
   case h_4 m k t l e1 e2=>exact Cz ho e1 ⟨l,e2⟩ hA H
   case h_5=>exact H.elim
  | value x=>
   cases x with
   | func f=>
    simp only [opC] at H;split at H
    ·rename_i S hS; exact Iz ho (hσ f S hS) H
    ·exact H.elim
   | _=>
    simp only [opC] at H;split at H
    ·rename_i ti hti
     have:=Mb (P:=P) (K:=fun v h'=>isA ti v fun v=>K v h') ho hcl H;have aux: ∀ v h',isA ti v (fun v=>K v h')->K v h':=fun v h' hh=>qB (K:=fun v=>K v h') hh;unfold Out at this |-
     split at this
     ·exact ⟨this.1,aux _ _ this.2⟩
     ·exact ⟨this.1,aux _ _ this.2⟩
     ·exact ⟨this.1,Calls.mono this.2 fun e w'' ⟨v,h1,h2,h3⟩=>⟨v,h1,h2,aux _ _ h3⟩⟩
     ·exact this.elim
    ·exact H.elim
  | _=>simp only [opC] at H
 | _=>rw [ho] at H; simp only [opC] at H
theorem CB {o:Oper} {K:Value->Hp->Prop} {σ cl:Specs} {rt:Nat} (hA:Agree P τ) (hσ:SpecsOk P σ) (hcl:SpecsOk P cl)
  (H:opW τ σ cl rt o.op Γ w.heap K):Out P K w ((execOp (ev Γ) o).run P w):=by
 unfold opW at H
 cases hr:(isR o.op || readsConv τ o.op) with
 | false=>rw [hr] at H; exact tO hA hσ hcl H
 | true=> rw [hr] at H; simp only [cond_true,cnd] at H;obtain ⟨f,v,h1,h2,h3⟩:=jF (P:=P) (K:=fun _ v=>K v w.heap) hA H;rw [h3 w h2];exact ⟨Same.refl w,h1⟩
end Go.Wc
namespace Go.Wc
variable {ds:List Deferred} {P:Program} {τ:Tys} {σ cl:Specs}
def dstOk (n:Nat):Option Nat->Bool
 | none=>true
 | some d=>Nat.blt d n
def opsOk (n:Nat) (Γ:Env) (o:Oper):Bool:=dstOk n o.dst && o.op.operands.toList.all (present Γ)
abbrev stepOp (τ:Tys) (σ cl:Specs) (n:Nat) (o:Oper) (Γ:Env) (h:Hp) (K:Env->Hp->Prop):Prop:=
 cnd (opsOk n Γ o) (opW τ σ cl o.type o.op Γ h fun v h'=>K (put o.dst v Γ) h') (False)
abbrev gd (ops:List Oper) (o:Oper) (Γ:Env) (exec skip:Env->Prop):Prop:=
 match o.guard with
 | none=>exec Γ
 | some (j,want)=>match ops[j]? with
  | none=>False
  | some g=>match g.dst with
   | none=>False
   | some d=>match Γ.find d with
    | some (.bool b)=>brA b (cnd (want) (exec ((d, .bool true)::Γ)) (skip ((d, .bool true)::Γ))) (cnd (want) (skip ((d, .bool false)::Γ)) (exec ((d, .bool false)::Γ)))
    | some (.tuple _)=>skip Γ
    | _=>False
abbrev WSeq (τ:Tys) (σ cl:Specs) (n:Nat) (ops:List Oper):List Oper->Env->Hp->(Env->Hp->Prop)->Prop
 | [],Γ,h,K=>K Γ h
 | o::r,Γ,h,K=>gd ops o Γ (fun Γ=>stepOp τ σ cl n o Γ h fun Γ' h'=>WSeq τ σ cl n ops r Γ' h' K)
   (fun Γ=>cnd (dstOk n o.dst) (WSeq τ σ cl n ops r (put o.dst undef Γ) h K) (False))
def Fits (ds:List Deferred) (n:Nat) (Γ:Env) (a:Act):Prop:=a.tmps.size=n/\a.defers=ds/\ ∀ t v,Env.find Γ t=some v->a.tmps[t]? =some v
theorem Fits.put {n:Nat} {Γ:Env} {a:Act} (h:Fits ds n Γ a) {d:Option Nat} (hd:dstOk n d=true) (v:Value):Fits ds n (Wc.put d v Γ) (a.put d v):=by
 cases d with
 | none=>exact h
 | some d=>
  obtain ⟨h1,h2,h3⟩:=h;have hlt:d<n:=by simpa [dstOk,Nat.blt_eq] using hd
  refine ⟨by simp [Act.put,h1],h2,fun t u hu=> ?_⟩;simp only [Wc.put,Env.find] at hu
  cases hb:Nat.beq d t with
  | true=>
   rw [hb] at hu; simp at hu; subst hu;have:d=t:=by simpa using hb
   subst this
   simp [Act.put,h1,hlt]
  | false=>
   rw [hb] at hu;have:d ≠ t:=by intro e; subst e; simp at hb
   simp only [Act.put];rw [Array.getElem?_setIfInBounds_ne this];exact h3 t u hu
theorem Fits.more {n:Nat} {Γ:Env} {a:Act} (h:Fits ds n Γ a) {d:Nat} {v:Value} (hd:Env.find Γ d=some v):Fits ds n ((d,v)::Γ) a:=by
 obtain ⟨h1,h2,h3⟩:=h;refine ⟨h1,h2,fun t u hu=> ?_⟩;simp only [Env.find] at hu
 cases hb:Nat.beq d t with
 | true=>
  rw [hb] at hu; simp at hu; subst hu;have:d=t:=by simpa using hb
  subst this; exact h3 _ _ hd
 | false=>rw [hb] at hu; exact h3 t u hu
theorem Fits.eval {n:Nat} {Γ:Env} {a:Act} (h:Fits ds n Γ a) {x:Operand} (hx:present Γ x=true):a.eval x=ev Γ x:=by
 cases x with
 | tmp t=>
  simp only [present] at hx;obtain ⟨v,hv⟩:=Option.isSome_iff_exists.1 hx;have:=h.2.2 t v hv
  simp [Act.eval,ev,hv,this]
 | _=>rfl
theorem Fits.exec {n:Nat} {Γ:Env} {a:Act} (h:Fits ds n Γ a) {o:Oper} (hs: ∀ cs b,o.op ≠ .select cs b) (hx:o.op.operands.toList.all (present Γ)=true):
  execOp a.eval o=execOp (ev Γ) o:=
 execOp_congr o hs fun x hm=>h.eval (by rw [List.all_eq_true] at hx; exact hx x (by simpa using hm))
theorem zG {rt:Nat} {cs:Array SelectCase} {b:Bool} {Γ:Env} {h:Hp} {K:Value->Hp->Prop} (H:opW τ σ cl rt (.select cs b) Γ h K):False:=by simp only [opW,isR,readsConv,Bool.or_self,cond_false,cnd,opC] at H
theorem tQ {n:Nat} {o:Oper} {Γ:Env} {K:Env->Hp->Prop} {a:Act} {w:World} {next:Act->World->Prop} {Q:Exit->Act->World->Prop}
  (hA:Agree P τ) (hσ:SpecsOk P σ) (hcl:SpecsOk P cl) (hf:Fits ds n Γ a)
  (hn: ∀ Γ' a' w',Fits ds n Γ' a'->Same w w'->K Γ' w'.heap->next a' w') (H:stepOp τ σ cl n o Γ w.heap K):o.wp P a w next Q:=by
 unfold stepOp at H
 cases hok:opsOk n Γ o with
 | false=>rw [hok] at H; exact H.elim
 | true=>
  rw [hok] at H; simp only [cond_true,cnd] at H;simp only [opsOk,Bool.and_eq_true] at hok;have hsel: ∀ cs b,o.op ≠ .select cs b:=fun cs b e=>by rw [e] at H; exact zG H
  have hout:=CB (P:=P) hA hσ hcl H;unfold Oper.wp;rw [hf.exec hsel hok.2];generalize (execOp (ev Γ) o).run P w=r at hout;unfold Out at hout;split at hout
  ·exact hn _ _ _ (hf.put hok.1 _) hout.1 hout.2
  ·exact hn _ _ _ (hf.put hok.1 _) hout.1 hout.2
  ·obtain ⟨h1,h2⟩:=hout
   refine Calls.mono h2 fun e w'' ⟨v,he,hs,hk⟩=> ?_;subst he;exact hn _ _ _ (hf.put hok.1 _) (h1.trans hs) hk
  ·exact hout.elim
theorem vg {n:Nat} {ops:List Oper} {o:Oper} {Γ:Env} {a:Act} {exec skip:Env->Prop} (hf:Fits ds n Γ a) (H:gd ops o Γ exec skip):
  (Region.wanted o (yielded ops.toArray a.tmps)=true/\ ∃ Γ',Fits ds n Γ' a/\exec Γ')\/(Region.wanted o (yielded ops.toArray a.tmps)=false/\ ∃ Γ',Fits ds n Γ' a/\skip Γ'):=by
 unfold gd at H;split at H
 ·rename_i hg; exact .inl ⟨by simp [Region.wanted,hg],Γ,hf,H⟩
 ·rename_i j want hg
  split at H
  ·exact H.elim
  rename_i g hgj;split at H
  ·exact H.elim
  rename_i d hd;split at H
  ·rename_i b hb
   have hy:yielded ops.toArray a.tmps j=some b:=by simp only [yielded,List.getElem?_toArray,hgj,Option.bind_some,hd,hf.2.2 d _ hb]
   rw [DP] at H;cases b <;> cases want <;> simp only [ak,aa,cond_true,cond_false,cnd] at H
   ·exact .inl ⟨by simp [Region.wanted,hg,hy],_,hf.more hb,H⟩
   ·exact .inr ⟨by simp [Region.wanted,hg,hy],_,hf.more hb,H⟩
   ·exact .inr ⟨by simp [Region.wanted,hg,hy],_,hf.more hb,H⟩
   ·exact .inl ⟨by simp [Region.wanted,hg,hy],_,hf.more hb,H⟩
  ·rename_i vs hb
   have hy:yielded ops.toArray a.tmps j=none:=by simp only [yielded,List.getElem?_toArray,hgj,Option.bind_some,hd,hf.2.2 d _ hb]
   exact .inr ⟨by simp [Region.wanted,hg,hy],_,hf,H⟩
  ·exact H.elim
theorem mA {n:Nat} {ops:List Oper} {Q:Exit->Act->World->Prop} (hA:Agree P τ) (hσ:SpecsOk P σ) (hcl:SpecsOk P cl):
  ∀ {l:List Oper} {Γ:Env} {K:Env->Hp->Prop} {a:Act} {w:World},Fits ds n Γ a->(∀ Γ' a' w',Fits ds n Γ' a'->Same w w'->K Γ' w'.heap->Q .normal a' w')->
   WSeq τ σ cl n ops l Γ w.heap K->wpList P ops.toArray Q l a w
 | [],Γ,K,a,w,hf,hQ,H=>hQ _ _ _ hf (Same.refl w) H
 | o::l,Γ,K,a,w,hf,hQ,H=>by
  unfold WSeq at H;unfold wpList;rcases vg hf H with ⟨hw,Γ',hf',H⟩ | ⟨hw,Γ',hf',H⟩
  ·rw [if_pos hw]
   refine .inl (tQ hA hσ hcl hf' (fun Γ'' a' w' hf'' hs hk=> ?_) H);exact mA hA hσ hcl hf'' (fun Γ3 a3 w3 h1 h2 h3=>hQ _ _ _ h1 (hs.trans h2) h3) hk
  ·rw [if_neg (by rw [hw]; simp)]
   cases hd:dstOk n o.dst with
   | false=>rw [hd] at H; exact H.elim
   | true=>rw [hd] at H; exact mA hA hσ hcl (hf'.put hd _) hQ H
end Go.Wc
namespace Go.Wc
variable {ds:List Deferred} {P:Program} {τ:Tys} {σ cl:Specs} {ops:Array Oper} {Q:Exit->Act->World->Prop}
def wpAnyG (P:Program) (ops:Array Oper) (Q:Exit->Act->World->Prop) (S:Array Bool->World->Prop):Nat->Array Bool->Act->World->Prop
 | 0,l,a,w=>Region.ready .any ops l=[]/\Q .normal a w
 | fuel+1,l,a,w=>(Region.ready .any ops l=[]->Q .normal a w)/\
   ∀ i ∈ Region.ready .any ops l,wpOp P ops Q i (fun a' w'=>S (l.setIfInBounds i true) w'/\wpAnyG P ops Q S fuel (l.setIfInBounds i true) a' w') a w
theorem jY {S:Array Bool->World->Prop}: ∀ (fuel:Nat) (l:Array Bool) (a:Act) (w:World),wpAnyG P ops Q S fuel l a w->wpAny P .any ops Q fuel l a w
 | 0,_,_,_,h=>h
 | fuel+1,_,_,_,h=>⟨h.1,fun i hi=>wpOp_mono (fun a' w' h'=>jY fuel _ a' w' h'.2) (h.2 i hi)⟩
theorem iR {l:Array Bool} {i x:Nat} (h:l.getD x false=true):(l.setIfInBounds i true).getD x false=true:=getD_set_true h
theorem eJ {S S':Array Bool->World->Prop}: ∀ (fuel:Nat) (l:Array Bool) (a:Act) (w:World),
  (∀ l' w,(∀ x,l.getD x false=true->l'.getD x false=true)->S' l' w->S l' w)->wpAnyG P ops Q S' fuel l a w->wpAnyG P ops Q S fuel l a w
 | 0,_,_,_,_,h=>h
 | fuel+1,_,_,_,hm,h=>⟨h.1,fun i hi=>wpOp_mono (fun a' w' h'=>⟨hm _ _ (fun _ hx=>iR hx) h'.1,
   eJ fuel _ a' w' (fun l' w hl=>hm l' w fun x hx=>hl x (iR hx)) h'.2⟩) (h.2 i hi)⟩
def Cl (ops:Array Oper) (l:Array Bool):Prop:= ∀ x ox,ops[x]? =some ox->l.getD x false=true-> ∀ e ∈ ox.after,Region.binds .any e=true->l.getD e.on false=true
theorem Cl.set {l:Array Bool} {i:Nat} (h:Cl ops l) (hi:i ∈ Region.ready .any ops l):Cl ops (l.setIfInBounds i true):=by
 intro x ox hx hl e he hb
 by_cases hxi:i=x
 ·subst hxi
  obtain ⟨_,oi,hoi,hall⟩:=mem_ready.1 hi;rw [hoi] at hx; cases hx;exact iR (hall e he hb)
 ·rw [getD_set_ne false hxi] at hl
  exact iR (h x ox hx hl e he hb)
def descB (ops:Array Oper):Nat->Nat->Nat->Bool
 | 0,_,_=>false
 | n+1,i,d=>match ops[d]? with
  | some o=>o.after.toList.any fun e=>Region.binds .any e && (Nat.beq e.on i || descB ops n i e.on)
  | none=>false
theorem qE {l:Array Bool} {i:Nat} (hc:Cl ops l) (hi:l.getD i false=false): ∀ (n d:Nat),descB ops n i d=true->l.getD d false=false
 | 0,_,h=>by simp [descB] at h
 | n+1,d,h=>by
  unfold descB at h;split at h
  ·rename_i o ho
   simp only [List.any_eq_true,Bool.and_eq_true,Bool.or_eq_true,Nat.beq_eq] at h;obtain ⟨e,he,hb,hor⟩:=h
   cases hd:l.getD d false with
   | false=>rfl
   | true=>
    have h1:=hc d o ho hd e (by simpa using he) hb;rcases hor with hor | hor
    ·rw [hor,hi] at h1; cases h1
    ·rw [qE hc hi n _ hor] at h1; cases h1
  ·cases h
theorem ng {S:Array Bool->World->Prop} {f:World->Prop} {i:Nat} {oi:Oper} {v:Value} {D:List Nat} (hi:ops[i]? =some oi)
  (hsel: ∀ (j:Nat) (o:Oper) cs b,ops[j]? =some o->o.op ≠ .select cs b) (hQ: ∀ c a w,Q (.panic c) (a.put oi.dst v) w->Q (.panic c) a w)
  (hDi:i ∉ D) (hD: ∀ d ∈ D,∃ n,descB ops n i d=true) (hS: ∀ l w,S (l.setIfInBounds i true) w↔S l w):
  ∀ (fuel:Nat) (l:Array Bool) (a:Act) (w:World),Cl ops l->
   (∀ j oj,ops[j]? =some oj->j ≠ i->l.getD j true=false->(∀ e ∈ oj.after,Region.binds .any e=true->e.on ≠ i)->oi.apart ops oj=true)->
   i ∈ Region.ready .any ops l->YieldsIf P ops f oi v a->f w->S l w->
   wpAnyG P ops Q (fun l' w'=>S l' w'/\((∀ d ∈ D,l'.getD d false=false)->f w')) fuel (l.setIfInBounds i true) (a.put oi.dst v) w->
   wpAnyG P ops Q S (fuel+1) l a w:=by
 intro fuel
 induction fuel with
 | zero=>
  intro l a w _ _ hr hy hf hSw H;refine ⟨fun h=>(by rw [h] at hr; cases hr),fun j hj=> ?_⟩
  by_cases hji:j=i
  ·subst hji; exact hy.wpOp hi hf ⟨(hS _ _).2 hSw,H⟩
  ·have:=ready_mono hj hji
   rw [H.1] at this
   cases this
 | succ fuel ih=>
  intro l a w hcl hfree hr hy hf hSw H;refine ⟨fun h=>(by rw [h] at hr; cases hr),fun j hj=> ?_⟩
  by_cases hji:j=i
  ·subst hji
   exact hy.wpOp hi hf ⟨(hS _ _).2 hSw,eJ _ _ _ _ (fun l' w' _ h=>h.1) H⟩
  ·have h1:=H.2 j (ready_mono hj hji)
   obtain ⟨hjun,oj,hoj,hall⟩:=mem_ready.1 hj;have hiun:l.getD i true=false:=(mem_ready.1 hr).1
   have hiun':l.getD i false=false:=by
    rcases Nat.lt_or_ge i l.size with h' | h'
    ·simp [h'] at hiun |-; exact hiun
    ·simp [Array.getElem?_eq_none h'] at hiun
   have hnot: ∀ e ∈ oj.after,Region.binds .any e=true->e.on ≠ i:=fun e he hb heq=>by have h1:=hall e he hb;rw [heq,hiun'] at h1; cases h1
   have h2:=wpOp_putIf hoj (hfree j oj hoj hji hjun hnot) (fun cs b=>hsel i oi cs b hi) (fun cs b=>hsel j oj cs b hoj) hQ hy h1
   have hfree': ∀ k ok,ops[k]? =some ok->k ≠ i->(l.setIfInBounds j true).getD k true=false->
     (∀ e ∈ ok.after,Region.binds .any e=true->e.on ≠ i)->oi.apart ops ok=true:=fun k ok hk hki hun hno=>by
    refine hfree k ok hk hki ?_ hno
    by_cases hjk:j=k
    ·subst hjk; exact hjun
    ·rw [getD_set_ne true hjk] at hun; exact hun
   have hclj:=hcl.set hj;refine wpOp_mono (fun a' w' h3=> ?_) h2;obtain ⟨h4,⟨h5,h6⟩,h7⟩:=h3;have hcomm:(l.setIfInBounds i true).setIfInBounds j true=(l.setIfInBounds j true).setIfInBounds i true:=Array.setIfInBounds_comm _ _ (Ne.symm hji);rw [hcomm] at h5 h6 h7;have hSj:S (l.setIfInBounds j true) w':=(hS _ _).1 h5;have hi':(l.setIfInBounds j true).getD i false=false:=by rw [getD_set_ne false hji]; exact hiun'
   have hf':f w':=h6 fun d hd=>by have hdi:i ≠ d:=fun e=>hDi (e ▸ hd);rw [getD_set_ne false hdi];obtain ⟨n,hn⟩:=hD d hd;exact qE hclj hi' n d hn
   exact ⟨hSj,ih (l.setIfInBounds j true) a' w' hclj hfree' (ready_mono hr (Ne.symm hji)) h4 hf' hSj h7⟩
inductive Plan where
 | done
 | take (i:Nat) (D:List Nat) (p:Plan)
 | all (r:Plan)
 | alt (i:Nat) (p r:Plan)
 | nil
def altIds:Plan->List Nat
 | .alt i _ r=>i::altIds r
 | _=>[]
def memN (n:Nat):List Nat->Bool
 | []=>false
 | m::r=>Nat.beq m n || memN n r
theorem cG {n:Nat}: ∀ {l:List Nat},memN n l=true↔n ∈ l
 | []=>by simp [memN]
 | m::r=>by simp only [memN,Bool.or_eq_true,Nat.beq_eq,cG,List.mem_cons]; constructor <;> (rintro (h | h) <;> simp [h])
def shutP:Plan->Bool
 | .nil=>false
 | .alt .. =>false
 | _=>true
def planOk (ops:Array Oper):Plan->Nat->Array Bool->List Nat->Bool
 | .done,_,l,_=>(Region.ready .any ops l).isEmpty
 | .take i D p,f,l,Ds=>match f with
  | 0=>false
  | f+1=>Region.free .any ops l i && (Region.ready .any ops l).contains i && !memN i Ds && !memN i D && D.all (fun d=>descB ops ops.size i d) && shutP p && planOk ops p f (l.setIfInBounds i true) (D++Ds)
 | .all r,f,l,Ds=>match f with
  | 0=>false
  | f+1=>(altIds r==Region.ready .any ops l) && !(altIds r).isEmpty && planOk ops r f l Ds
 | .alt i p r,f,l,Ds=>shutP p && planOk ops p f (l.setIfInBounds i true) Ds && planOk ops r f l Ds
 | .nil,_,_,_=>true
abbrev Facts:=List (List Nat × (Hp->Prop))
def keepF (j:Nat):Facts->Facts
 | []=>[]
 | (D,f)::r=>bif memN j D then keepF j r else (D,f)::keepF j r
abbrev allF:Facts->Hp->Prop->Prop
 | [],_,X=>X
 | (_,f)::r,h,X=>f h/\allF r h X
def looks:Op->Bool
 | .load .. | .lookup .. | .convert .. | .call {callee:= .builtin _, ..}=>true
 | _=>false
theorem CC {o:Op} {Γ:Env} {h:Hp} {K:(Hp->Prop)->Value->Prop} (hl:looks o=false):
  opR τ o Γ h K=opR τ o Γ h fun _ v=>K (fun _=>True) v:=by
 cases o with
 | load=>simp [looks] at hl
 | lookup=>simp [looks] at hl
 | convert=>simp [looks] at hl
 | call c=>
  obtain ⟨callee,args,ats⟩:=c
  cases callee with
  | builtin b=>simp [looks] at hl
  | _=>rfl
 | slice t x lo hi mx=>cases mx <;> cases hi <;> rfl
 | _=>rfl
abbrev WPl (τ:Tys) (σ cl:Specs) (n:Nat) (ops:List Oper):Plan->Env->Hp->Facts->(Env->Hp->Prop)->Prop
 | .done,Γ,h,_,K=>K Γ h
 | .take i D p,Γ,h,F,K=>match ops[i]? with
  | none=>False
  | some o=>gd ops o Γ (fun Γ=>cnd (opsOk n Γ o) ((cnd (looks o.op) (opR τ o.op Γ h fun f v=>WPl τ σ cl n ops p (put o.dst v Γ) h ((D,f)::F) K) (opR τ o.op Γ h fun _ v=>WPl τ σ cl n ops p (put o.dst v Γ) h F K))) (False))
    (fun Γ=>cnd (dstOk n o.dst) (WPl τ σ cl n ops p (put o.dst undef Γ) h F K) (False))
 | .all r,Γ,h,F,K=>WPl τ σ cl n ops r Γ h F K
 | .alt i p r,Γ,h,F,K=>
  let X:=match ops[i]? with
   | none=>False
   | some o=>gd ops o Γ (fun Γ=>stepOp τ σ cl n o Γ h fun Γ' h'=>allF (keepF i F) h' (WPl τ σ cl n ops p Γ' h' (keepF i F) K))
     (fun Γ=>cnd (dstOk n o.dst) (WPl τ σ cl n ops p (put o.dst undef Γ) h (keepF i F) K) (False))
  match r with
  | .nil=>X
  | _=>X/\WPl τ σ cl n ops r Γ h F K
 | .nil,_,_,_,_=>True
def SF (F:Facts) (l:Array Bool) (w:World):Prop:= ∀ p ∈ F,(∀ d ∈ p.1,l.getD d false=false)->p.2 w.heap
theorem tR: ∀ {F:Facts} {h:Hp} {X:Prop},allF F h X->(∀ p ∈ F,p.2 h)/\X
 | [],_,_,H=>⟨fun p hp=>by simp at hp,H⟩
 | (D,f)::r,h,X,H=>by
  obtain ⟨h1,h2⟩:=tR H.2;refine ⟨fun p hp=> ?_,h2⟩;rcases List.mem_cons.1 hp with rfl | hp
  ·exact H.1
  ·exact h1 p hp
theorem tU {j:Nat} {p:List Nat × (Hp->Prop)}: ∀ {F:Facts},p ∈ F->j ∈ p.1\/p ∈ keepF j F
 | [],h=>by simp at h
 | (D,f)::r,h=>by
  rcases List.mem_cons.1 h with rfl | h
  ·cases hm:memN j D with
   | true=>exact .inl (cG.1 hm)
   | false=>right; simp [keepF,hm]
  ·rcases tU h with h | h
   ·exact .inl h
   ·right; cases hm:memN j D <;> simp [keepF,hm,h]
theorem iW {j:Nat} {p:List Nat × (Hp->Prop)}: ∀ {F:Facts},p ∈ keepF j F->p ∈ F
  | [],h=>by simp [keepF] at h
  | (D,f)::r,h=>by
    cases hm:memN j D with
    | true=>simp only [keepF,hm,cond_true,cnd] at h; exact List.mem_cons_of_mem _ (iW h)
    | false => simp only [keepF, hm, cond_false, cnd, List.mem_cons] at h
               rcases h with rfl | h
               . exact List.mem_cons_self
               . exact List.mem_cons_of_mem _ (iW h)
theorem qb {j:Nat} {F:Facts} {l:Array Bool} {w:World} (hj:l.getD j false=true) (h:SF (keepF j F) l w):SF F l w:=by
 intro p hp hd;rcases tU (j:=j) hp with hm | hm
 ·have:=hd j hm; rw [hj] at this; cases this
 ·exact h p hm hd
theorem Bp {F:Facts} {l:Array Bool} {w:World} (h: ∀ q ∈ F,q.2 w.heap):SF F l w:=fun q hq _=>h q hq
theorem iX {n:Nat} {ops:List Oper} {Q:Exit->Act->World->Prop} (hA:Agree P τ) (hσ:SpecsOk P σ) (hcl:SpecsOk P cl)
  (hsel:Region.noSelect ops.toArray=true) (hQ: ∀ c a w,¬ Q (.panic c) a w) {w0:World} {K:Env->Hp->Prop}
  (hK: ∀ Γ' a' w',Fits ds n Γ' a'->Same w0 w'->K Γ' w'.heap->Q .normal a' w'):
  ∀ (p:Plan) {Γ:Env} {F:Facts} {a:Act} {w:World} {fuel:Nat} {l:Array Bool} {Ds:List Nat},Fits ds n Γ a->Same w0 w->Cl ops.toArray l->
   (∀ q ∈ F,∀ d ∈ q.1,d ∈ Ds)->planOk ops.toArray p fuel l Ds=true->(∀ q ∈ F,q.2 w.heap)->WPl τ σ cl n ops p Γ w.heap F K->
   (shutP p=true->wpAnyG P ops.toArray Q (SF F) fuel l a w)/\
   (∀ i ∈ altIds p,i ∈ Region.ready .any ops.toArray l->wpOp P ops.toArray Q i (fun a' w'=>SF F (l.setIfInBounds i true) w'/\wpAnyG P ops.toArray Q (SF F) fuel (l.setIfInBounds i true) a' w') a w)
 | .nil,Γ,F,a,w,fuel,l,Ds,_,_,_,_,_,_,_=>⟨fun h=>by simp [shutP] at h,fun i hi=>by simp [altIds] at hi⟩
 | .done,Γ,F,a,w,fuel,l,Ds,hf,hs,hc,hDs,hp,hS,H=>by
  refine ⟨fun _=> ?_,fun i hi=>by simp [altIds] at hi⟩;simp only [planOk,List.isEmpty_iff] at hp;have hq:=hK _ _ _ hf hs H
  cases fuel with
  | zero=>exact ⟨hp,hq⟩
  | succ f=>exact ⟨fun _=>hq,fun i hi=>by rw [hp] at hi; cases hi⟩
 | .all r,Γ,F,a,w,fuel,l,Ds,hf,hs,hc,hDs,hp,hS,H=>by
  refine ⟨fun _=> ?_,fun i hi=>by simp [altIds] at hi⟩
  cases fuel with
  | zero=>simp [planOk] at hp
  | succ f=>
   simp only [planOk,Bool.and_eq_true,beq_iff_eq,Bool.not_eq_true',List.isEmpty_eq_false_iff] at hp;obtain ⟨⟨h1,h2⟩,h3⟩:=hp;have ih:=(iX hA hσ hcl hsel hQ hK r hf hs hc hDs h3 hS H).2
   refine ⟨fun h0=>absurd (h1.trans h0) h2,fun i hi=>ih i (h1 ▸ hi) hi⟩
 | .alt i p r,Γ,F,a,w,fuel,l,Ds,hf,hs,hc,hDs,hp,hS,H=>by
  refine ⟨fun h=>by simp [shutP] at h,fun j hj hr=> ?_⟩;simp only [planOk,Bool.and_eq_true] at hp
  have Hr:j ∈ altIds r->WPl τ σ cl n ops r Γ w.heap F K:=by
   intro hjr;unfold WPl at H
   cases r with
   | nil=>simp [altIds] at hjr
   | _=>exact H.2
  have HX:match ops[i]? with
    | none=>False
    | some o=>gd ops o Γ (fun Γ=>stepOp τ σ cl n o Γ w.heap fun Γ' h'=>allF (keepF i F) h' (WPl τ σ cl n ops p Γ' h' (keepF i F) K))
      (fun Γ=>bif dstOk n o.dst then WPl τ σ cl n ops p (put o.dst undef Γ) w.heap (keepF i F) K else False):=by
   unfold WPl at H
   cases r with
   | nil=>exact H
   | _=>exact H.1
  by_cases hji:j=i
  ·subst hji
   obtain ⟨_,o,ho,_⟩:=mem_ready.1 hr;have ho':ops[j]? =some o:=by simpa using ho
   rw [ho'] at HX
   have hjl:j<l.size:=by
    have:=(mem_ready.1 hr).1;rcases Nat.lt_or_ge j l.size with h' | h'
    ·exact h'
    ·simp [Array.getElem?_eq_none h'] at this
   have hjt:(l.setIfInBounds j true).getD j false=true:=by simp [hjl]
   have hcj:=hc.set hr
   have go: ∀ {Γ':Env} {a':Act} {w':World},Fits ds n Γ' a'->Same w0 w'->(∀ q ∈ keepF j F,q.2 w'.heap)->WPl τ σ cl n ops p Γ' w'.heap (keepF j F) K->
     SF F (l.setIfInBounds j true) w'/\wpAnyG P ops.toArray Q (SF F) fuel (l.setIfInBounds j true) a' w':=by
    intro Γ' a' w' hf' hs' hq' hW;refine ⟨qb hjt (Bp hq'), ?_⟩;have ih:=iX hA hσ hcl hsel hQ hK p hf' hs' hcj (fun q hq=>hDs q (iW hq)) hp.1.2 hq' hW;exact eJ _ _ _ _ (fun l' w hl' h=>qb (hl' j hjt) h) (ih.1 hp.1.1)
   unfold wpOp;simp only [ho];rcases vg hf HX with ⟨hw,Γ',hf',HX⟩ | ⟨hw,Γ',hf',HX⟩
   ·rw [if_pos hw]
    refine .inl (tQ hA hσ hcl hf' (fun Γ'' a' w' hf'' hs' hk=> ?_) HX);obtain ⟨h1,h2⟩:=tR hk;exact go hf'' (hs.trans hs') h1 h2
   ·rw [if_neg (by rw [hw]; simp)]
    cases hd:dstOk n o.dst with
    | false=>rw [hd] at HX; exact HX.elim
    | true=> rw [hd] at HX;exact go (hf'.put hd _) hs (fun q hq=>hS q (iW hq)) HX
  ·have hjr:j ∈ altIds r:=by
    simp only [altIds,List.mem_cons] at hj;exact hj.resolve_left hji
   exact (iX hA hσ hcl hsel hQ hK r hf hs hc hDs hp.2 hS (Hr hjr)).2 j hjr hr
 | .take i D p,Γ,F,a,w,fuel,l,Ds,hf,hs,hc,hDs,hp,hS,H=>by
  refine ⟨fun _=> ?_,fun i hi=>by simp [altIds] at hi⟩
  cases fuel with
  | zero=>simp [planOk] at hp
  | succ f=>
   simp only [planOk,Bool.and_eq_true,Bool.not_eq_true'] at hp;obtain ⟨⟨⟨⟨⟨⟨p1,p2⟩,p3⟩,p4⟩,p5⟩,p6⟩,p7⟩:=hp;have hiDs:i ∉ Ds:=fun h=>by rw [<- cG,p3] at h; cases h
   have hiD:i ∉ D:=fun h=>by rw [<- cG,p4] at h; cases h
   have hready:i ∈ Region.ready .any ops.toArray l:=by simpa using p2
   unfold WPl at H;split at H
   ·exact H.elim
   rename_i o ho;have ho':ops.toArray[i]? =some o:=by simpa using ho
   have hcs:=hc.set hready
   have hDd: ∀ d ∈ D,∃ n,descB ops.toArray n i d=true:=fun d hd=>⟨_,by rw [List.all_eq_true] at p5; exact p5 d hd⟩
   have hSi: ∀ l w,SF F (l.setIfInBounds i true) w↔SF F l w:=fun l w=>by
    have e: ∀ q ∈ F,∀ d ∈ q.1,(l.setIfInBounds i true).getD d false=l.getD d false:=fun q hq d hd=>
     getD_set_ne false (fun e=>hiDs (e ▸ hDs q hq d hd))
    constructor
    ·intro h q hq hd; exact h q hq fun d hdq=>by rw [e q hq d hdq]; exact hd d hdq
    ·intro h q hq hd; exact h q hq fun d hdq=>by rw [<- e q hq d hdq]; exact hd d hdq
   have hQ': ∀ (v:Value) (c:List PanicEntry) (a:Act) (w:World),Q (.panic c) (a.put o.dst v) w->Q (.panic c) a w:=fun v c a w h=>absurd h (hQ _ _ _)
   have key: ∀ {fc:Hp->Prop} {v:Value} {Γ':Env} {F':Facts},YieldsIf P ops.toArray (fun w=>fc w.heap) o v a->fc w.heap->Fits ds n Γ' (a.put o.dst v)->
     (F'=(D,fc)::F\/(F'=F/\ ∀ h,fc h))->WPl τ σ cl n ops p Γ' w.heap F' K->wpAnyG P ops.toArray Q (SF F) (f+1) l a w:=by
    intro fc v Γ' F' hy hfc hf' hF' hW;refine ng (f:=fun w=>fc w.heap) ho' (Region.noSelect_spec hsel) (hQ' v) hiD hDd hSi f l a w hc (Region.free_spec ho' p1) hready hy hfc (Bp hS) ?_;rcases hF' with rfl | ⟨rfl,hall⟩
    ·have ih:=(iX hA hσ hcl hsel hQ hK p hf' hs hcs (fun q hq=>by
      rcases List.mem_cons.1 hq with rfl | hq
      ·exact fun d hd=>List.mem_append_left _ hd
      ·exact fun d hd=>List.mem_append_right _ (hDs q hq d hd)) p7 (fun q hq=>by
      rcases List.mem_cons.1 hq with rfl | hq
      ·exact hfc
      ·exact hS q hq) hW).1 p6
     exact eJ _ _ _ _ (fun l' w' _ h=>⟨fun q hq=>h q (List.mem_cons_of_mem _ hq),fun hd=>h _ List.mem_cons_self hd⟩) ih
    ·have ih:=(iX hA hσ hcl hsel hQ hK p hf' hs hcs (fun q hq d hd=>List.mem_append_right _ (hDs q hq d hd)) p7 hS hW).1 p6
     exact eJ _ _ _ _ (fun l' w' _ h=>⟨h,fun _=>hall _⟩) ih
   rcases vg hf H with ⟨hw,Γ',hf',H⟩ | ⟨hw,Γ',hf',H⟩
   ·cases hok:opsOk n Γ' o with
    | false=>rw [hok] at H; exact H.elim
    | true=>
     rw [hok] at H; simp only [cond_true,cnd] at H;simp only [opsOk,Bool.and_eq_true] at hok;have hsel': ∀ cs b,o.op ≠ .select cs b:=fun cs b=>Region.noSelect_spec hsel i o cs b ho'
     cases hlk:looks o.op with
     | true=>
      rw [hlk] at H; simp only [cond_true,cnd] at H;obtain ⟨fc,v,h1,h2,h3⟩:=jF (P:=P) hA H
      exact key (fc:=fc) (.inl ⟨hw,fun w' hw'=>by rw [hf'.exec hsel' hok.2]; exact h3 w' hw'⟩) h2 (hf'.put hok.1 _) (.inl rfl) h1
     | false=>
      rw [hlk] at H; simp only [cond_false,cnd] at H
      have H2:opR τ o.op Γ' w.heap fun f v=>f=(fun _=>True)/\WPl τ σ cl n ops p (put o.dst v Γ') w.heap F K:=by rw [CC hlk];simpa using H
      obtain ⟨fc,v,⟨rfl,h1⟩,h2,h3⟩:=jF (P:=P) hA H2;exact key (fc:=fun _=>True) (.inl ⟨hw,fun w' hw'=>by rw [hf'.exec hsel' hok.2]; exact h3 w' hw'⟩) trivial (hf'.put hok.1 _) (.inr ⟨rfl,fun _=>trivial⟩) h1
   ·cases hd:dstOk n o.dst with
    | false=>rw [hd] at H; exact H.elim
    | true=> rw [hd] at H; simp only [cond_true,cnd] at H;exact key (fc:=fun _=>True) (.inr ⟨hw,rfl⟩) trivial (hf'.put hd _) (.inr ⟨rfl,fun _=>trivial⟩) H
end Go.Wc
namespace Go.Wc
variable {ds:List Deferred} {P:Program} {τ:Tys} {σ cl:Specs}
inductive Ann where
 | leaf
 | plan (p:Plan)
 | seq (a b:Ann)
 | join (k:Nat) (live:List Nat) (a b:Ann)
 | cond (a b:Ann)
 | block (a:Ann)
 | loop (k:Nat) (live:List Nat) (b:Ann)
abbrev LoopS:=List Value->Hp->Prop
abbrev Src:=Nat->List LoopS->List Value->Hp->Prop
abbrev Kont:=Exit->Env->Hp->Prop
def Lfp (Φ:LoopS->LoopS):LoopS:=fun v h=> ∀ R:LoopS,(∀ v h,(∃ S:LoopS,(∀ v h,S v h->R v h)/\Φ S v h)->R v h)->R v h
def lives (live:List Nat) (Γ:Env):List Value:=live.map fun s=>(Env.find Γ s).getD undef
abbrev jump (live:List Nat) (Γ:Env) (h:Hp) (R:LoopS):Prop:=cnd (live.all (fun s=>(Env.find Γ s).isSome)) (R (lives live Γ) h) (False)
abbrev thenK (next:Env->Hp->Prop) (K:Kont):Kont:=fun e Γ h=>match e with
 | .normal=>next Γ h
 | e=>K e Γ h
abbrev blockK (id:Nat) (K:Kont):Kont:=fun e Γ h=>match e with
 | .exit id'=>cnd (Nat.beq id' id) (K .normal Γ h) (K (.exit id') Γ h)
 | e=>K e Γ h
abbrev W (τ:Tys) (σ cl:Specs) (n:Nat) (src:Src):Code->Ann->List LoopS->Env->Hp->Kont->Prop
 | .skip,_,_,Γ,h,K=>K .normal Γ h
 | .region _ ops draw,A,_,Γ,h,K=>match draw,A with
  | false,_=>WSeq τ σ cl n ops.toList ops.toList Γ h fun Γ' h'=>K .normal Γ' h'
  | true, .plan p=>cnd (Region.noSelect ops && shutP p && planOk ops p ops.size (Array.replicate ops.size false) []) (WPl τ σ cl n ops.toList p Γ h [] fun Γ' h'=>K .normal Γ' h') (False)
  | _,_=>False
 | .seq a b,A,Ss,Γ,h,K=>match A with
  | .seq A B=>W τ σ cl n src a A Ss Γ h (thenK (fun Γ' h'=>W τ σ cl n src b B Ss Γ' h' K) K)
  | .join k live A _=>W τ σ cl n src a A Ss Γ h (thenK (fun Γ' h'=>jump live Γ' h' (src k Ss)) K)
  | _=>False
 | .cond c x y,A,Ss,Γ,h,K=>match A with
  | .cond A B=>cnd (present Γ c) ((match ev Γ c with
    | .bool b=>brA b (W τ σ cl n src x A Ss Γ h K) (W τ σ cl n src y B Ss Γ h K)
    | _=>False)) (False)
  | _=>False
 | .block id c,A,Ss,Γ,h,K=>match A with
  | .block A=>W τ σ cl n src c A Ss Γ h (blockK id K)
  | _=>False
 | .loop _,A,Ss,Γ,h,_=>match A with
  | .loop k live _=>jump live Γ h (Lfp fun S=>src k (S::Ss))
  | _=>False
 | .exit id,_,_,Γ,h,K=>K (.exit id) Γ h
 | .ret,_,_,Γ,h,K=>K .ret Γ h
 | _,_,_,_,_,_=>False
def pts:Ann->List Nat
 | .seq a b=>pts a++pts b
 | .join k _ a b=>k::(pts a++pts b)
 | .cond a b=>pts a++pts b
 | .block a=>pts a
 | .loop k _ b=>k::pts b
 | _=>[]
abbrev ptW (τ:Tys) (σ cl:Specs) (n:Nat) (src:Src) (k:Nat) (vals:List Value) (h:Hp):Code->Ann->List LoopS->List LoopS->Kont->Prop
 | .seq a b,A,Ss,inner,K=>match A with
  | .seq A B=>cnd (memN k (pts A)) (ptW τ σ cl n src k vals h a A Ss inner (thenK (fun Γ' h'=>W τ σ cl n src b B Ss Γ' h' K) K)) (ptW τ σ cl n src k vals h b B Ss inner K)
  | .join k0 live A B=>cnd (Nat.beq k0 k) (W τ σ cl n src b B Ss (live.zip vals) h K) (cnd (memN k (pts A)) (ptW τ σ cl n src k vals h a A Ss inner (thenK (fun Γ' h'=>jump live Γ' h' (src k0 Ss)) K)) (ptW τ σ cl n src k vals h b B Ss inner K))
  | _=>False
 | .cond _ x y,A,Ss,inner,K=>match A with
  | .cond A B=>cnd (memN k (pts A)) (ptW τ σ cl n src k vals h x A Ss inner K) (ptW τ σ cl n src k vals h y B Ss inner K)
  | _=>False
 | .block id c,A,Ss,inner,K=>match A with
  | .block A=>ptW τ σ cl n src k vals h c A Ss inner (blockK id K)
  | _=>False
 | .loop body,A,Ss,inner,K=>match A,inner with
  | .loop k0 live B,S::inner=>cnd (Nat.beq k0 k) (W τ σ cl n src body B (S::Ss) (live.zip vals) h (thenK (fun Γ' h'=>jump live Γ' h' S) K)) (ptW τ σ cl n src k vals h body B (S::Ss) inner (thenK (fun Γ' h'=>jump live Γ' h' S) K))
  | _,_=>False
 | _,_,_,_,_=>False
def depth (k:Nat):Ann->Nat
 | .seq a b=>bif memN k (pts a) then depth k a else depth k b
 | .join k0 _ a b=>bif Nat.beq k0 k then 0 else bif memN k (pts a) then depth k a else depth k b
 | .cond a b=>bif memN k (pts a) then depth k a else depth k b
 | .block a=>depth k a
 | .loop k0 _ b=>bif Nat.beq k0 k then 1 else depth k b+1
 | _=>0
def once:List Nat->Bool
 | []=>true
 | k::r=> !memN k r && once r
def Obl (τ:Tys) (σ cl:Specs) (n:Nat) (src:Src) (c:Code) (A:Ann) (Ss:List LoopS) (K:Kont):Prop:=
 ∀ k ∈ pts A,∀ inner:List LoopS,inner.length=depth k A-> ∀ vals h,src k (inner.reverse++Ss) vals h->ptW τ σ cl n src k vals h c A Ss inner K
def dp (ds:List Deferred) (w0:World) (n:Nat) (K:Kont):Exit->Act->World->Prop:=fun e a w=>match e with
 | .panic _=>False
 | .outgrown=>False
 | .goto _=>False
 | e=> ∃ Γ,Fits ds n Γ a/\Same w0 w/\K e Γ w.heap
def Sd (P:Program) (ds:List Deferred) (w0:World) (n:Nat) (c:Code) (Γ:Env) (h:Hp) (K:Kont):Prop:=
 ∀ a w,Fits ds n Γ a->w.heap=h->Same w0 w->c.wp P (dp ds w0 n K) a w
theorem qF {n:Nat} {live:List Nat} {Γ:Env} {a:Act} (hf:Fits ds n Γ a) (hl:live.all (fun s=>(Env.find Γ s).isSome)=true):Fits ds n (live.zip (lives live Γ)) a:=by
 refine ⟨hf.1,hf.2.1, ?_⟩
 induction live with
 | nil=>intro t v h; simp [lives,Env.find] at h
 | cons s l ih=>
  simp only [List.all_cons,Bool.and_eq_true] at hl;obtain ⟨u,hu⟩:=Option.isSome_iff_exists.1 hl.1;intro t v h;simp only [lives,List.map_cons,List.zip_cons_cons,Env.find,hu,Option.getD_some] at h
  cases hb:Nat.beq s t with
  | true=>
   rw [hb] at h; simp at h; subst h;have:s=t:=by simpa using hb
   subst this; exact hf.2.2 _ _ hu
  | false=>rw [hb] at h; exact ih hl.2 t v h
theorem gx {a b:List Nat} (h:once (a++b)=true):once a=true/\once b=true/\ ∀ k,k ∈ a->k ∉ b:=by
 induction a with
 | nil=>exact ⟨rfl,h,fun k hk=>by cases hk⟩
 | cons x a ih=>
  simp only [List.cons_append,once,Bool.and_eq_true,Bool.not_eq_true'] at h;obtain ⟨h1,h2⟩:=h;obtain ⟨i1,i2,i3⟩:=ih h2;have hx:x ∉ a++b:=fun hm=>by rw [<- cG,h1] at hm; cases hm
  refine ⟨?_,i2,fun k hk=> ?_⟩
  ·simp only [once,Bool.and_eq_true,Bool.not_eq_true']
   refine ⟨?_,i1⟩
   cases hm:memN x a with
   | false=>rfl
   | true=>exact absurd (List.mem_append_left b (cG.1 hm)) hx
  ·rcases List.mem_cons.1 hk with rfl | hk
   ·exact fun hb=>hx (List.mem_append_right _ hb)
   ·exact i3 k hk
theorem mB {k:Nat} {l:List Nat} (h:k ∉ l):memN k l=false:=by
 cases hm:memN k l with
 | false=>rfl
 | true=>exact absurd (cG.1 hm) h
theorem ot {live:List Nat} {Γ:Env} {h:Hp} {R:LoopS} (H:jump live Γ h R):live.all (fun s=>(Env.find Γ s).isSome)=true/\R (lives live Γ) h:=by
 unfold jump at H
 cases hl:live.all (fun s=>(Env.find Γ s).isSome) with
 | false=>rw [hl] at H; exact H.elim
 | true=>rw [hl] at H; exact ⟨rfl,H⟩
theorem Bq {P:Program} {w0:World} {n:Nat} {a b:Code} {Γ:Env} {h:Hp} {K:Kont} {next:Env->Hp->Prop} (ha:Sd P ds w0 n a Γ h (thenK next K))
  (hb: ∀ Γ' a' w',Fits ds n Γ' a'->Same w0 w'->next Γ' w'.heap->b.wp P (dp ds w0 n K) a' w'):Sd P ds w0 n (.seq a b) Γ h K:=by
 intro f w hf hw hs;refine wp_seq (wp_mono (ha f w hf hw hs) fun e a' w' he=> ?_)
 cases e with
 | normal=>obtain ⟨Γ',h1,h2,h3⟩:=he; exact hb Γ' a' w' h1 h2 h3
 | _=>exact he
def AtHead (P:Program) (body:Code) (Q:Exit->Act->World->Prop) (a:Act) (w:World):Prop:=
 ∀ (b:Frame) (k:List Item) (cs:List Frame),∃ e a' w',Q e a' w'/\Arrives P (lone (b.at a (.code body:: .inLoop body::k)) cs w) b k cs e a' w'
theorem mC {P:Program} {body:Code} {Q:Exit->Act->World->Prop} {a:Act} {w:World} (h:AtHead P body Q a w):(Code.loop body).wp P Q a w:=
 fun b k cs=>let ⟨e,a',w',q,r⟩:=h b k cs; ⟨e,a',w',q, .of_steps (.one step_loop) r⟩
theorem mD {P:Program} {body:Code} {Q:Exit->Act->World->Prop} {a:Act} {w:World} (h:body.wp P (Exit.then (AtHead P body Q) Q) a w):AtHead P body Q a w:=by
 intro b k cs;obtain ⟨e,a₁,w₁,hq,harr⟩:=h b (.inLoop body::k) cs
 cases e with
 | normal=>
  obtain ⟨e₂,a₂,w₂,hq₂,harr₂⟩:=hq b k cs
  exact ⟨e₂,a₂,w₂,hq₂, .of_steps (Steps.trans harr (.one step_inLoop)) harr₂⟩
 | exit id=>exact ⟨_,a₁,w₁,hq, .pass (x:= .inLoop body) rfl (fun _ _=> .inl (by simp)) harr⟩
 | goto l=>exact ⟨_,a₁,w₁,hq, .pass (x:= .inLoop body) rfl (fun _ _=> .inl (by simp)) harr⟩
 | ret=>exact ⟨_,a₁,w₁,hq, .pass (x:= .inLoop body) rfl (fun _ _=> .inl (by simp)) harr⟩
 | panic ch=>exact ⟨_,a₁,w₁,hq, .pass (x:= .inLoop body) rfl (fun _ _=> .inl (by simp)) harr⟩
 | outgrown=>exact ⟨_,a₁,w₁,hq, .pass (x:= .inLoop body) rfl (fun _ _=> .inl (by simp)) harr⟩
theorem vh {src:Src} {w0:World} {n:Nat} (hA:Agree P τ) (hσ:SpecsOk P σ) (hcl:SpecsOk P cl) (hm:P.follows .mixedOrders=true):
    ∀ (c:Code) (A:Ann) (Ss:List LoopS) (K:Kont),once (pts A)=true->Obl τ σ cl n src c A Ss K-> ∀ Γ h,W τ σ cl n src c A Ss Γ h K->Sd P ds w0 n c Γ h K:=by
  intro c
  induction c with
  | skip=>intro A Ss K _ _ Γ h H f w hf hw hs; subst hw; exact wp_skip ⟨Γ,hf,hs,H⟩
  | exit id=>intro A Ss K _ _ Γ h H f w hf hw hs; subst hw; exact wp_exit ⟨Γ,hf,hs,H⟩
  | ret=>intro A Ss K _ _ Γ h H f w hf hw hs; subst hw; exact wp_ret ⟨Γ,hf,hs,H⟩
  | region id ops draw=>
    intro A Ss K _ _ Γ h H f w hf hw hs;subst hw
    cases draw with
    | false=>
      refine wp_region_list ?_;have:=mA (P:=P) (Q:=dp ds w0 n K) hA hσ hcl hf (fun Γ' a' w' h1 h2 h3=>⟨Γ',h1,hs.trans h2,h3⟩) (by simpa only [W] using H)
      simpa using this
    | true=>
      cases A with
      | plan p=>
        simp only [W] at H
        cases hok:(Region.noSelect ops && shutP p && planOk ops p ops.size (Array.replicate ops.size false) []) with
        | false=>rw [hok] at H; exact H.elim
        | true=>
          rw [hok] at H; simp only [cond_true,cnd] at H;simp only [Bool.and_eq_true] at hok;refine wp_region_any hm (jY (S:=SF []) _ _ _ _ ?_)
          have D0:Cl ops (Array.replicate ops.size false):=fun x ox _ hl=>by
            exfalso;rcases Nat.lt_or_ge x ops.size with hx | hx
            . simp [hx] at hl
            . simp [Nat.not_lt.2 hx] at hl
          have:=(iX (P:=P) (Q:=dp ds w0 n K) (ops:=ops.toList) hA hσ hcl (by simpa using hok.1.1) (fun c a w h=>h) (w0:=w0)
            (fun Γ' a' w' h1 h2 h3=>⟨Γ',h1,h2,h3⟩) p (F:=[]) (a:=f) (w:= {w with drawn:=w.drawn+1}) (fuel:=ops.size) (l:=Array.replicate ops.size false) (Ds:=[])
            hf (hs.trans ⟨rfl,rfl,rfl⟩) (by simpa using D0) (fun q hq=>by cases hq) (by simpa using hok.2) (fun q hq=>by cases hq) H).1 hok.1.2
          simpa using this
      | _=>simp only [W] at H
  | seq a b iha ihb=>
    intro A Ss K ho hO Γ h H
    cases A with
    | seq A B=>
      simp only [W] at H;obtain ⟨o1,o2,o3⟩:=gx ho;refine Bq (iha A Ss _ o1 ?_ Γ h H) fun Γ' a' w' h1 h2 h3=>ihb B Ss K o2 ?_ Γ' _ h3 a' w' h1 rfl h2
      . intro k hk inner hin vals h hsrc;have:=hO k (List.mem_append_left _ hk) inner (by simp only [depth,cG.2 hk,cond_true,cnd]; exact hin) vals h hsrc;simpa only [ptW,cG.2 hk,cond_true,cnd] using this
      . intro k hk inner hin vals h hsrc;have hnk:memN k (pts A)=false:=mB fun hka=>o3 k hka hk;have:=hO k (List.mem_append_right _ hk) inner (by simp only [depth,hnk,cond_false,cnd]; exact hin) vals h hsrc
        simpa only [ptW,hnk,cond_false,cnd] using this
    | join k0 live A B=>
      simp only [W] at H;simp only [pts,once,Bool.and_eq_true,Bool.not_eq_true'] at ho;obtain ⟨IA,ho⟩:=ho;obtain ⟨o1,o2,o3⟩:=gx ho
      have PN: ∀ k,k ∈ pts A++pts B->Nat.beq k0 k=false:=fun k hk=>by
        cases hb:Nat.beq k0 k with
        | false=>rfl
        | true => have e : k0 = k := by simpa using hb
                  subst e; rw [cG.2 hk] at IA; cases IA
      have hOb:Obl τ σ cl n src b B Ss K:=by intro k hk inner hin vals h hsrc;have hnk:memN k (pts A)=false:=mB fun hka=>o3 k hka hk;have hb:=PN k (List.mem_append_right _ hk);have:=hO k (List.mem_cons_of_mem _ (List.mem_append_right _ hk)) inner (by simp only [depth,hb,hnk,cond_false,cnd]; exact hin) vals h hsrc;simpa only [ptW,hb,hnk,cond_false,cnd] using this
      refine Bq (iha A Ss _ o1 ?_ Γ h H) fun Γ' a' w' h1 h2 h3=> ?_
      . intro k hk inner hin vals h hsrc;have hb:=PN k (List.mem_append_left _ hk);have:=hO k (List.mem_cons_of_mem _ (List.mem_append_left _ hk)) inner (by simp only [depth,hb,cG.2 hk,cond_true,cond_false,cnd]; exact hin) vals h hsrc;simpa only [ptW,hb,cG.2 hk,cond_true,cond_false,cnd] using this
      . obtain ⟨j1,j2⟩:=ot h3;have hbb:Nat.beq k0 k0=true:=by simp
        have:=hO k0 List.mem_cons_self [] (by simp only [depth,hbb,cond_true,cnd]; rfl) _ _ j2;simp only [ptW,hbb,cond_true,cnd] at this
        exact ihb B Ss K o2 hOb _ _ this a' w' (qF h1 j1) rfl h2
    | _=>simp only [W] at H
  | cond c x y ihx ihy=>
    intro A Ss K ho hO Γ h H f w hf hw hs
    cases A with
    | cond A B=>
      simp only [W] at H;obtain ⟨o1,o2,o3⟩:=gx ho
      cases hp:present Γ c with
      | false=>rw [hp] at H; exact H.elim
      | true=>
        rw [hp] at H; simp only [cond_true,cnd] at H;split at H
        case h_2=>exact H.elim
        rename_i b hb;have he:f.eval c= .bool b:=by rw [hf.eval hp,hb]
        have hOx:Obl τ σ cl n src x A Ss K:=fun k hk inner hin vals h hsrc=>by have:=hO k (List.mem_append_left _ hk) inner (by simp only [depth,cG.2 hk,cond_true,cnd]; exact hin) vals h hsrc;simpa only [ptW,cG.2 hk,cond_true,cnd] using this
        have hOy:Obl τ σ cl n src y B Ss K:=fun k hk inner hin vals h hsrc=>by have hnk:memN k (pts A)=false:=mB fun hka=>o3 k hka hk;have:=hO k (List.mem_append_right _ hk) inner (by simp only [depth,hnk,cond_false,cnd]; exact hin) vals h hsrc;simpa only [ptW,hnk,cond_false,cnd] using this
        cases b with
        | true=>exact wp_cond_true he (ihx A Ss K o1 hOx Γ h H f w hf hw hs)
        | false=>exact wp_cond_false he (ihy B Ss K o2 hOy Γ h H f w hf hw hs)
    | _=>simp only [W] at H
  | block id c ih=>
    intro A Ss K ho hO Γ h H f w hf hw hs
    cases A with
    | block A=>
      simp only [W] at H
      refine wp_block (wp_mono (ih A Ss _ ho (fun k hk inner hin vals h hsrc=>by
        have:=hO k hk inner (by simp only [depth]; exact hin) vals h hsrc
        simpa only [ptW] using this) Γ h H f w hf hw hs) fun e a' w' he=> ?_)
      cases e with
      | exit id'=>
        obtain ⟨Γ',h1,h2,h3⟩:=he;simp only [blockK] at h3;simp only [Exit.inBlock]
        by_cases hid:id'=id
        . subst hid;rw [if_pos rfl];simp at h3;exact ⟨Γ',h1,h2,h3⟩
        . rw [if_neg hid]
          have:Nat.beq id' id=false:=by cases hb:Nat.beq id' id with
            | false=>rfl
            | true=>exact absurd (by simpa using hb) hid
          rw [this] at h3
          exact ⟨Γ',h1,h2,h3⟩
      | _=>exact he
    | _=>simp only [W] at H
  | loop body ih=>
    intro A Ss K ho hO Γ h H f w hf hw hs
    cases A with
    | loop k0 live B=>
      simp only [W] at H;simp only [pts,once,Bool.and_eq_true,Bool.not_eq_true'] at ho;obtain ⟨IA,ho⟩:=ho;obtain ⟨j1,j2⟩:=ot H;have hbb:Nat.beq k0 k0=true:=by simp
      have := j2 (fun vals h => ∀ a w, Fits ds n (live.zip vals) a -> w.heap = h -> Same w0 w -> AtHead P body (dp ds w0 n K) a w) (by
        rintro vals h ⟨S,hS,hsrc⟩ a w hf hw hs;have h1:=hO k0 List.mem_cons_self [S] (by simp only [depth,hbb,cond_true,cnd]; rfl) vals h (by simpa using hsrc);simp only [ptW,hbb,cond_true,cnd] at h1
        have hOb:Obl τ σ cl n src body B (S::Ss) (thenK (fun Γ' h'=>jump live Γ' h' S) K):=by
          intro k hk inner hin vals h hsrc
          have hb:Nat.beq k0 k=false:=by
            cases hb:Nat.beq k0 k with
            | false=>rfl
            | true => have e : k0 = k := by simpa using hb
                      subst e; rw [cG.2 hk] at IA; cases IA
          have:=hO k (List.mem_cons_of_mem _ hk) (S::inner) (by simp only [depth,hb,cond_false,cnd,List.length_cons,hin]) vals h (by simpa using hsrc);simpa only [ptW,hb,cond_false,cnd] using this
        refine mD (wp_mono (ih B (S::Ss) _ ho hOb _ _ h1 a w hf hw hs) fun e a' w' he=> ?_)
        cases e with
        | normal=>
          obtain ⟨Γ',g1,g2,g3⟩:=he;obtain ⟨j1,j2⟩:=ot g3
          exact hS _ _ j2 a' w' (qF g1 j1) rfl g2
        | _=>exact he)
      exact mC (this f w (qF hf j1) hw hs)
    | _=>simp only [W] at H
  | _=>intro A Ss K _ _ Γ h H; simp only [W] at H
def argEnv:Nat->List Value->Env
 | _,[]=>[]
 | i,v::r=>(i,v)::argEnv (i+1) r
theorem iB: ∀ (l:List Value) (i t:Nat) (v:Value),Env.find (argEnv i l) t=some v->i<=t/\l[t - i]? =some v
 | [],_,_,_,h=>by simp [argEnv,Env.find] at h
 | x::l,i,t,v,h=>by
  simp only [argEnv,Env.find] at h
  cases hb:Nat.beq i t with
  | true=>
   rw [hb] at h; simp at h; subst h;have:i=t:=by simpa using hb
   subst this; simp
  | false=> rw [hb] at h;obtain ⟨h1,h2⟩:=iB l (i+1) t v h;refine ⟨by omega, ?_⟩;rw [show t - i=(t - (i+1))+1 from by omega];simpa using h2
abbrev resW (τ:Tys) (Γ:Env) (h:Hp):List ResultVar->(List Value->Prop)->Prop
 | [],K=>K []
 | .tmp t::r,K=>match Env.find Γ t with
  | some v=>resW τ Γ h r fun vs=>K (v::vs)
  | none=>False
 | .cell a t::r,K=>match Env.find Γ a with
  | some (.pointer (some p))=>match τ.get t with
   | some ti=>cnd (isAgg ti.kd) ((cnd (Nat.beq (ckns ti.gC) ti.size) (ldCs ti.gC h p 0 fun _ us=>resW τ Γ h r fun vs=>K (.agg us.toArray::vs)) (False))) (match ti.gC with
     | [c]=>ldC c h p fun _ u=>resW τ Γ h r fun vs=>K (u::vs)
     | _=>False)
   | none=>False
  | _=>False
abbrev oneOf (K:Value->Prop):List Value->Prop
 | [v]=>K v
 | vs=>K (.tuple vs.toArray)
abbrev retK (τ:Tys) (rs:Array ResultVar) (K:Value->Hp->Prop):Kont:=fun e Γ h=>match e with
 | .ret=>resW τ Γ h rs.toList (oneOf fun v=>K v h)
 | .normal=>resW τ Γ h rs.toList (oneOf fun v=>K v h)
 | _=>False
theorem lK {n:Nat} {Γ:Env} {a:Act} {w:World} (hA:Agree P τ) (hf:Fits ds n Γ a) (g:ResultVar->Sem Value) (KM: ∀ t,g (.tmp t)=pure (a.tmps.getD t undef))
  (wO: ∀ b t,g (.cell b t)=do loadVar t (<- asAddr (a.tmps.getD b undef))): ∀ (rs:List ResultVar) (K:List Value->Prop),resW τ Γ w.heap rs K->
  ∃ vs,K vs/\(rs.mapM g:Sem (List Value)).run P w= .ok vs w
 | [],K,H=>⟨[],H,rfl⟩
 | .tmp t::r,K,H=>by
  simp only [resW] at H;split at H
  case h_2=>exact H.elim
  rename_i v hv;obtain ⟨vs,h1,h2⟩:=lK hA hf g KM wO r _ H;refine ⟨_,h1, ?_⟩;have:a.tmps.getD t undef=v:=by simp [hf.2.2 t v hv]
  simp only [List.mapM_cons,KM,Sem.run_bind,Sem.run_pure,Result.andThen_ok,h2,this]
 | .cell b t::r,K,H=>by
  simp only [resW] at H;split at H
  case h_2=>exact H.elim
  rename_i p hp;split at H
  case h_2=>exact H.elim
  rename_i ti ht;have hb:(asAddr (a.tmps.getD b undef)).run P w= .ok p w:=by simp [hf.2.2 b _ hp,asAddr]
  have hAt:=hA t ti ht
  cases hg:isAgg ti.kd with
  | true=>
   rw [hg] at H; simp only [cond_true,cnd] at H
   cases hn:Nat.beq (ckns ti.gC) ti.size with
   | false=>rw [hn] at H; exact H.elim
   | true=>
    rw [hn] at H; simp only [cond_true,cnd] at H;obtain ⟨f,us,h1,h2,h3,h4⟩:=jE H;obtain ⟨vs,g1,g2⟩:=lK hA hf g KM wO r _ h1;refine ⟨_,g1, ?_⟩;simp only [List.mapM_cons,wO,Sem.run_bind,hb,Sem.run_pure,Result.andThen_ok];rw [og hAt hg (by rw [h3]; simpa using hn) (fun j hj=>by simpa using h4 _ h2 j hj)]
    simp only [Result.andThen_ok,g2]
  | false=>
   rw [hg] at H; simp only [cond_false,cnd] at H;split at H
   case h_2=>exact H.elim
   obtain ⟨u,h1,h2⟩:=m5 H;obtain ⟨vs,g1,g2⟩:=lK hA hf g KM wO r _ h2;refine ⟨_,g1, ?_⟩;simp only [List.mapM_cons,wO,Sem.run_bind,hb,Sem.run_pure,Result.andThen_ok];rw [mw hAt hg h1];simp only [Result.andThen_ok,g2]
theorem CD {vs:List Value} {K:Value->Prop} (H:oneOf K vs):K (if h:vs.toArray.size=1 then vs.toArray[0] else .tuple vs.toArray):=by
 match vs with
 | []=>exact H
 | [v]=>exact H
 | v::u::r=>exact H
theorem iC {n:Nat} {fn:Func} {Γ:Env} {a:Act} {w:World} {K:Value->Prop} (hA:Agree P τ) (hf:Fits ds n Γ a)
  (H:resW τ Γ w.heap fn.results.toList (oneOf K)): ∃ v,(results fn a.tmps).run P w= .ok v w/\K v:=by
 obtain ⟨vs,h1,h2⟩:=lK (P:=P) hA hf (fun
   | .tmp t=>pure (a.tmps.getD t undef)
   | .cell b t=>do loadVar t (<- asAddr (a.tmps.getD b undef))) (fun _=>rfl) (fun _ _=>rfl) _ _ H
 refine ⟨_, ?_,CD h1⟩;simp only [results,Sem.run_bind,Array.mapM_eq_mapM_toList,Sem.run_map];have h3:=congrArg (fun r=>Result.andThen r fun a w'=>Result.ok (a.toArray:Array Value) w') h2;simp only [Result.andThen_ok] at h3;have h4:=congrArg (fun r=>Result.andThen r fun (a:Array Value) w'=>Sem.run P (pure (if h:a.size=1 then a[0] else Value.tuple a)) w') h3;exact h4
theorem qc {f:Nat} {fn:Func} {c:Code} {S:Spec} (hA:Agree P τ) (hσ:SpecsOk P σ) (hcl:SpecsOk P cl) (hm:P.follows .mixedOrders=true)
  (hf:P.funcs[f]? =some fn) (hb:fn.body=some c) (hn:(fn.name== "runtime.NumGoroutine")=false) (A:Ann) (ho:once (pts A)=true) (src:(Value->Hp->Prop)->Src)
  (entry: ∀ args h K,S args h K->args.length<=fn.ntmps/\W τ σ cl fn.ntmps (src K) c A [] (argEnv 0 args) h (retK τ fn.results K))
  (obl: ∀ K k inner vals h,k ∈ pts A->inner.length=depth k A->src K k inner.reverse vals h->ptW τ σ cl fn.ntmps (src K) k vals h c A [] inner (retK τ fn.results K)):
  SpecOk P f S:=by
 refine ⟨⟨fn,hf,hn,by rw [hb]; rfl⟩,fun args K w HS=> ?_⟩;obtain ⟨hlen,hW⟩:=entry args _ _ HS;refine calls_of_wp hf hb ?_;have hO:Obl τ σ cl fn.ntmps (src K) c A [] (retK τ fn.results K):=fun k hk inner hin vals h hs=>obl K k inner vals h hk hin (by simpa using hs)
 have hfit:Fits [] fn.ntmps (argEnv 0 args) {tmps:=args.toArray++Array.replicate (fn.ntmps - args.toArray.size) undef,defers:=[]}:=by
  refine ⟨by simp; omega,rfl,fun t v hv=> ?_⟩;obtain ⟨_,h2⟩:=iB _ _ _ _ hv;simp only [Nat.sub_zero] at h2
  have hlt:t<args.length:=by rw [List.getElem?_eq_some_iff] at h2; exact h2.1
  simp only [];rw [Array.getElem?_append_left (by simpa using hlt)];simpa using h2
 refine wp_mono (vh (w0:=w) hA hσ hcl hm c A [] _ ho hO _ _ hW _ w hfit rfl (Same.refl w)) fun e a w' he=> ?_
 cases e with
 | normal=>
  obtain ⟨Γ,h1,h2,h3⟩:=he;obtain ⟨v,g1,g2⟩:=iC hA h1 h3
  exact ⟨h1.2.1,v,g1,v,rfl,h2,g2⟩
 | ret=>
  obtain ⟨Γ,h1,h2,h3⟩:=he;obtain ⟨v,g1,g2⟩:=iC hA h1 h3
  exact ⟨h1.2.1,v,g1,v,rfl,h2,g2⟩
 | exit id=>obtain ⟨Γ,h1,h2,h3⟩:=he; exact h3.elim
 | _=>exact he.elim
end Go.Wc
namespace Go.Wc
structure Ids where
 T:Nat->Nat
 G:Nat->Nat
def ids (t g:List (Nat × Nat)):Ids where
 T n:=((t.find? fun p=>Nat.beq p.1 n).map (·.2)).getD 0
 G n:=((g.find? fun p=>Nat.beq p.1 n).map (·.2)).getD 0
def sameKind:IntKind->IntKind->Bool
 | .i8, .i8 | .i16, .i16 | .i32, .i32 | .i64, .i64 | .u8, .u8 | .u16, .u16 | .u32, .u32 | .u64, .u64=>true
 | _,_=>false
theorem bH {a b:IntKind} (h:sameKind a b=true):a=b:=by cases a <;> cases b <;> first | rfl | cases h
abbrev LP:=List Value->Prop
abbrev tI (k:IntKind) (f:Int->LP):LP
 | .int k' n::r=>cnd (sameKind k' k) (f n r) (False)
 | _=>False
abbrev tB (f:Bool->LP):LP
 | .bool b::r=>f b r
 | _=>False
abbrev tT (f:ByteArray->LP):LP
 | .string b::r=>f b r
 | _=>False
abbrev tP (f:Option Addr->LP):LP
 | .pointer p::r=>f p r
 | _=>False
abbrev tA (f:Addr->LP):LP
 | .pointer (some p)::r=>f p r
 | _=>False
abbrev tS (f:Sl->LP):LP
 | .slice a n c::r=>f ⟨a,n,c⟩ r
 | _=>False
abbrev tM (f:Option Nat->LP):LP
 | .map m::r=>f m r
 | _=>False
abbrev tV (f:Value->LP):LP
 | v::r=>f v r
 | _=>False
abbrev tG (f:List Value->LP):LP
 | .agg cs::r=>f cs.toList r
 | _=>False
abbrev tN (X:Prop):LP
 | []=>X
 | _=>False
abbrev takeI (k:IntKind):Nat->List Value->(List Int->LP)->Prop
 | 0,r,f=>f [] r
 | n+1,vs,f=>match vs with
  | .int k' x::r=>cnd (sameKind k' k) (takeI k n r fun l=>f (x::l)) (False)
  | _=>False
abbrev tL (k:IntKind) (n:Nat) (f:List Int->LP):LP:=fun vs=>takeI k n vs f
theorem qG {k:IntKind}: ∀ {n:Nat} {vs:List Value} {f:List Int->LP},takeI k n vs f-> ∃ (l:List Int) (rest:List Value),l.length=n/\vs=l.map (Value.int k)++rest/\f l rest
 | 0,vs,f,h=>⟨[],vs,rfl,rfl,h⟩
 | n+1,vs,f,h=>by
  simp only [takeI] at h;split at h
  ·rename_i k' x r
   cases hk:sameKind k' k with
   | false=>rw [hk] at h; exact h.elim
   | true=> rw [hk] at h;obtain ⟨l,rest,h1,h2,h3⟩:=qG h;exact ⟨x::l,rest,by simp [h1],by rw [h2,bH hk]; rfl,h3⟩
  ·exact h.elim
theorem lM {k:IntKind} {n:Nat} {f:List Int->LP} {vs:List Value} (h:tL k n f vs): ∃ (l:List Int) (rest:List Value),vs=lumpV k n l++rest/\f (nrm n l) rest:=by obtain ⟨l,rest,h1,h2,h3⟩:=qG h;exact ⟨l,rest,by rw [h2,lumpV,kH h1],by rw [kH h1]; exact h3⟩
theorem dJ {k:IntKind} {f:Int->LP} {l:List Value} (h:tI k f l): ∃ n r,l= .int k n::r/\f n r:=by
 unfold tI at h;split at h
 ·rename_i k' n r
  cases hk:sameKind k' k with
  | false=>rw [hk] at h; exact h.elim
  | true=>rw [hk] at h; exact ⟨n,r,by rw [bH hk],h⟩
 ·exact h.elim
theorem IB {f:Bool->LP} {l:List Value} (h:tB f l): ∃ b r,l= .bool b::r/\f b r:=by
 unfold tB at h; split at h
 ·exact ⟨_,_,rfl,h⟩
 ·exact h.elim
theorem Br {f:Option Addr->LP} {l:List Value} (h:tP f l): ∃ p r,l= .pointer p::r/\f p r:=by
 unfold tP at h; split at h
 ·exact ⟨_,_,rfl,h⟩
 ·exact h.elim
theorem dj {f:Addr->LP} {l:List Value} (h:tA f l): ∃ p r,l= .pointer (some p)::r/\f p r:=by
 unfold tA at h; split at h
 ·exact ⟨_,_,rfl,h⟩
 ·exact h.elim
theorem lN {f:Sl->LP} {l:List Value} (h:tS f l): ∃ (s:Sl) (r:List Value),l= .slice s.a s.len s.cap::r/\f s r:=by
 unfold tS at h; split at h
 ·exact ⟨⟨_,_,_⟩,_,rfl,h⟩
 ·exact h.elim
theorem lO {f:List Value->LP} {l:List Value} (h:tG f l): ∃ (cs r:List Value),l= .agg cs.toArray::r/\f cs r:=by
 unfold tG at h; split at h
 ·rename_i cs r; exact ⟨cs.toList,r,by simp,h⟩
 ·exact h.elim
theorem cV {X:Prop} {l:List Value} (h:tN X l):l=[]/\X:=by
 unfold tN at h; split at h
 ·exact ⟨rfl,h⟩
 ·exact h.elim
abbrev alW (h:Hp) (t:Nat) (vs:List Value) (K:Addr->Hp->Prop):Prop:=K ⟨h.size,0,none⟩ (h.push (.cells vs.toArray t (0,0)))
abbrev amW (h:Hp) (K:Nat->Hp->Prop):Prop:=K h.size (h.push (.map #[] 0))
abbrev isI (k:IntKind) (v:Value) (K:Int->Prop):Prop:= ∃ n:Int,v= .int k n/\K n
abbrev isB (v:Value) (K:Bool->Prop):Prop:= ∃ b:Bool,v= .bool b/\K b
abbrev isV (v:Value) (K:Value->Prop):Prop:= ∃ u:Value,v=u/\K u
def tF (id:Nat) (f:List Value->LP):LP
 | .func (.func i) ⟨[]⟩ cs::r=>cnd (Nat.beq i id) (f cs.toList r) (False)
 | _=>False
theorem vj {id:Nat} {f:List Value->LP} {l:List Value} (h:tF id f l): ∃ (cs r:List Value),l= .func (.func id) #[] cs.toArray::r/\f cs r:=by
 unfold tF at h; split at h
 ·rename_i i cs r
  cases hb:Nat.beq i id with
  | false=>rw [hb] at h; exact h.elim
  | true=>
   rw [hb] at h;have:i=id:=by simpa using hb
   subst this; exact ⟨cs.toList,r,by simp,h⟩
 ·exact h.elim
theorem vk (id:Nat) (f:List Value->LP) (cs:Array Value) (r:List Value):tF id f (.func (.func id) #[] cs::r)=f cs.toList r:=by show (bif Nat.beq id id then f cs.toList r else False)=_;simp
theorem D1 {α:Type} {l:List α} (h:l.length=0):l=[]:=List.length_eq_zero_iff.1 h
theorem Mc {α:Type} {l:List α} (h:l.length=1): ∃ a,l=[a]:=List.length_eq_one_iff.1 h
theorem vl {α:Type} {l:List α} (h:l.length=2): ∃ a b,l=[a,b]:=by
 match l,h with
 | [a,b],_=>exact ⟨a,b,rfl⟩
theorem V6 {α:Type} {l:List α} (h:l.length=3): ∃ a b c,l=[a,b,c]:=by
 match l,h with
 | [a,b,c],_=>exact ⟨a,b,c,rfl⟩
theorem qH {Φ:LoopS->LoopS} {v:List Value} {h:Hp} (H:Φ (Lfp Φ) v h):Lfp Φ v h:=fun R hR=>hR v h ⟨_,fun v' h' H'=>H' R hR,H⟩
theorem Md {a b:Nat} (h:Nat.ble a b=true):a<=b:=by simpa using h
@[simp] theorem dW (b o n:Nat):(⟨b,o,none⟩:Addr).add n=⟨b,o+n,none⟩:=by
 unfold Addr.add; split
 ·rename_i h; subst h; rfl
 ·rfl
theorem dQ {h:Hp} {b:Nat} {c:Array Value} {T:Nat} {z:Nat × Nat} (hb:h[b]? =some (.cells c T z)) (i:Nat):hcell h ⟨b,i,none⟩=c[i]? :=by simp [hcell,hb]
theorem wP {h h':Hp} {a:Addr} (e:h'[a.block]? =h[a.block]?):hcell h' a=hcell h a:=by simp only [hcell,e]
theorem wQ {h:Hp} {a:Addr} {v:Value} (hc:hcell h a=some v):a.block<h.size:=by
 unfold hcell at hc
 cases hb:h[a.block]? with
 | none=>rw [hb] at hc; cases hc
 | some o=>rw [Array.getElem?_eq_some_iff] at hb; exact hb.1
def Keep (F:List Nat) (h h':Hp):Prop:=h.size<=h'.size/\ ∀ b,b<h.size->b ∉ F->h'[b]? =h[b]?
theorem Keep.refl (F:List Nat) (h:Hp):Keep F h h:=⟨Nat.le_refl _,fun _ _ _=>rfl⟩
theorem Keep.trans {F G:List Nat} {h h1 h2:Hp} (k1:Keep F h h1) (k2:Keep G h1 h2) (hG: ∀ b ∈ G,b ∈ F\/h.size<=b):Keep F h h2:=by refine ⟨Nat.le_trans k1.1 k2.1,fun b hb hF=> ?_⟩;rw [k2.2 b (Nat.lt_of_lt_of_le hb k1.1) (fun hg=>(hG b hg).elim hF (fun hl=>by omega)),k1.2 b hb hF]
theorem Keep.mono {F G:List Nat} {h h':Hp} (k:Keep F h h') (hG: ∀ b ∈ F,b ∈ G\/h.size<=b):Keep G h h':=
 ⟨k.1,fun b hb hg=>k.2 b hb fun hf=>(hG b hf).elim hg (fun hl=>by omega)⟩
theorem Keep.push (F:List Nat) (h:Hp) (o:Obj):Keep F h (h.push o):=
 ⟨by simp,fun b hb _=>Array.getElem?_push_lt hb ▸ (by simp [Array.getElem?_eq_getElem hb])⟩
theorem Keep.cell {F:List Nat} {h h':Hp} (k:Keep F h h') {a:Addr} {v:Value} (hc:hcell h a=some v) (hF:a.block ∉ F):hcell h' a=some v:=by rw [wP (k.2 _ (wQ hc) hF),hc]
theorem Keep.hset {F:List Nat} {h:Hp} {a:Addr} (v:Value) (hr:a.block ∈ F):Keep F h (hset h a v):=
 ⟨by simp [Wc.hset],fun b _ hF=>by
  have:a.block ≠ b:=fun e=>hF (e ▸ hr)
  simp only [Wc.hset,Array.getElem?_modify,if_neg this]⟩
theorem dc {h:Hp} {b:Nat} {o:Obj} (hb:h[b]? =some o):b<h.size:=by rw [Array.getElem?_eq_some_iff] at hb; exact hb.1
theorem wR {h:Hp} {b i:Nat} {c:Array Value} {T:Nat} {z:Nat × Nat} (v:Value) (hb:h[b]? =some (.cells c T z)):
  (hset h ⟨b,i,none⟩ v)[b]? =some (.cells (c.setIfInBounds i v) T z):=by
 simp only [hset,Array.getElem?_modify,if_true,hb,Option.map_some];rfl
theorem wS (h:Hp) (o:Obj):(h.push o)[h.size]? =some o:=by simp
theorem fI {h:Hp} {b:Nat} {o o':Obj} (hb:h[b]? =some o):(h.push o')[b]? =some o:=by rw [Array.getElem?_push_lt (dc hb)];rw [Array.getElem?_eq_some_iff] at hb;obtain ⟨_,rfl⟩:=hb; rfl
@[simp] theorem V7 (b:Bool) (K:Bool->Prop):isB (.bool b) K=K b:=by
 apply propext; constructor
 ·rintro ⟨m,h1,h2⟩; cases h1; exact h2
 ·exact fun hk=>⟨b,rfl,hk⟩
@[simp] theorem V8 (k:IntKind) (n:Int) (K:Int->Prop):isI k (.int k n) K=K n:=by
 apply propext; constructor
 ·rintro ⟨m,h1,h2⟩; cases h1; exact h2
 ·exact fun hk=>⟨n,rfl,hk⟩
theorem KN {h:Hp} {b i T:Nat} {c:Array Value} {z:Nat × Nat} {v:Value} {K:Hp->Prop} (hb:h[b]? =some (.cells c T z)) (hi:i<c.size) (hz:i<z.1\/z.2<=i)
  (hk:K (hset h ⟨b,i,none⟩ v)):st h ⟨b,i,none⟩ v K:=by
 refine ⟨⟨c[i],by rw [dQ hb]; simp [hi]⟩, ?_,hk⟩;obtain ⟨lo,hi'⟩:=z;simp only [hfrz,hb,Bool.and_eq_false_iff,decide_eq_false_iff_not];rcases hz with hz | hz
 ·left; simp at hz; omega
 ·right; simp at hz; omega
theorem wrap64 {n:Int} (h1: -9223372036854775808<=n) (h2:n<9223372036854775808):IntKind.wrap .i64 n=n:=by
 have e1:(2:Int) ^ 64=18446744073709551616:=by decide
 have e2:(2:Int) ^ (64 - 1)=9223372036854775808:=by decide
 simp only [IntKind.wrap,IntKind.bits,IntKind.signed,Bool.true_and,decide_eq_true_eq,e1,e2];split <;> omega
def SlV (h:Hp) (s:Sl) (size:Nat) (vs:List Value):Prop:=
 vs.length=s.len*size/\match s.a with
  | none=>vs=[]
  | some a=>(vs ≠ []->a.spot=none)/\ ∀ i,(hi:i<vs.length)->hcell h ⟨a.block,a.off+i,none⟩=some vs[i]
theorem SlV.nil (h:Hp) (size:Nat):SlV h ⟨none,0,0⟩ size []:=⟨by simp,rfl⟩
theorem SlV.keep {F:List Nat} {h h':Hp} {s:Sl} {size:Nat} {vs:List Value} (H:SlV h s size vs) (k:Keep F h h') (hF: ∀ a,s.a=some a->a.block ∉ F):SlV h' s size vs:=by
 obtain ⟨h1,h2⟩:=H;refine ⟨h1, ?_⟩
 cases ha:s.a with
 | none=>rw [ha] at h2; exact h2
 | some a=> rw [ha] at h2;exact ⟨h2.1,fun i hi=>k.cell (h2.2 i hi) (hF a ha)⟩
theorem SlV.cellsAt {h:Hp} {s:Sl} {size:Nat} {vs:List Value} (H:SlV h s size vs):cellsAt h s.a (s.len*size) vs:=by
 obtain ⟨h1,h2⟩:=H
 cases ha:s.a with
 | none=>rw [ha] at h2; exact h2
 | some a=>
  rw [ha] at h2;obtain ⟨b,o,sp⟩:=a;obtain ⟨hsp,h2⟩:=h2
  exact ⟨h1,fun i hi=>by
   obtain rfl:sp=none:=hsp (by rintro rfl; cases hi)
   rw [dW]; exact h2 i hi⟩
theorem qI {h:Hp} {a:Option Addr} {n:Nat} {u v:List Value} (hu:Wc.cellsAt h a n u) (hv:Wc.cellsAt h a n v):u=v:=by
 cases a with
 | none=>simp only [Wc.cellsAt] at hu hv; rw [hu,hv]
 | some a=> obtain ⟨u1,u2⟩:=hu; obtain ⟨v1,v2⟩:=hv;apply List.ext_getElem (by omega);intro i h1 h2;have:=u2 i h1;rw [v2 i h2] at this;simpa using this.symm
def Own (h:Hp) (s:Sl) (T m:Nat) (vs:List Value) (F:List Nat):Prop:=
 vs.length=s.len*m/\s.len<=s.cap/\match s.a with
  | none=>s.cap=0/\F=[]
  | some a=>F=[a.block]/\a.spot=none/\ ∃ pre post z,h[a.block]? =some (.cells (pre++vs++post).toArray T z)/\pre.length=a.off/\
    s.cap*m<=vs.length+post.length/\(z.2<=a.off\/a.off+s.cap*m<=z.1)
theorem Own.nil (h:Hp) (T m:Nat):Own h ⟨none,0,0⟩ T m [] []:=⟨by simp,Nat.le_refl _,rfl,rfl⟩
theorem Own.slv {h:Hp} {s:Sl} {T m:Nat} {vs:List Value} {F:List Nat} (H:Own h s T m vs F):SlV h s m vs:=by
  obtain ⟨h1,h2,h3⟩:=H;refine ⟨h1, ?_⟩
  cases ha:s.a with
  | none=>
    rw [ha] at h3;obtain ⟨h3,_⟩:=h3
    have : vs.length = 0 := by rw [h1]; have : s.len = 0 := by omega
                               rw [this]; simp
    exact List.length_eq_zero_iff.1 this
  | some a=> rw [ha] at h3;obtain ⟨_,hs,pre,post,z,hb,hp,_,_⟩:=h3;refine ⟨fun _=>hs,fun i hi=> ?_⟩;rw [dQ hb,<- hp];simp only [List.getElem?_toArray,List.append_assoc];rw [List.getElem?_append_right (by omega),Nat.add_sub_cancel_left,List.getElem?_append_left hi,List.getElem?_eq_getElem hi]
theorem Own.lt {h:Hp} {s:Sl} {T m:Nat} {vs:List Value} {F:List Nat} (H:Own h s T m vs F): ∀ b ∈ F,b<h.size:=by
 obtain ⟨h1,h2,h3⟩:=H
 cases ha:s.a with
 | none=>rw [ha] at h3; rw [h3.2]; intro b hb; cases hb
 | some a=> rw [ha] at h3;obtain ⟨hf,hs,pre,post,z,hb,_⟩:=h3;rw [hf]; intro b hb';simp at hb'; subst hb';exact dc hb
theorem Own.sa {h:Hp} {s:Sl} {T m:Nat} {vs:List Value} {F:List Nat} (H:Own h s T m vs F): ∀ a,s.a=some a->F=[a.block]:=by intro a ha;have h3:=H.2.2;rw [ha] at h3; exact h3.1
theorem IC {α:Type} (pre post:List α) (u v:α):(pre++u::post).toArray.setIfInBounds pre.length v=(pre++v::post).toArray:=by apply Array.ext';simp
theorem zH {h:Hp} {b T:Nat} {pre post:List Value} {u v:Value} {z:Nat × Nat} {o:Nat} {K:Hp->Prop} (hb:h[b]? =some (.cells (pre++u::post).toArray T z))
  (ho:pre.length=o) (hz:o<z.1\/z.2<=o) (hk: ∀ h',h'[b]? =some (.cells (pre++v::post).toArray T z)->Keep [b] h h'->h'.size=h.size->K h'):st h ⟨b,o,none⟩ v K:=by
 refine KN hb (by simp; omega) hz (hk _ ?_ (Keep.hset _ (by simp)) (by simp [hset]));rw [wR v hb,<- ho,IC]
theorem Me {h:Hp} {a:Addr} {v:Value} {K:Hp->Prop} (hv:v.oneCell'=true) (hk:st h a v K):stV h a v K:=by cases v <;> first | exact hk | simp [Value.oneCell'] at hv
theorem gy {b T:Nat} {z:Nat × Nat} {off:Nat} {K:Hp->Prop}: ∀ (ws old:List Value) (h:Hp) (pre post:List Value) (i:Nat),h[b]? =some (.cells (pre++old++post).toArray T z)->
  old.length=ws.length->pre.length=off+i->(z.2<=off+i\/off+i+ws.length<=z.1)->(∀ v ∈ ws,v.oneCell'=true)->
  (∀ h',h'[b]? =some (.cells (pre++ws++post).toArray T z)->Keep [b] h h'->h'.size=h.size->K h')->stAll h ⟨b,off,none⟩ i ws K
 | [],old,h,pre,post,i,hb,hl,hp,hz,h1,hk=>by
  have:old=[]:=List.length_eq_zero_iff.1 (by simpa using hl);subst this
  exact hk h hb (Keep.refl _ _) rfl
 | w::ws,[],h,pre,post,i,hb,hl,hp,hz,h1,hk=>by simp at hl
 | w::ws,u::old,h,pre,post,i,hb,hl,hp,hz,h1,hk=>by simp only [stAll,dW];refine Me (h1 w (by simp)) (zH (pre:=pre) (post:=old++post) (u:=u) (by simpa using hb) hp (by simp at hz; omega) fun h' hb' k' hs'=> ?_);refine gy ws old h' (pre++[w]) post (i+1) (by simpa using hb') (by simpa using hl) (by simp; omega) (by simp at hz |-; omega) (fun v hv=>h1 v (by simp [hv])) fun h'' hb'' k'' hs''=> ?_;exact hk h'' (by simpa using hb'') (k'.trans k'' fun b hb=> .inl hb) (by omega)
theorem iY (z:Value) (n:Nat):(zeros z n).length=n*z.cells.size:=by simp [zeros,List.length_flatten]
theorem nextcap (n c:Nat) (hc:c<n):Builtin.nextslicecap n c<=2*n+192:=by
 unfold Builtin.nextslicecap;split
 ·omega
 ·split
  ·omega
  ·have key: ∀ (k c:Nat),c<=n+n / 4+192->(c<n->True)->Builtin.growBy n k c<=n+n / 4+192:=by
    intro k
    induction k with
    | zero=>intro c hc _; simpa [Builtin.growBy] using hc
    | succ k ih=>
     intro c hc _;unfold Builtin.growBy;split
     ·exact hc
     ·exact ih _ (by omega) (fun _=>trivial)
   have:=key 4 c (by omega) (fun _=>trivial);omega
theorem ID {T m bytes:Nat} {z:Value} {h:Hp} {s:Sl} {n:Nat} {vs ws:List Value} {F:List Nat} {Q:Sl->Hp->Prop} (hO:Own h s T m vs F) (hw:ws.length=n*m)
  (h1: ∀ v ∈ ws,v.oneCell'=true) (hz:z.cells.size=m) (hb:bytes ≠ 0) (hbd:(2*(s.len+n)+192)*bytes<=2 ^ 48)
  (k: ∀ s' h' F',Own h' s' T m (vs++ws) F'->s'.len=s.len+n->Keep F h h'->(∀ b ∈ F',b ∈ F\/h.size<=b)->
   (s.len+n<=s.cap->s'=⟨s.a,s.len+n,s.cap⟩/\F'=F/\h'.size=h.size)->Q s' h'):apV T m bytes z h s n ws Q:=by
 unfold apV;have hv:=hO.slv;obtain ⟨o1,o2,o3⟩:=hO
 by_cases hc:s.len+n<=s.cap
 ·rw [if_pos hc]
  cases ha:s.a with
  | none=>
   rw [ha] at o3;obtain ⟨o3,rfl⟩:=o3;have hn:n=0:=by omega
   have hsl:s.len=0:=by omega
   subst hn;have e1:ws=[]:=List.length_eq_zero_iff.1 (by simpa using hw);have e2:vs=[]:=List.length_eq_zero_iff.1 (by rw [o1,hsl]; simp);subst e1 e2
   exact k _ _ [] ⟨by simp [hsl],by simp [hsl],by simp [o3]⟩ (by simp) (Keep.refl _ _) (fun b hb=>by cases hb) (fun _=>⟨by simp [ha],rfl,rfl⟩)
  | some a=> rw [ha] at o3;obtain ⟨b,o,sp⟩:=a;obtain ⟨hf,hs,pre,post,fz,hbk,hp,hl,Pq⟩:=o3;simp only at hs hp hbk hf Pq; subst hs;have hmul:(s.len+n)*m<=s.cap*m:=Nat.mul_le_mul_right _ hc;rw [Nat.add_mul] at hmul;simp only [dW];refine gy ws (post.take (n*m)) h (pre++vs) (post.drop (n*m)) 0 (by rw [List.append_assoc,List.take_append_drop]; exact hbk) (by simp; omega) (by simp; omega) (by omega) h1 fun h' hb' k' hs'=> ?_;refine k ⟨some ⟨b,o,none⟩,s.len+n,s.cap⟩ h' [b] ⟨by simp [o1,hw,Nat.add_mul],hc,rfl,rfl,pre,post.drop (n*m),fz,by simpa using hb',hp,by simp; omega,Pq⟩ rfl (by rw [hf]; exact k') (fun b' hb=> .inl (by rw [hf]; exact hb)) (fun _=>⟨by simp [ha],hf.symm,hs'⟩)
 ·rw [if_neg hc]
  refine ⟨hb, ?_,vs,hv.cellsAt,fun c hcge=> ?_⟩
  ·exact Nat.le_trans (Nat.mul_le_mul_right _ (nextcap _ _ (by omega))) hbd
  ·have hlen:(zeros z (c - (s.len+n))).length=c*m - (s.len+n)*m:=by rw [iY,hz,Nat.sub_mul]
   have hmul:(s.len+n)*m<=c*m:=Nat.mul_le_mul_right _ hcge;refine k _ _ [h.size] ⟨by simp [o1,hw,Nat.add_mul],hcge,rfl,rfl,[],zeros z (c - (s.len+n)),(0,0),by simp,rfl, ?_, .inl (Nat.le_refl _)⟩ rfl (Keep.push _ _ _) (fun b hb=> .inr (by simp at hb; omega)) (fun h=>absurd h hc);simp only [List.length_append,hlen];rw [Nat.add_mul] at hmul |-
   omega
theorem vm {h:Hp} {T m n:Nat} {vs:List Value} (hl:vs.length=n*m):Own (h.push (.cells vs.toArray T (0,0))) ⟨some ⟨h.size,0,none⟩,n,n⟩ T m vs [h.size]:=
 ⟨hl,Nat.le_refl _,rfl,rfl,[],[],(0,0),by simp,rfl,by simp [hl], .inl (Nat.le_refl _)⟩
theorem SlV.drop {h:Hp} {s:Sl} {m:Nat} {vs:List Value} (H:SlV h s m vs) {j:Nat} (c:Nat):SlV h ⟨s.a.map (·.add (j*m)),s.len - j,c⟩ m (vs.drop (j*m)):=by
 obtain ⟨h1,h2⟩:=H;refine ⟨by simp [h1,Nat.sub_mul], ?_⟩
 cases ha:s.a with
 | none=>rw [ha] at h2; simp only at h2; subst h2; simp
 | some a=> rw [ha] at h2;obtain ⟨b,o,sp⟩:=a;obtain ⟨hsp,h2⟩:=h2;simp only [Option.map_some];have e:vs.drop (j*m) ≠ []->sp=none:=fun hne=>hsp (by rintro rfl; simp at hne);refine ⟨fun hne=>by rw [e hne,dW],fun i hi=> ?_⟩;rw [e (by intro e2; rw [e2] at hi; cases hi),dW];simp only [List.length_drop] at hi;rw [Nat.add_assoc,h2 (j*m+i) (by omega)];simp
theorem SlV.zero {h:Hp} {s:Sl} {m:Nat} {vs:List Value} (H:SlV h s m vs) (c:Nat):SlV h ⟨s.a,0,c⟩ m []:=by
 obtain ⟨h1,h2⟩:=H;refine ⟨by simp, ?_⟩
 cases ha:s.a with
 | none=>rfl
 | some a=>exact ⟨fun h=>absurd rfl h,fun i hi=>by simp at hi⟩
theorem SlV.take {h:Hp} {s:Sl} {m:Nat} {vs:List Value} (H:SlV h s m vs) {i:Nat} (hi:i<=s.len) (c:Nat):SlV h ⟨s.a,i,c⟩ m (vs.take (i*m)):=by
 obtain ⟨h1,h2⟩:=H;have hm:i*m<=s.len*m:=Nat.mul_le_mul_right _ hi;refine ⟨by simp; omega, ?_⟩
 cases ha:s.a with
 | none=>rw [ha] at h2; simp only at h2; subst h2; simp
 | some a=> rw [ha] at h2;exact ⟨fun h=>h2.1 (by rintro rfl; simp at h),fun j hj=>by simp only [List.length_take] at hj; rw [h2.2 j (by omega)]; simp⟩
theorem IE {h:Hp} {s:Sl} {m:Nat} {vs:List Value} {lo hi:Int} {K:Sl->Prop} (H:SlV h s m vs) (h0:0<=lo) (h1:lo<=hi) (h2:hi<=s.len) (hc:s.len<=s.cap)
  (k: ∀ s':Sl,SlV h s' m ((vs.take (hi.toNat*m)).drop (lo.toNat*m))->s'.len=hi.toNat - lo.toNat->s'.len<=s'.cap->
   (s'.a=s.a\/s'.a=s.a.map (·.add (lo.toNat*m)))->s'.cap=s.cap - lo.toNat->K s'):slW s lo hi m K:=by
 refine ⟨⟨by omega,by omega⟩,⟨h0,h1⟩, ?_⟩
 by_cases e:s.cap=lo.toNat
 ·rw [if_pos e]
  have e2:hi.toNat=lo.toNat:=by omega
  refine k _ ?_ rfl (by simp; omega) (.inl rfl) rfl;have hz:List.drop (lo.toNat*m) (List.take (hi.toNat*m) vs)=[]:=by rw [e2]; simp
  rw [hz,e2,Nat.sub_self];exact H.zero _
 ·rw [if_neg e]
  refine k _ ?_ rfl (by simp; omega) (.inr rfl) rfl;have:=(H.take (i:=hi.toNat) (by omega) s.cap).drop (j:=lo.toNat) (s.cap - lo.toNat);exact this
theorem IF {h:Hp} {s:Sl} {T m:Nat} {vs:List Value} {F:List Nat} {lo hi:Int} {K:Sl->Prop} (H:Own h s T m vs F) (h0:0<=lo) (h1:lo<=hi) (h2:hi<=s.len)
  (k: ∀ s':Sl,Own h s' T m ((vs.take (hi.toNat*m)).drop (lo.toNat*m)) F->s'.len=hi.toNat - lo.toNat->s'.cap=s.cap - lo.toNat->K s'):slW s lo hi m K:=by
 obtain ⟨g1,g2,g3⟩:=H;have e1:hi.toNat*m<=s.len*m:=Nat.mul_le_mul_right _ (by omega);have e2:lo.toNat*m<=hi.toNat*m:=Nat.mul_le_mul_right _ (by omega);have e3:hi.toNat*m<=s.cap*m:=Nat.mul_le_mul_right _ (by omega);refine ⟨⟨by omega,by omega⟩,⟨h0,h1⟩, ?_⟩;have hcm:(s.cap - lo.toNat)*m=s.cap*m - lo.toNat*m:=by rw [Nat.sub_mul]
 refine k _ ⟨by simp [Nat.sub_mul]; omega,by simp; omega, ?_⟩ rfl rfl
 cases ha:s.a with
 | none=>
  rw [ha] at g3;simp only [Option.map_none,ite_self]
  exact ⟨by omega,g3.2⟩
 | some a=>
  rw [ha] at g3;obtain ⟨b,o,sp⟩:=a;obtain ⟨hf,hs,pre,post,z,hb,hp,hl,hz⟩:=g3;simp only at hs hb hp hf hz; subst hs
  have hsp:vs=vs.take (lo.toNat*m)++((vs.take (hi.toNat*m)).drop (lo.toNat*m)++vs.drop (hi.toNat*m)):=by
   conv=>lhs; rw [<- List.take_append_drop (hi.toNat*m) vs,<- List.take_append_drop (lo.toNat*m) (vs.take (hi.toNat*m)),List.take_take,Nat.min_eq_left e2]
   rw [List.append_assoc]
  by_cases e:s.cap=lo.toNat
  ·rw [if_pos e]
   have e4:hi.toNat=lo.toNat:=by omega
   rw [e4,e,Nat.sub_self,Nat.zero_mul];simp only;refine ⟨hf,trivial,pre,vs++post,z, ?_,hp,Nat.zero_le _,by rw [e] at hz; omega⟩;rw [hb,List.drop_eq_nil_of_le (by simp; omega)];simp
  ·rw [if_neg e]
   simp only [Option.map_some,dW];refine ⟨hf,trivial,pre++vs.take (lo.toNat*m),vs.drop (hi.toNat*m)++post,z, ?_,by simp [hp]; omega,by simp; omega,by omega⟩;rw [hb];congr 2
   conv=>lhs; rw [hsp]
   simp only [List.append_assoc]
end Go.Wc
namespace Go.Wc
variable {ν:Type}
inductive dA {α β:Type} (R:α->β->Prop):List α->List β->Prop
 | nil:dA R [] []
 | cons {a b l m}:R a b->dA R l m->dA R (a::l) (b::m)
theorem dA.mono {α β:Type} {R S:α->β->Prop} (h: ∀ a b,R a b->S a b) {l:List α} {m:List β} (H:dA R l m):dA S l m:=by
 induction H with
 | nil=>exact .nil
 | cons h1 _ ih=>exact .cons (h _ _ h1) ih
variable {μ:Type}
end Go.Wc
namespace Go.Pu
open Go Go.Wc
def Le (h:Hp) (M:List Nat) (h':Hp) (M':List Nat):Prop:=Keep M h h'/\ ∀ b ∈ M',b ∈ M\/h.size<=b
theorem Le.refl (h:Hp) (M:List Nat):Le h M h M:=⟨Keep.refl _ _,fun _ hb=> .inl hb⟩
theorem Le.trans {h h1 h2:Hp} {M M1 M2:List Nat} (a:Le h M h1 M1) (b:Le h1 M1 h2 M2):Le h M h2 M2:=
 ⟨a.1.trans b.1 a.2,fun x hx=>(b.2 x hx).elim (a.2 x) fun hl=> .inr (Nat.le_trans a.1.1 hl)⟩
structure At where
 P:Hp->List Nat->List Nat->Prop
 mono: ∀ {h F M h' M'},(∀ b ∈ F,h'[b]? =h[b]?)->Le h M h' M'->P h F M->P h' F M'
 lt: ∀ {h F M},P h F M-> ∀ b ∈ F,b<h.size
def Fits (h:Hp) (M:List Nat):List At->List (List Nat)->Prop
 | [],[]=>True
 | a::A,F::Fs=>a.P h F M/\Fits h M A Fs
 | _,_=>False
def Inv (h:Hp) (A:List At):Prop:= ∃ Fs,Fits h Fs.flatten A Fs/\Fs.flatten.Nodup
theorem Fits.mono {h h':Hp} {M M':List Nat} (hL:Le h M h' M'): ∀ {A:List At} {Fs:List (List Nat)},(∀ b ∈ Fs.flatten,h'[b]? =h[b]?)->Fits h M A Fs->Fits h' M' A Fs
 | [],[],_,_=>trivial
 | a::A,F::Fs,hk,H=>⟨a.mono (fun b hb=>hk b (by simp [hb])) hL H.1,Fits.mono hL (fun b hb=>hk b (by simp only [List.flatten_cons,List.mem_append]; exact .inr hb)) H.2⟩
 | [],_::_,_,H=>H.elim
 | _::_,[],_,H=>H.elim
theorem Fits.lt {h:Hp} {M:List Nat}: ∀ {A:List At} {Fs:List (List Nat)},Fits h M A Fs-> ∀ b ∈ Fs.flatten,b<h.size
 | [],[],_,b,hb=>by simp at hb
 | a::A,F::Fs,H,b,hb=>by
  simp only [List.flatten_cons,List.mem_append] at hb
  exact hb.elim (a.lt H.1 b) (Fits.lt H.2 b)
 | [],_::_,H,_,_=>H.elim
 | _::_,[],H,_,_=>H.elim
theorem Fits.append {h:Hp} {M:List Nat}: ∀ {A B:List At} {Fs Gs:List (List Nat)},Fits h M A Fs->Fits h M B Gs->Fits h M (A++B) (Fs++Gs)
 | [],_,[],_,_,HB=>HB
 | _::_,_,_::_,_,HA,HB=>⟨HA.1,Fits.append HA.2 HB⟩
 | [],_,_::_,_,H,_=>H.elim
 | _::_,_,[],_,H,_=>H.elim
theorem Fits.split {h:Hp} {M:List Nat}: ∀ {A B:List At} {Fs:List (List Nat)},Fits h M (A++B) Fs-> ∃ Gs Hs,Fs=Gs++Hs/\Fits h M A Gs/\Fits h M B Hs
 | [],_,Fs,H=>⟨[],Fs,rfl,trivial,H⟩
 | a::A,B,F::Fs,H=>by
  obtain ⟨Gs,Hs,rfl,h1,h2⟩:=Fits.split H.2
  exact ⟨F::Gs,Hs,rfl,⟨H.1,h1⟩,h2⟩
 | _::_,_,[],H=>H.elim
theorem Inv.turn {h:Hp} {A:List At} {a:At} (I:Inv h (a::A)): ∃ F M,a.P h F M/\(∀ b ∈ F,b ∈ M)/\F.Nodup/\(∀ b ∈ M,b<h.size)/\
  ∀ (h':Hp) (B:List At) (Gs:List (List Nat)),Keep F h h'->(∀ b ∈ Gs.flatten,b ∈ F\/h.size<=b)->Gs.flatten.Nodup->
   (∀ M',Le h M h' M'->(∀ b ∈ M',b ∈ Gs.flatten\/(b ∈ M/\b ∉ F))->(∀ b ∈ Gs.flatten,b ∈ M')->Fits h' M' B Gs)->Inv h' (B++A):=by
 obtain ⟨Fs,hf,hn⟩:=I
 match Fs,hf,hn with
 | F::Fs,hf,hn=>
  have hlt:=Fits.lt hf;simp only [List.flatten_cons] at hf hn hlt;obtain ⟨n1,n2,n3⟩:=List.nodup_append.1 hn;refine ⟨F,F++Fs.flatten,hf.1,fun b hb=>by simp [hb],n1,fun b hb=>hlt b (by simpa using hb),fun h' B Gs hk hg hgn H=> ?_⟩
  have hdis: ∀ b ∈ Gs.flatten,∀ c ∈ Fs.flatten,b ≠ c:=fun b hb c hc e=>by
   subst e;rcases hg b hb with h1 | h1
   ·exact n3 b h1 b hc rfl
   ·have:=hlt b (List.mem_append.2 (.inr hc)); omega
  have hL:Le h (F++Fs.flatten) h' (Gs.flatten++Fs.flatten):=by
   refine ⟨hk.mono fun b hb=> .inl (by simp [hb]),fun b hb=> ?_⟩;rcases List.mem_append.1 hb with hb | hb
   ·exact (hg b hb).imp (fun h=>by simp [h]) id
   ·exact .inl (List.mem_append.2 (.inr hb))
  have h1:=H _ hL (fun b hb=>by
   rcases List.mem_append.1 hb with hb | hb
   ·exact .inl hb
   ·exact .inr ⟨List.mem_append.2 (.inr hb),fun e=>n3 b e b hb rfl⟩) (fun b hb=>by simp only [List.mem_append]; exact .inl hb)
  refine ⟨Gs++Fs, ?_, ?_⟩
  ·rw [List.flatten_append]
   exact Fits.append h1 (Fits.mono hL (fun b hb=>hk.2 b (hlt b (List.mem_append.2 (.inr hb))) fun e=>n3 b e b hb rfl) hf.2)
  ·rw [List.flatten_append,List.nodup_append]
   exact ⟨hgn,n2,hdis⟩
 | [],hf,_=>exact hf.elim
def emp:At:=⟨fun _ F _=>F=[],fun _ _ h=>h,fun h b hb=>by subst h; cases hb⟩
theorem Inv.dV {h:Hp} {A:List At} (I:Inv h A):Inv h (emp::A):=by obtain ⟨Fs,hf,hn⟩:=I;exact ⟨[]::Fs,⟨rfl,by simpa using hf⟩,by simpa using hn⟩
theorem Inv.addP {h:Hp} {A:List At} {a:At} (I:Inv h A) (H: ∀ M,(∀ b ∈ M,b<h.size)->a.P h [] M):Inv h (a::A):=by obtain ⟨Fs,hf,hn⟩:=I;exact ⟨[]::Fs,⟨by simpa using H _ (Fits.lt hf),by simpa using hf⟩,by simpa using hn⟩
theorem Inv.dn {h:Hp} {A:List At} {a:At} (I:Inv h (a::A)):Inv h A:=by obtain ⟨F,M,_,_,_,_,H⟩:=I.turn;exact H h [] [] (Keep.refl _ _) (by simp) (by simp) fun M' hL _ _=>trivial
theorem Inv.conv {h:Hp} {A:List At} {a b:At} (I:Inv h (a::A)) (H: ∀ F M,a.P h F M->b.P h F M):Inv h (b::A):=by
 obtain ⟨F,M,h1,h3,h4,_,h5⟩:=I.turn
 exact h5 h [b] [F] (Keep.refl _ _) (fun b hb=> .inl (by simpa using hb)) (by simpa using h4) fun M' hL _ hM'=>⟨H F M' (a.mono (fun _ _=>rfl) hL h1),trivial⟩
theorem Inv.get {h:Hp} {A:List At} {a:At} (I:Inv h (a::A)): ∃ F M,a.P h F M:=by obtain ⟨F,M,h1,_⟩:=I.turn;exact ⟨F,M,h1⟩
theorem Inv.dup {h:Hp} {A:List At} {a:At} (I:Inv h (a::A)) (H: ∀ F M,a.P h F M->F=[]):Inv h (a::a::A):=by
 obtain ⟨Fs,hf,hn⟩:=I
 match Fs,hf,hn with
 | F::Fs,hf,hn=> obtain rfl:=H _ _ hf.1;exact ⟨[]::[]::Fs,⟨by simpa using hf.1,by simpa using hf.1,by simpa using hf.2⟩,by simpa using hn⟩
def sep (a b:At):At where
 P h F M:= ∃ F1 F2,F=F1++F2/\a.P h F1 M/\b.P h F2 M
 mono:=fun hk hL ⟨F1,F2,e,h1,h2⟩=>⟨F1,F2,e,a.mono (fun b hb=>hk b (by simp [e,hb])) hL h1,b.mono (fun b hb=>hk b (by simp [e,hb])) hL h2⟩
 lt:=fun ⟨F1,F2,e,h1,h2⟩ x hx=>by subst e;exact (List.mem_append.1 hx).elim (a.lt h1 x) (b.lt h2 x)
def exA {α:Type} (f:α->At):At where
 P h F M:= ∃ x,(f x).P h F M
 mono:=fun hk hL ⟨x,h⟩=>⟨x,(f x).mono hk hL h⟩
 lt:=fun ⟨x,h⟩=>(f x).lt h
def factA (φ:Prop) (a:At):At where
 P h F M:=φ/\a.P h F M
 mono:=fun hk hL ⟨h1,h2⟩=>⟨h1,a.mono hk hL h2⟩
 lt:=fun ⟨_,h⟩=>a.lt h
variable {h:Hp} {A:List At} {a b:At}
theorem Inv.sepE (I:Inv h (sep a b::A)):Inv h (a::b::A):=by
 obtain ⟨Fs,hf,hn⟩:=I
 match Fs,hf,hn with
 | F::Fs,hf,hn=>
  obtain ⟨⟨F1,F2,rfl,h1,h2⟩,h3⟩:=hf;have e:(F1::F2::Fs).flatten=((F1++F2)::Fs).flatten:=by simp
  exact ⟨F1::F2::Fs,⟨e ▸ h1,e ▸ h2,e ▸ h3⟩,e ▸ hn⟩
theorem Inv.sepI (I:Inv h (a::b::A)):Inv h (sep a b::A):=by
 obtain ⟨Fs,hf,hn⟩:=I
 match Fs,hf,hn with
 | F1::F2::Fs,hf,hn=>
  obtain ⟨h1,h2,h3⟩:=hf;have e:((F1++F2)::Fs).flatten=(F1::F2::Fs).flatten:=by simp
  exact ⟨(F1++F2)::Fs,⟨⟨F1,F2,rfl,e ▸ h1,e ▸ h2⟩,e ▸ h3⟩,e ▸ hn⟩
 | [_],hf,_=>exact hf.2.elim
theorem Inv.exE {α:Type} {f:α->At} (I:Inv h (exA f::A)): ∃ x,Inv h (f x::A):=by
 obtain ⟨Fs,hf,hn⟩:=I
 match Fs,hf,hn with
 | F::Fs,hf,hn=> obtain ⟨⟨x,h1⟩,h3⟩:=hf;exact ⟨x,F::Fs,⟨h1,h3⟩,hn⟩
theorem Inv.exI {α:Type} {f:α->At} (x:α) (I:Inv h (f x::A)):Inv h (exA f::A):=I.conv fun _ _ h=>⟨x,h⟩
theorem Inv.factE {φ:Prop} (I:Inv h (factA φ a::A)):φ/\Inv h (a::A):=by obtain ⟨F,M,h1⟩:=I.get;exact ⟨h1.1,I.conv fun _ _ h=>h.2⟩
theorem Inv.factI {φ:Prop} (p:φ) (I:Inv h (a::A)):Inv h (factA φ a::A):=I.conv fun _ _ h=>⟨p,h⟩
theorem Inv.sepE' (I:Inv h (sep a b::A)):Inv h (b::a::A):=by
 obtain ⟨F,M,h1,h3,h4,_,h5⟩:=I.turn;refine Inv.sepE ?_;obtain ⟨F1,F2,rfl,g1,g2⟩:=h1
 refine h5 h [sep b a] [F2++F1] (Keep.refl _ _) (fun b hb=> .inl (by simp at hb |-; exact hb.symm)) ?_ fun M' hL _ hM'=>⟨⟨F2,F1,rfl,b.mono (fun _ _=>rfl) hL g2,a.mono (fun _ _=>rfl) hL g1⟩,trivial⟩
 simp only [List.flatten_cons,List.flatten_nil,List.append_nil];rw [List.nodup_append] at h4 |-
 exact ⟨h4.2.1,h4.1,fun x hx y hy e=>h4.2.2 y hy x hx e.symm⟩
theorem Inv.swap (I:Inv h (a::b::A)):Inv h (b::a::A):=I.sepI.sepE'
theorem Inv.rot {X:List At} {y:At} (I:Inv h (y::X)):Inv h (X++[y]):=by
 obtain ⟨Fs,hf,hn⟩:=I
 match Fs,hf,hn with
 | F::Fs,hf,hn=>
  have hp:(Fs++[F]).flatten.Perm (F::Fs).flatten:=by simp only [List.flatten_append,List.flatten_cons,List.flatten_nil,List.append_nil]; exact List.perm_append_comm
  have hm: ∀ b,b ∈ (Fs++[F]).flatten↔b ∈ (F::Fs).flatten:=fun b=>hp.mem_iff
  have hL:Le h (F::Fs).flatten h (Fs++[F]).flatten:=⟨Keep.refl _ _,fun b hb=> .inl ((hm b).1 hb)⟩
  exact ⟨Fs++[F],Fits.append (hf.2.mono hL fun _ _=>rfl) ⟨y.mono (fun _ _=>rfl) hL hf.1,trivial⟩,hp.nodup_iff.2 hn⟩
theorem Inv.rot' {X:List At} {y:At} (I:Inv h (X++[y])):Inv h (y::X):=by
 obtain ⟨Fs,hf,hn⟩:=I;obtain ⟨Gs,Hs,rfl,h1,h2⟩:=Fits.split hf
 match Hs,h2 with
 | [F],h2=>
  have hp:(F::Gs).flatten.Perm (Gs++[F]).flatten:=by simp only [List.flatten_append,List.flatten_cons,List.flatten_nil,List.append_nil]; exact List.perm_append_comm
  have hL:Le h (Gs++[F]).flatten h (F::Gs).flatten:=⟨Keep.refl _ _,fun b hb=> .inl (hp.mem_iff.1 hb)⟩
  exact ⟨F::Gs,⟨y.mono (fun _ _=>rfl) hL h2.1,h1.mono hL fun _ _=>rfl⟩,hp.nodup_iff.2 hn⟩
 | _::_::_,h2=>exact h2.2.elim
theorem Inv.under {B:List At} (I:Inv h (a::A)) (H:Inv h (A++[a])->Inv h (B++[a])):Inv h (a::B):=(H I.rot).rot'
theorem Inv.cz {x0:At} (I:Inv h (x0::a::A)):Inv h (a::x0::A):=I.swap
theorem Inv.bV {x0 x1:At} (I:Inv h (x0::x1::a::A)):Inv h (a::x0::x1::A):=
 (I.under (B:=a::x1::A) fun J=>Inv.cz (A:=A++[x0]) J).swap
theorem Inv.jc {x0 x1 x2:At} (I:Inv h (x0::x1::x2::a::A)):Inv h (a::x0::x1::x2::A):=
 (I.under (B:=a::x1::x2::A) fun J=>Inv.bV (A:=A++[x0]) J).swap
theorem Inv.KO {x0 x1 x2 x3:At} (I:Inv h (x0::x1::x2::x3::a::A)):Inv h (a::x0::x1::x2::x3::A):=
 (I.under (B:=a::x1::x2::x3::A) fun J=>Inv.jc (A:=A++[x0]) J).swap
end Go.Pu
namespace Go.Pu
open Go Go.Wc
structure Rp (X:Type) where
 n:Nat
 P:Hp->List Nat->List Value->X->Prop
 len: ∀ {h M vs x},P h M vs x->vs.length=n
 one: ∀ {h M vs x},P h M vs x-> ∀ v ∈ vs,v.oneCell'=true
 mono: ∀ {h M h' M' vs x},Le h M h' M'->P h M vs x->P h' M' vs x
variable {X:Type} {E:Rp X} {h h':Hp} {M M':List Nat} {vs ws:List Value} {l m:List X}
def Els (E:Rp X) (h:Hp) (M:List Nat):List Value->List X->Prop
 | vs,[]=>vs=[]
 | vs,x::l=> ∃ u w,vs=u++w/\E.P h M u x/\Els E h M w l
theorem Els.len: ∀ {l:List X} {vs:List Value},Els E h M vs l->vs.length=l.length*E.n
 | [],vs,H=>by
  have H:vs=[]:=H
  subst H; simp
 | x::l,vs,⟨u,w,e,h1,h2⟩=>by subst e;simp only [List.length_append,E.len h1,Els.len h2,List.length_cons,Nat.add_mul,Nat.one_mul,Nat.add_comm]
theorem Els.one: ∀ {l:List X} {vs:List Value},Els E h M vs l-> ∀ v ∈ vs,v.oneCell'=true
 | [],vs,H,v,hv=>by
  have H:vs=[]:=H
  subst H; cases hv
 | x::l,vs,⟨u,w,e,h1,h2⟩,v,hv=>by subst e;exact (List.mem_append.1 hv).elim (E.one h1 v) (Els.one h2 v)
theorem Els.mono (hL:Le h M h' M'): ∀ {l:List X} {vs:List Value},Els E h M vs l->Els E h' M' vs l
 | [],_,H=>H
 | _::_,_,⟨u,w,e,h1,h2⟩=>⟨u,w,e,E.mono hL h1,Els.mono hL h2⟩
theorem Els.append: ∀ {l:List X} {vs:List Value},Els E h M vs l->Els E h M ws m->Els E h M (vs++ws) (l++m)
 | [],vs,H,H2=>by
  have H:vs=[]:=H
  subst H; exact H2
 | _::_,_,⟨u,w,e,h1,h2⟩,H2=>⟨u,w++ws,by rw [e,List.append_assoc],h1,Els.append h2 H2⟩
theorem Els.split: ∀ {l:List X} {vs:List Value},Els E h M vs (l++m)-> ∃ u w,vs=u++w/\Els E h M u l/\Els E h M w m
 | [],vs,H=>⟨[],vs,rfl,rfl,H⟩
 | _::_,_,⟨u,w,e,h1,h2⟩=>by obtain ⟨u',w',rfl,h3,h4⟩:=Els.split h2;exact ⟨u++u',w',by rw [e,List.append_assoc],⟨u,u',rfl,h1,h3⟩,h4⟩
theorem Els.take_drop (H:Els E h M vs l) (i:Nat) (hi:i<=l.length):Els E h M (vs.take (i*E.n)) (l.take i)/\Els E h M (vs.drop (i*E.n)) (l.drop i):=by rw [<- List.take_append_drop i l] at H;obtain ⟨u,w,rfl,h1,h2⟩:=Els.split H;have hl:=h1.len;rw [List.length_take,Nat.min_eq_left hi] at hl;rw [<- hl,List.take_left,List.drop_left];exact ⟨h1,h2⟩
theorem Els.sub (H:Els E h M vs l) {i j:Nat} (hij:i<=j) (hj:j<=l.length):Els E h M ((vs.take (j*E.n)).drop (i*E.n)) ((l.take j).drop i):=
 ((H.take_drop j hj).1.take_drop i (by simp; omega)).2
theorem Els.get {i:Nat} {x:X} (H:Els E h M vs l) (hx:l[i]? =some x): ∃ u,E.P h M u x/\ ∀ j,j<u.length->vs[i*E.n+j]? =u[j]? :=by
 have hi:i<l.length:=by rw [List.getElem?_eq_some_iff] at hx; exact hx.1
 obtain ⟨_,h2⟩:=H.take_drop i (Nat.le_of_lt hi)
 have e:l.drop i=x::l.drop (i+1):=by rw [List.getElem?_eq_some_iff] at hx;obtain ⟨_,rfl⟩:=hx;exact List.drop_eq_getElem_cons hi
 rw [e] at h2;obtain ⟨u,w,e2,h3,_⟩:=h2;refine ⟨u,h3,fun j hj=> ?_⟩;rw [<- List.getElem?_drop,e2,List.getElem?_append_left hj]
theorem Els.set {i:Nat} {x:X} {u:List Value} (H:Els E h M vs l) (hi:i<l.length) (hu:E.P h M u x):
  Els E h M (vs.take (i*E.n)++(u++vs.drop ((i+1)*E.n))) (l.set i x):=by
 rw [List.set_eq_take_append_cons_drop,if_pos hi];exact (H.take_drop i (Nat.le_of_lt hi)).1.append ⟨u,_,rfl,hu,(H.take_drop (i+1) hi).2⟩
theorem Els.repl {z:List Value} {x:X} (hz:E.P h M z x): ∀ n,Els E h M (List.replicate n z).flatten (List.replicate n x)
 | 0=>rfl
 | n+1=>⟨z,_,by simp [List.replicate_succ],hz,Els.repl hz n⟩
@[reducible] def rI (k:IntKind):Rp Int:=⟨1,fun _ _ vs x=>vs=[.int k x],by rintro _ _ _ _ rfl; rfl,by rintro _ _ _ _ rfl; simp [Value.oneCell'],fun _ h=>h⟩
@[reducible] def rB:Rp Bool:=⟨1,fun _ _ vs x=>vs=[.bool x],by rintro _ _ _ _ rfl; rfl,by rintro _ _ _ _ rfl; simp [Value.oneCell'],fun _ h=>h⟩
@[reducible] def rT:Rp ByteArray:=⟨1,fun _ _ vs x=>vs=[.string x],by rintro _ _ _ _ rfl; rfl,by rintro _ _ _ _ rfl; simp [Value.oneCell'],fun _ h=>h⟩
@[reducible] def rP:Rp (Option Addr):=⟨1,fun _ _ vs x=>vs=[.pointer x],by rintro _ _ _ _ rfl; rfl,by rintro _ _ _ _ rfl; simp [Value.oneCell'],fun _ h=>h⟩
@[reducible] def rV (k:IntKind) (n:Nat):Rp (Vector Int n):=⟨n,fun _ _ vs x=>vs=lumpV k n x.toList,by rintro _ _ _ _ rfl; exact cm _ _ _,by
 rintro _ _ _ x rfl v hv;simp only [lumpV,List.mem_map] at hv;obtain ⟨y,_,rfl⟩:=hv
 rfl,fun _ h=>h⟩
theorem pg {k:IntKind}: ∀ {l:List Int} {vs:List Value},Els (rI k) h M vs l↔vs=l.map (Value.int k)
 | [],vs=>Iff.rfl
 | x::l,vs=>by
  constructor
  ·rintro ⟨u,w,rfl,rfl,h2⟩
   rw [pg.1 h2]; rfl
  ·rintro rfl
   exact ⟨[_],_,rfl,rfl,pg.2 rfl⟩
def SlE (E:Rp X) (h:Hp) (M:List Nat) (a:Option Addr) (c:Nat) (l:List X):Prop:=
 ∃ vs,SlV h ⟨a,l.length,c⟩ E.n vs/\l.length<=c/\(vs ≠ []-> ∀ x,a=some x->x.block ∉ M)/\Els E h M vs l
theorem Bs {a:Option Addr} {c n:Nat} (m:Nat) (hn:n*m=0):SlV h ⟨a,n,c⟩ m []:=by
 refine ⟨by simp [hn], ?_⟩
 cases a with
 | none=>rfl
 | some a=>exact ⟨fun h=>absurd rfl h,fun i hi=>by simp at hi⟩
theorem Mf {s:Sl} {n:Nat} (hL:Le h M h' M') (H:SlV h s n vs) (hd:vs ≠ []-> ∀ x,s.a=some x->x.block ∉ M):SlV h' s n vs:=by
 cases vs with
 | nil=>obtain ⟨a,l,c⟩:=s; exact Bs n (by have:=H.1; simpa using this.symm)
 | cons v w=>exact H.keep hL.1 (hd (by simp))
theorem SlE.mono {a:Option Addr} {c:Nat} (hL:Le h M h' M'):SlE E h M a c l->SlE E h' M' a c l:=by
 rintro ⟨vs,h1,h2,h3,h4⟩;refine ⟨vs,Mf hL h1 h3,h2,fun hne x hx e=> ?_,h4.mono hL⟩;rcases hL.2 _ e with h5 | h5
 ·exact h3 hne x hx h5
 ·obtain ⟨g1,g2⟩:=h1
  subst hx
  have hp:0<vs.length:=by
   cases vs with
   | nil=>exact absurd rfl hne
   | cons a b=>simp
  have:=wQ (g2.2 0 hp);simp at this; omega
@[reducible] def rS (E:Rp X):Rp (List X):=
 ⟨1,fun h M vs l=> ∃ (a:Option Addr) (c:Nat),vs=[.slice a l.length c]/\SlE E h M a c l,by rintro _ _ _ _ ⟨a,c,rfl,_⟩; rfl,by rintro _ _ _ _ ⟨a,c,rfl,_⟩; simp [Value.oneCell'],
  fun hL ⟨a,c,e,h⟩=>⟨a,c,e,h.mono hL⟩⟩
def roS (E:Rp X) (a:Option Addr) (n c:Nat) (l:List X):At:=
 ⟨fun h F M=>F=[]/\n=l.length/\SlE E h M a c l,fun _ hL ⟨e,en,h⟩=>⟨e,en,h.mono hL⟩,fun ⟨e,_⟩ b hb=>by subst e; cases hb⟩
def repA (E:Rp X) (vs:List Value) (x:X):At:=
 ⟨fun h F M=>F=[]/\E.P h M vs x,fun _ hL ⟨e,h⟩=>⟨e,E.mono hL h⟩,fun ⟨e,_⟩ b hb=>by subst e; cases hb⟩
theorem CE {s:Sl} {T n:Nat} {F:List Nat} (H:Own h s T n vs F) (hk: ∀ b ∈ F,h'[b]? =h[b]?):Own h' s T n vs F:=by
 obtain ⟨h1,h2,h3⟩:=H;refine ⟨h1,h2, ?_⟩
 cases ha:s.a with
 | none=>rw [ha] at h3; exact h3
 | some a=> rw [ha] at h3;obtain ⟨hf,hs,pre,post,z,hb,h4⟩:=h3;exact ⟨hf,hs,pre,post,z,by rw [hk a.block (by rw [hf]; simp),hb],h4⟩
def ownS (E:Rp X) (a:Option Addr) (n c:Nat) (l:List X):At:=
 ⟨fun h F M=>n=l.length/\ ∃ (T:Nat) (vs:List Value),Own h ⟨a,l.length,c⟩ T E.n vs F/\Els E h M vs l,fun hk hL ⟨en,T,vs,h1,h2⟩=>⟨en,T,vs,CE h1 hk,h2.mono hL⟩,fun ⟨_,_,_,h,_⟩=>h.lt⟩
inductive Seg where
 | one (v:Value)
 | vec (k:IntKind) (n:Nat) (v:Vector Int n)
@[reducible] def Seg.size:Seg->Nat
 | .one _=>1
 | .vec _ n _=>n
def Seg.cells:Seg->List Value
 | .one v=>[v]
 | .vec k n v=>lumpV k n v.toList
def segs:List Seg->List Value
 | []=>[]
 | s::r=>s.cells++segs r
def segAt:List Seg->Nat->Nat->Option (Nat × Seg)
 | [],_,_=>none
 | s::_,0,off=>some (off,s)
 | s::r,i+1,off=>segAt r i (off+s.size)
def segSize:List Seg->Nat
 | []=>0
 | s::r=>s.size+segSize r
theorem Seg.nh (s:Seg):s.cells.length=s.size:=by
 cases s with
 | one v=>rfl
 | vec k n v=>simp [Seg.cells,cm]
theorem cD: ∀ ss:List Seg,(segs ss).length=segSize ss
 | []=>rfl
 | s::r=>by simp only [segs,segSize,List.length_append,s.nh,cD r]
theorem cv: ∀ (l r:List Seg),segs (l++r)=segs l++segs r
 | [],_=>rfl
 | s::l,r=>by simp only [List.cons_append,segs,cv l r,List.append_assoc]
theorem dr: ∀ {ss:List Seg} {i acc off:Nat} {s:Seg},segAt ss i acc=some (off,s)->ss=ss.take i++s::ss.drop (i+1)/\off=acc+segSize (ss.take i)
 | [],_,_,_,_,h=>by simp [segAt] at h
 | s::r,0,acc,off,t,h=>by simp [segAt] at h; obtain ⟨rfl,rfl⟩:=h; simp [segSize]
 | s::r,i+1,acc,off,t,h=>by simp only [segAt] at h;obtain ⟨h1,h2⟩:=dr h;refine ⟨by simp only [List.take_succ_cons,List.drop_succ_cons,List.cons_append]; rw [<- h1],by simp only [List.take_succ_cons,segSize]; omega⟩
theorem eV {n:Nat} (v:Vector Int n):nrm n v.toList=v.toList:=kH (by simp)
theorem dZ (k:IntKind) {n:Nat} (v:Vector Int n):lumpV k n v.toList=v.toList.map (Value.int k):=by rw [lumpV,eV]
def blk (p:Addr) (T:Nat) (ss:List Seg):At:=
 ⟨fun h F _=>F=[p.block]/\p.off=0/\p.spot=none/\h[p.block]? =some (.cells (segs ss).toArray T (0,0)),
  fun hk _ ⟨e,e1,e2,h⟩=>⟨e,e1,e2,by rw [hk p.block (by simp [e]),h]⟩,fun ⟨e,_,_,h⟩ b hb=>by
   subst e; simp at hb; subst hb; exact dc h⟩
def Rd (E:Rp X) (a:At) (p:Option Addr) (n c:Nat) (l:List X):Prop:=
 ∀ {h F M},a.P h F M->n=l.length/\ ∃ vs,SlV h ⟨p,l.length,c⟩ E.n vs/\l.length<=c/\Els E h M vs l
theorem wT {a:Option Addr} {n c:Nat}:Rd E (roS E a n c l) a n c l:=fun ⟨_,en,vs,h1,h2,_,h3⟩=>⟨en,vs,h1,h2,h3⟩
theorem vn {a:Option Addr} {n c:Nat}:Rd E (ownS E a n c l) a n c l:=fun ⟨en,_,vs,h1,h2⟩=>⟨en,vs,h1.slv,h1.2.1,h2⟩
theorem fB {a':At} {p:Option Addr} {n c:Nat} {h:Hp} {A:List At} (hX:Rd E a' p n c l) (I:Inv h (a'::A)):n=l.length:=by obtain ⟨F,M,hP⟩:=I.get;exact (hX hP).1
theorem fF {a:Option Addr} {n c:Nat} {h:Hp} {A:List At} (I:Inv h (ownS E a n c l::A)):n=l.length:=fB vn I
theorem D2 {a:Option Addr} {n c:Nat} {h:Hp} {A:List At} (I:Inv h (roS E a n c l::A)):n=l.length:=fB wT I
variable {A:List At} {a:Option Addr} {c:Nat}
theorem CF {b:Bool} {X Y X' Y':Prop} (H:br b X' Y') (h1:b=true->X'->X) (h2:b=false->Y'->Y):br b X Y:=by
 cases b with
 | true=>exact h1 rfl H
 | false=>exact h2 rfl H
theorem PO {φ X X':Prop} (H:φ/\X') (h1:X'->X):φ/\X:=⟨H.1,h1 H.2⟩
theorem KP {p:Option Addr} {K K':Addr->Prop} (H:nilW p K') (k: ∀ x,p=some x->K' x->K x):nilW p K:=by
 cases p with
 | none=>exact H
 | some x=>exact k x rfl H
theorem PS {p:Option Addr} {x:Addr} {K:Addr->Prop} (e:p=some x) (k:K x):nilW p K:=by subst e; exact k
theorem ni {T:Nat} {vs:List Value} {K:Addr->Hp->Prop} (ss:List Seg) (hs:vs=segs ss) (I:Inv h A) (k: ∀ p h',Inv h' (blk p T ss::A)->K p h'):alW h T vs K:=by
 subst hs;refine k _ _ ?_;obtain ⟨F,M,hF,_,_,_,H⟩:=I.dV.turn;have hF:F=[]:=hF;subst hF
 exact H _ [_] [[h.size]] (Keep.push _ _ _) (fun b hb=> .inr (by simp at hb; omega)) (by simp) fun M' _ _ _=>⟨⟨rfl,rfl,rfl,wS _ _⟩,trivial⟩
theorem add_eq {p:Addr} (h0:p.off=0) (h1:p.spot=none) (i:Nat):p.add i=⟨p.block,i,none⟩:=by obtain ⟨b,o,s⟩:=p;simp only at h0 h1;subst h0 h1;rw [dW,Nat.zero_add]
theorem Inv.cell {p:Addr} {T:Nat} {ss:List Seg} (I:Inv h (blk p T ss::A)) (i off:Nat) {v:Value} (hv:segAt ss i 0=some (off, .one v)):hcell h (p.add off)=some v:=by obtain ⟨F,M,_,h0,h1,hb⟩:=I.get;obtain ⟨e1,e2⟩:=dr hv;rw [add_eq h0 h1,dQ hb,e1,cv,e2,Nat.zero_add];simp only [segs,Seg.cells,List.getElem?_toArray];rw [List.getElem?_append_right (by rw [cD]; exact Nat.le_refl _),cD,Nat.sub_self];rfl
theorem Inv.lump {p:Addr} {T n:Nat} {k:IntKind} {ss:List Seg} (I:Inv h (blk p T ss::A)) (i off:Nat) {v:Vector Int n} (hv:segAt ss i 0=some (off, .vec k n v)):lfact k n v.toList (p.add off) h:=by obtain ⟨F,M,_,h0,h1,hb⟩:=I.get;obtain ⟨e1,e2⟩:=dr hv;intro j hj;rw [add_add,add_eq h0 h1,dQ hb,e1,cv,e2,Nat.zero_add];simp only [segs,Seg.cells,List.getElem?_toArray];rw [List.getElem?_append_right (by rw [cD]; omega),cD,Nat.add_sub_cancel_left,List.getElem?_append_left (by rw [cm]; exact hj),m6 k n _ j hj]
theorem mb {k:IntKind} {p:Addr} {n:Int} {K:Int->Prop} (hc:hcell h p=some (.int k n)) (H:K n):ldI k h p K:=⟨n,hc,H⟩
theorem KQ {p:Addr} {a:Option Addr} {n c:Nat} {K:Sl->Prop} (hc:hcell h p=some (.slice a n c)) (H:K ⟨a,n,c⟩):ldS h p K:=⟨⟨a,n,c⟩,hc,H⟩
theorem tW {k:IntKind} {n:Nat} {p:Addr} {v:Vector Int n} {K:List Int->Prop} (hc:lfact k n v.toList p h) (H:K v.toList):ldL k n h p K:=⟨v.toList,by simp,hc,H⟩
theorem tX {p:Addr} {T:Nat} {ss:List Seg} {vs:List Value} {K:Hp->Prop} (I:Inv h (blk p T ss::A)) (i m off:Nat) (ws:List Seg) (hw:vs=segs ws) (hi:segSize (ss.take i)=off) (hm:segSize ((ss.drop i).take m)=segSize ws)
  (ho: ∀ v ∈ segs ws,v.oneCell'=true) (k: ∀ h',Inv h' (blk p T (ss.take i++(ws++(ss.drop i).drop m))::A)->K h'):stAll h (p.add off) 0 vs K:=by
 subst hw;obtain ⟨F,M,⟨hF,h0,h1,hb⟩,hFM,hn,hlt,H⟩:=I.turn;rw [add_eq h0 h1]
 have e:segs ss=segs (ss.take i)++segs ((ss.drop i).take m)++segs ((ss.drop i).drop m):=by rw [List.append_assoc,<- cv,<- cv,List.take_append_drop,List.take_append_drop]
 refine gy (T:=T) (z:=(0,0)) (segs ws) (segs ((ss.drop i).take m)) h (segs (ss.take i)) (segs ((ss.drop i).drop m)) 0 (by rw [hb,<- e]) (by simp only [cD,hm]) (by rw [cD]; omega) (.inl (Nat.zero_le _)) ho fun h' hb' k' hs'=> ?_;refine k h' (H h' [_] [[p.block]] (by rw [hF]; exact k') (fun b hb=> .inl (by rw [hF]; simpa using hb)) (by simp) fun M' _ _ _=>⟨⟨rfl,h0,h1, ?_⟩,trivial⟩);rw [hb',cv,cv,List.append_assoc]
theorem V9 {p:Addr} {T:Nat} {ss:List Seg} {u v:Value} {K:Hp->Prop} (I:Inv h (blk p T ss::A)) (i off:Nat) (hu:segAt ss i 0=some (off, .one u)) (k: ∀ h',Inv h' (blk p T (ss.set i (.one v))::A)->K h'):
  st h (p.add off) v K:=by
 obtain ⟨F,M,⟨hF,h0,h1,hb⟩,hFM,hn,hlt,H⟩:=I.turn;obtain ⟨e1,e2⟩:=dr hu;rw [add_eq h0 h1]
 have hil:i<ss.length:=by have:=congrArg List.length e1;simp at this; omega
 refine zH (T:=T) (z:=(0,0)) (pre:=segs (ss.take i)) (post:=segs (ss.drop (i+1))) (u:=u) ?_ (by rw [cD]; omega) (.inr (Nat.zero_le _)) fun h' hb' k' hs'=> ?_
 ·rw [hb]; conv=>lhs; rw [e1,cv]
  rfl
 ·refine k h' (H h' [_] [[p.block]] (by rw [hF]; exact k') (fun b hb=> .inl (by rw [hF]; simpa using hb)) (by simp) fun M' _ _ _=>⟨⟨rfl,h0,h1, ?_⟩,trivial⟩)
  rw [hb',List.set_eq_take_append_cons_drop,if_pos hil,cv];rfl
theorem Inv.lit {p:Addr} {T n:Nat} {ss:List Seg} (I:Inv h (blk p T ss::A)) (hn:n=l.length) (H: ∀ M,Els E h M (segs ss) l):Inv h (ownS E (some p) n n l::A):=by
 subst hn
 refine I.conv fun F M ⟨hF,h0,h1,hb⟩=>⟨rfl,T,segs ss,⟨(H M).len,Nat.le_refl _, ?_⟩,H M⟩
 refine ⟨hF,h1,[],[],(0,0),by simpa using hb,by simp [h0], ?_, .inl (Nat.zero_le _)⟩;rw [(H M).len]; simp
theorem Inv.Wa {p:Addr} {T:Nat} (E:Rp X) (I:Inv h (blk p T []::A)):Inv h (ownS E (some p) 0 0 []::A):=I.lit (l:=[]) rfl fun _=>rfl
def litA (E:Rp X) (vs:List Value) (l:List X):At:=
 ⟨fun h F M=>F=[]/\Els E h M vs l,fun _ hL ⟨e,h⟩=>⟨e,h.mono hL⟩,fun ⟨e,_⟩ b hb=>by subst e; cases hb⟩
theorem Inv.litN (E:Rp X) (I:Inv h A):Inv h (litA E [] []::A):=I.addP fun M _=>⟨rfl,rfl⟩
theorem Inv.litC {vs ws:List Value} {x:X} (I:Inv h (repA E vs x::litA E ws l::A)):Inv h (litA E (vs++ws) (x::l)::A):=
 I.sepI.conv fun F M ⟨F1,F2,e,⟨e1,h1⟩,e2,h2⟩=>⟨by rw [e,e1,e2]; rfl,vs,ws,rfl,h1,h2⟩
theorem Inv.litL {p:Addr} {T n:Nat} {ss:List Seg} {vs:List Value} (I:Inv h (litA E vs l::blk p T ss::A)) (hv:vs=segs ss) (hn:n=l.length):Inv h (ownS E (some p) n n l::A):=by
 subst hv hn
 refine I.sepI.conv fun F M ⟨F1,F2,e,⟨e1,h2⟩,hF,h0,h1,hb⟩=>⟨rfl,T,segs ss,⟨h2.len,Nat.le_refl _, ?_⟩,h2⟩
 subst e1;refine ⟨by rw [e]; exact hF,h1,[],[],(0,0),by simpa using hb,by simp [h0], ?_, .inl (Nat.zero_le _)⟩;simp only;rw [h2.len]; simp
theorem Inv.freeze {n:Nat} (I:Inv h (ownS E a n c l::A)):Inv h (roS E a n c l::A):=by
 obtain ⟨F,M,⟨en,T,vs,h1,h2⟩,hFM,hn,hlt,H⟩:=I.turn
 refine H h [_] [[]] (Keep.refl _ _) (by simp) (by simp) fun M' hL hM' _=>⟨⟨rfl,en,vs,h1.slv,h1.2.1,fun _ x hx hm=> ?_,h2.mono hL⟩,trivial⟩
 have:=hM' _ hm;simp only [List.flatten_cons,List.flatten_nil,List.append_nil,List.not_mem_nil,false_or] at this;exact this.2 (by rw [h1.sa x hx]; simp)
theorem Inv.nilO (E:Rp X) (I:Inv h A):Inv h (ownS E none 0 0 []::A):=I.addP fun M _=>⟨rfl,0,[],Own.nil _ _ _,rfl⟩
theorem Inv.dupR {n:Nat} (I:Inv h (roS E a n c l::A)):Inv h (roS E a n c l::roS E a n c l::A):=I.dup fun _ _ h=>h.1
def ixP (l:List X) (i:Int) (K:X->Prop):Prop:=0<=i/\ ∃ x,l[i.toNat]? =some x/\K x
theorem qJ {i:Int} {K:X->Prop} (H:ixP l i K):0<=i/\i<l.length:=by obtain ⟨h0,x,hx,_⟩:=H;rw [List.getElem?_eq_some_iff] at hx;obtain ⟨h1,_⟩:=hx;exact ⟨h0,by omega⟩
def EAdr (a:Option Addr) (n:Nat) (i:Int) (p:Addr):Prop:= ∃ x,a=some x/\p=x.add (i.toNat*n)
theorem qK {s:Sl} {n i j:Nat} {x:Addr} (H:SlV h s n vs) (hx:s.a=some x) {v:Value} (hv:vs[i*n+j]? =some v):hcell h ((x.add (i*n)).add j)=some v:=by obtain ⟨h1,h2⟩:=H;rw [hx] at h2;rw [List.getElem?_eq_some_iff] at hv;obtain ⟨hlt,hv⟩:=hv;obtain ⟨b,o,sp⟩:=x;obtain rfl:sp=none:=h2.1 (by rintro rfl; simp at hlt);rw [dW,dW,Nat.add_assoc,h2.2 _ hlt,hv]
theorem PT {a':At} {n:Nat} {i:Int} {K':X->Prop} {K:Addr->Prop} (hX:Rd E a' a n c l) (I:Inv h (a'::A)) (hn:E.n ≠ 0) (H:ixP l i K')
  (k: ∀ p vs x,EAdr a E.n i p->l[i.toNat]? =some x->(∀ j v,vs[j]? =some v->hcell h (p.add j)=some v)->Inv h (repA E vs x::a'::A)->K' x->K p):ixW a n i E.n K:=by
 obtain rfl:=fB hX I;have hb:=qJ H;obtain ⟨h0,x,hx,hK⟩:=H;obtain ⟨F,M,hP,hFM,hnd,hlt,HH⟩:=I.turn;obtain ⟨_,vs,h1,h2,h3⟩:=hX hP;obtain ⟨u,hu,hcells⟩:=h3.get hx
 obtain ⟨y,rfl⟩: ∃ y,a=some y:=by
  cases a with
  | some y=>exact ⟨y,rfl⟩
  | none=>
   have:=h1.2;simp only at this;subst this;have hl:0=l.length*E.n:=h1.1;rcases Nat.mul_eq_zero.1 hl.symm with e | e
   ·omega
   ·exact absurd e hn
 refine ⟨y,rfl,hb,k _ u x ⟨y,rfl,rfl⟩ hx (fun j v hv=> ?_) ?_ hK⟩
 ·have hj:j<u.length:=by rw [List.getElem?_eq_some_iff] at hv; exact hv.1
  exact qK h1 rfl (by rw [hcells j hj]; exact hv)
 ·exact HH h [repA E u x,a'] [[],F] (Keep.refl _ _) (fun b hb=> .inl (by simpa using hb)) (by simpa using hnd) fun M' hL _ _=>⟨⟨rfl,E.mono hL hu⟩,a'.mono (fun _ _=>rfl) hL hP,trivial⟩
theorem Inv.repS {vs:List Value} {x:List X} (I:Inv h (repA (rS E) vs x::A)): ∃ a c,vs=[.slice a x.length c]/\Inv h (roS E a x.length c x::A):=by obtain ⟨F,M,⟨hF,a,c,e,hs⟩,hFM,hn,hlt,H⟩:=I.turn;refine ⟨a,c,e,H h [roS E a x.length c x] [[]] (Keep.refl _ _) (by simp) (by simp) fun M' hL _ _=>⟨⟨rfl,rfl,hs.mono hL⟩,trivial⟩⟩
end Go.Pu
namespace Go.Pu
open Go Go.Wc
variable {X:Type} {E:Rp X} {h h':Hp} {M M':List Nat} {vs ws:List Value} {l m:List X} {A:List At} {a a2:Option Addr} {c c2 T:Nat} {a':At}
abbrev Bnd (n:Nat):Prop:=n<=4294967296
theorem pn (F G:List Nat):[F,G].flatten=F++G:=by simp
theorem PU {n:Nat} {i:Int} {x:X} {p:Addr} {K:Hp->Prop} (I:Inv h (repA E ws x::ownS E a n c l::A)) (e:EAdr a E.n i p) (hi:0<=i/\i<l.length)
  (k: ∀ h',Inv h' (ownS E a n c (l.set i.toNat x)::A)->K h'):stAll h p 0 ws K:=by
 obtain ⟨F,M,⟨F1,F2,eF,⟨e1,hw⟩,en,T,vs,h1,h2⟩,hFM,hn,hlt,H⟩:=I.sepI.turn;subst e1;obtain ⟨y,rfl,rfl⟩:=e;obtain ⟨g1,g2,g3⟩:=h1;obtain ⟨b,o,sp⟩:=y;obtain ⟨hf,hs,pre,post,z,hb,hp,hl,hz⟩:=g3;simp only at hs hb hp hf hz g1 hl; subst hs;have hin:i.toNat<l.length:=by omega
 have hm:(i.toNat+1)*E.n<=l.length*E.n:=Nat.mul_le_mul_right _ hin;have Pr:(i.toNat+1)*E.n=i.toNat*E.n+E.n:=by rw [Nat.add_mul,Nat.one_mul]
 have hwl:=E.len hw;have hcap:l.length*E.n<=c*E.n:=Nat.mul_le_mul_right _ g2;rw [dW];refine gy (T:=T) (z:=z) ws ((vs.drop (i.toNat*E.n)).take E.n) h (pre++vs.take (i.toNat*E.n)) (vs.drop ((i.toNat+1)*E.n)++post) 0 ?_ (by simp; omega) (by simp; omega) (by omega) (E.one hw) fun h' hb' k' hs'=> ?_
 ·rw [hb]
  congr 2;simp only [List.append_assoc];rw [Pr,<- List.drop_drop]
  conv=>lhs; rw [<- List.take_append_drop (i.toNat*E.n) vs,<- List.take_append_drop E.n (vs.drop (i.toNat*E.n))]
  simp only [List.append_assoc]
 ·have hF:F=[b]:=by rw [eF,hf]; rfl
  refine k h' (H h' [_] [[b]] (by rw [hF]; exact k') (fun b hb=> .inl (by rw [hF]; simpa using hb)) (by simp) fun M' hL _ _=>⟨⟨by rw [List.length_set]; exact en,T,_,⟨?_, ?_, ?_⟩,(h2.mono hL).set hin (E.mono hL hw)⟩,trivial⟩)
  ·have:=((h2.mono hL).set hin (E.mono hL hw)).len
   exact this
  ·simpa using g2
  ·refine ⟨rfl,rfl,pre,post,z, ?_,hp, ?_,hz⟩
   ·rw [hb']; simp only [List.append_assoc]
   ·simp only [List.length_append,List.length_take,List.length_drop,hwl]
    omega
theorem Inv.repSl {n:Nat} (I:Inv h (roS E a n c l::A)):Inv h (repA (rS E) [.slice a n c] l::A):=I.conv fun _ _ ⟨e,en,h⟩=>⟨e,a,c,by rw [en],h⟩
theorem wU {n b:Nat} (hl:Bnd n) (hb:b<=30000):(2*n+192)*b<=2 ^ 48:=by
 have:(2*n+192)*b<=(2*4294967296+192)*30000:=Nat.mul_le_mul (by unfold Bnd at hl; omega) hb;have e:(2:Nat) ^ 48=281474976710656:=by decide
 omega
theorem D3 {T' m bytes:Nat} {z:Value} {s:Sl} {n:Nat} {vs ws:List Value} {F:List Nat} {Q:Sl->Hp->Prop} (hO:Own h s T' m vs F) (hw:ws.length=n*m)
  (h1: ∀ v ∈ ws,v.oneCell'=true) (hz:z.cells.size=m) (hb:bytes ≠ 0) (hbd:(2*(s.len+n)+192)*bytes<=2 ^ 48)
  (k: ∀ s' h' F' T2,Own h' s' T2 m (vs++ws) F'->s'.len=s.len+n->Keep F h h'->(∀ b ∈ F',b ∈ F\/h.size<=b)->Q s' h'):apV T m bytes z h s n ws Q:=by
 have key:=ID (T:=T') (Q:=Q) hO hw h1 hz hb hbd fun s' h' F' hO' hl hk hF _=>k s' h' F' T' hO' hl hk hF;unfold apV at key |-
 by_cases hc:s.len+n<=s.cap
 ·rw [if_pos hc] at key |-; exact key
 ·rw [if_neg hc]
  refine ⟨hb, ?_,vs,hO.slv.cellsAt,fun c hcge=> ?_⟩
  ·exact Nat.le_trans (Nat.mul_le_mul_right _ (nextcap _ _ (by omega))) hbd
  ·have o1:=hO.1
   have hlen:(zeros z (c - (s.len+n))).length=c*m - (s.len+n)*m:=by rw [iY,hz,Nat.sub_mul]
   have hmul:(s.len+n)*m<=c*m:=Nat.mul_le_mul_right _ hcge;refine k _ _ [h.size] T ⟨by simp [o1,hw,Nat.add_mul],hcge,rfl,rfl,[],zeros z (c - (s.len+n)),(0,0),by simp,rfl, ?_, .inl (Nat.le_refl _)⟩ rfl (Keep.push _ _ _) (fun b hb=> .inr (by simp at hb; omega));simp only [List.length_append,hlen];rw [Nat.add_mul] at hmul |-
   omega
theorem D4 {bytes nl:Nat} {z:Value} {K:Sl->Hp->Prop} {n:Nat} (I:Inv h (ownS E a nl c l::a'::A)) (hn:n=m.length) (hm: ∀ {F M},a'.P h F M->Els E h M ws m) (hz:z.cells.size=E.n) (hb:bytes ≠ 0) (hbb:bytes<=30000) (hl:Bnd (l.length+m.length))
  (k: ∀ a1 c1 h',Inv h' (ownS E a1 (l++m).length c1 (l++m)::a'::A)->K ⟨a1,(l++m).length,c1⟩ h'):apV T E.n bytes z h ⟨a,nl,c⟩ n ws K:=by
 subst hn;obtain rfl:=fF I;obtain ⟨F,M,⟨F1,F2,eF,⟨_,T',vs,h1,h2⟩,h3⟩,hFM,hnd,hlt,H⟩:=I.sepI.turn;subst eF;have hels:=hm h3;refine D3 h1 (by rw [hels.len]) hels.one hz hb (wU hl hbb) fun s' h' F' T2 hO hl' hk hF'=> ?_;obtain ⟨a1,n1,c1⟩:=s';have hl':n1=l.length+m.length:=hl';rw [<- List.length_append] at hl';subst hl';obtain ⟨d1,d2,d3⟩:=List.nodup_append.1 hnd;have KT:=a'.lt h3
 have nd':F'.Nodup:=by
  cases a1 with
  | none=>obtain ⟨_,e⟩:=hO.2.2; rw [e]; simp
  | some x=>obtain ⟨e,_⟩:=hO.2.2; rw [e]; simp
 have hd': ∀ x ∈ F',∀ y ∈ F2,x ≠ y:=fun x hx y hy e=>by
  subst e;rcases hF' x hx with h5 | h5
  ·exact d3 x h5 x hy rfl
  ·have:=KT x hy; omega
 refine k a1 c1 h' (H h' [_,a'] [F',F2] (hk.mono fun b hb=> .inl (by simp [hb])) (fun b hb=> ?_) ?_ fun M' hL _ _=>⟨⟨rfl,T2,_,hO,(h2.mono hL).append (hels.mono hL)⟩,a'.mono (fun b hb=>hk.2 b (KT b hb) fun e=>d3 b e b hb rfl) hL h3,trivial⟩)
 ·rw [pn] at hb
  rcases List.mem_append.1 hb with hb | hb
  ·exact (hF' b hb).imp (fun h=>by simp [h]) id
  ·exact .inl (by simp [hb])
 ·rw [pn,List.nodup_append]
  exact ⟨nd',d2,hd'⟩
theorem Mg {bytes nl nm:Nat} {z:Value} {K:Sl->Hp->Prop} (hX:Rd E a' a2 nm c2 m) (I:Inv h (ownS E a nl c l::a'::A)) (hz:z.cells.size=E.n) (hb:bytes ≠ 0) (hbb:bytes<=30000) (hl:Bnd (l.length+m.length))
  (k: ∀ a1 c1 h',Inv h' (ownS E a1 (l++m).length c1 (l++m)::a'::A)->K ⟨a1,(l++m).length,c1⟩ h'):apW T E.n bytes z h ⟨a,nl,c⟩ ⟨a2,nm,c2⟩ K:=by
 obtain rfl:=fB hX I.swap;obtain ⟨F,M,h3⟩:=(I.swap).get;obtain ⟨_,ws,g1,g2,g3⟩:=hX h3;refine ⟨ws,g1.cellsAt,D4 I rfl (fun {F M} h3=> ?_) hz hb hbb hl k⟩;obtain ⟨_,ws',Pv,VJ,VK⟩:=hX h3;have:=qI g1.cellsAt Pv.cellsAt;exact this ▸ VK
def bts (s:ByteArray):List Int:=s.data.toList.map fun b=>(b.toNat:Int)
@[simp] theorem Mh (s:ByteArray):(bts s).length=s.size:=by simp [bts]
theorem PW {l:List Int} {bytes nl:Nat} {z:Value} {s:ByteArray} {K:Sl->Hp->Prop} (I:Inv h (ownS (rI .u8) a nl c l::A)) (hz:z.cells.size=1) (hb:bytes ≠ 0) (hbb:bytes<=30000) (hl:Bnd (l.length+(bts s).length))
  (k: ∀ a1 c1 h',Inv h' (ownS (rI .u8) a1 (l++bts s).length c1 (l++bts s)::A)->K ⟨a1,(l++bts s).length,c1⟩ h'):apT T 1 bytes z h ⟨a,nl,c⟩ s K:=
 D4 (E:=rI .u8) (m:=bts s) (a':=emp) I.dV.swap (by simp) (fun _=>pg.2 (by simp [byteVals,bts])) hz hb hbb hl fun a1 c1 h' I=>k a1 c1 h' I.swap.dn
theorem jZ (z:Value) (n:Nat):zeros z n=(List.replicate n z.cells.toList).flatten:=rfl
theorem PX {bytes nl:Nat} {z:Value} {z0:X} {n:Int} {K:Sl->Hp->Prop} (I:Inv h (ownS E a nl c l::A)) (hz: ∀ h M,E.P h M z.cells.toList z0) (hb:bytes ≠ 0) (hbb:bytes<=30000) (h0:0<=n) (hl:Bnd (l.length+n.toNat))
  (k: ∀ a1 c1 h',Inv h' (ownS E a1 (l++List.replicate n.toNat z0).length c1 (l++List.replicate n.toNat z0)::A)->K ⟨a1,(l++List.replicate n.toNat z0).length,c1⟩ h'):apZ T E.n bytes z h ⟨a,nl,c⟩ n K:=by
 obtain rfl:=fF I;have e1:(2:Nat) ^ 48=281474976710656:=by decide
 have e2:IntKind.i64.max=9223372036854775807:=by decide
 unfold Bnd at hl;refine ⟨h0, ?_,by rw [e2]; simp only; omega, ?_⟩
 ·obtain ⟨j,rfl⟩:=Int.eq_ofNat_of_zero_le h0
  have:j*bytes<=4294967296*30000:=Nat.mul_le_mul (by simp at hl; omega) hbb;have e3:(2:Int) ^ 48=281474976710656:=by decide
  rw [e3];have:((j*bytes:Nat):Int)<=281474976710656:=by omega
  simpa using this
 ·refine D4 (m:=List.replicate n.toNat z0) (a':=emp) I.dV.swap (by simp) (fun _=>by rw [jZ]; exact Els.repl (hz _ _) _) (by have:=E.len (hz h []); simpa using this) hb hbb (by simpa using hl) fun a1 c1 h' I=>k a1 c1 h' I.swap.dn
theorem Wb {bytes:Nat} {z:Value} {z0:X} {n:Int} {K:Sl->Hp->Prop} (I:Inv h A) (hz: ∀ h M,E.P h M z.cells.toList z0) (hbb:bytes<=30000) (hn:0<=n/\n<=4294967296)
  (k: ∀ a1 c1 h',Inv h' (ownS E a1 (List.replicate n.toNat z0).length c1 (List.replicate n.toNat z0)::A)->K ⟨a1,(List.replicate n.toNat z0).length,c1⟩ h'):mkW T E.n bytes z h n n K:=by
 obtain ⟨j,rfl⟩:=Int.eq_ofNat_of_zero_le hn.1;have e2:IntKind.i64.max=9223372036854775807:=by decide
 have e3:(2:Int) ^ 48=281474976710656:=by decide
 refine ⟨⟨hn.1,Int.le_refl _, ?_⟩,by rw [e2]; omega, ?_⟩
 ·have:j*bytes<=4294967296*30000:=Nat.mul_le_mul (by omega) hbb
  rw [e3];have:((j*bytes:Nat):Int)<=281474976710656:=by omega
  simpa using this
 ·have:=k (some ⟨h.size,0,none⟩) j (h.push (.cells (zeros z j).toArray T (0,0))) ?_
  ·simpa using this
  ·obtain ⟨F,M,hF,_,_,_,H⟩:=I.dV.turn
   have hF:F=[]:=hF;subst hF;have hl:=E.len (hz h [])
   refine H _ [_] [[h.size]] (Keep.push _ _ _) (fun b hb=> .inr (by simp at hb; omega)) (by simp) fun M' _ _ _=>⟨⟨by simp,T,zeros z j, ?_,by rw [jZ]; exact Els.repl (hz _ _) _⟩,trivial⟩
   have hzl:(zeros z j).length=j*E.n:=by rw [iY,<- hl]; simp
   have:=vm (h:=h) (T:=T) (m:=E.n) (n:=j) hzl;simpa using this
def sub (l:List X) (lo hi:Int):List X:=(l.take hi.toNat).drop lo.toNat
abbrev SlOk (l:List X) (lo hi:Int):Prop:=0<=lo/\lo<=hi/\hi<=l.length
theorem cg {l:List X} {lo hi:Int} (H:SlOk l lo hi):(sub l lo hi).length=hi.toNat - lo.toNat:=by unfold sub; simp; obtain ⟨h0,h1,h2⟩:=H; omega
abbrev resl (a:Option Addr) (c n:Nat) (lo:Int):Option Addr:=if c=lo.toNat then a else a.map (·.add (lo.toNat*n))
theorem CG (x:Addr) (n:Nat):(x.add n).block=x.block:=by unfold Addr.add; split <;> rfl
theorem zI {n:Nat} {lo:Int} {x:Addr} (h:resl a c n lo=some x): ∃ y,a=some y/\y.block=x.block:=by
 unfold resl at h;split at h
 ·exact ⟨x,h,rfl⟩
 ·cases a with
  | none=>cases h
  | some y=>simp at h; subst h; exact ⟨y,rfl,(CG _ _).symm⟩
theorem Bt {n len:Nat} {lo hi:Int} (H:SlV h ⟨a,len,c⟩ n vs) (h0:0<=lo) (h1:lo<=hi) (h2:hi<=len) (hc:len<=c):
  SlV h ⟨resl a c n lo,hi.toNat - lo.toNat,c - lo.toNat⟩ n ((vs.take (hi.toNat*n)).drop (lo.toNat*n))/\hi.toNat - lo.toNat<=c - lo.toNat:=by
 have key:=IE (K:=fun s=>s=⟨resl a c n lo,hi.toNat - lo.toNat,c - lo.toNat⟩->SlV h s n ((vs.take (hi.toNat*n)).drop (lo.toNat*n))/\s.len<=s.cap) H h0 h1 h2 hc (fun s hs _ hc _ _ e=>⟨hs,hc⟩);exact key.2.2 rfl
theorem Bu {lo hi:Int} (H:SlE E h M a c l) (hb:SlOk l lo hi):SlE E h M (resl a c E.n lo) (c - lo.toNat) (sub l lo hi):=by obtain ⟨vs,g1,g2,g3,g4⟩:=H;obtain ⟨h0,h1,h2⟩:=hb;obtain ⟨k1,k2⟩:=Bt g1 h0 h1 h2 g2;have hsl:=cg (l:=l) ⟨h0,h1,h2⟩;refine ⟨_,by rw [hsl]; exact k1,by rw [hsl]; exact k2,fun hne x hx=> ?_,g4.sub (by omega) (by omega)⟩;obtain ⟨y,hy,e⟩:=zI hx;rw [<- e];exact g3 (by rintro rfl; simp at hne) y hy
theorem IG {lo hi:Int} {n:Nat} {K:Sl->Prop} (H:SlOk l lo hi) (hc:l.length<=c) (k:K ⟨resl a c n lo,(sub l lo hi).length,c - lo.toNat⟩):slW ⟨a,l.length,c⟩ lo hi n K:=by have hsl:=cg H;obtain ⟨h0,h1,h2⟩:=H;exact ⟨⟨by omega,by simp only; omega⟩,⟨h0,h1⟩,by rw [<- hsl]; exact k⟩
def cpL (l m:List X):List X:=m.take l.length++l.drop m.length
theorem mE (l m:List X):(cpL l m).length=l.length:=by unfold cpL; simp; omega
theorem tY {s:Sl} {n:Nat} {F:List Nat} {K:Hp->Prop} {us:List Value} (H:Own h s T n us F) (hw:ws.length<=us.length) (ho: ∀ v ∈ ws,v.oneCell'=true)
    (k: ∀ h',Own h' s T n (ws++us.drop ws.length) F->Keep F h h'->K h'):(match s.a with | some a=>stAll h a 0 ws K | none=>K h):=by
  have H0:=H;obtain ⟨g1,g2,g3⟩:=H
  cases ha:s.a with
  | none=>
    rw [ha] at g3
    have : us = [] := List.length_eq_zero_iff.1 (by rw [g1]; have : s.len = 0 := by omega
                                                    rw [this]; simp)
    subst this;obtain rfl:ws=[]:=List.length_eq_zero_iff.1 (by simpa using hw)
    exact k h (by simpa using H0) (Keep.refl _ _)
  | some y=>
    rw [ha] at g3;obtain ⟨b,o,sp⟩:=y;obtain ⟨hf,hs,pre,post,z,hb,hp,hl,hz⟩:=g3;simp only at hs hb hp hf hz hl; subst hs;have hcap:s.len*n<=s.cap*n:=Nat.mul_le_mul_right _ g2;refine gy (T:=T) (z:=z) ws (us.take ws.length) h pre (us.drop ws.length++post) 0 ?_ (by simp; omega) (by omega) (by omega) ho fun h' hb' k' hs'=> ?_
    . rw [hb]; congr 2
      conv=>lhs; rw [<- List.take_append_drop ws.length us]
      simp only [List.append_assoc]
    . refine k h' ⟨by simp; omega,g2, ?_⟩ (by rw [hf]; exact k');rw [ha];exact ⟨hf,rfl,pre,post,z,by rw [hb']; simp only [List.append_assoc],hp,by simp; omega,hz⟩
theorem We {nl nm:Nat} {K:Int->Hp->Prop} (hX:Rd E a' a2 nm c2 m) (I:Inv h (ownS E a nl c l::a'::A)) (k: ∀ h',Inv h' (ownS E a nl c (cpL l m)::a'::A)->K (min nm nl:Nat) h'):
  cpW E.n h ⟨a,nl,c⟩ ⟨a2,nm,c2⟩ K:=by
 obtain rfl:=fB hX I.swap;obtain rfl:=fF I;obtain ⟨F,M,⟨F1,F2,eF,⟨_,T',vs,h1,h2⟩,h3⟩,hFM,hnd,hlt,H⟩:=I.sepI.turn;subst eF;obtain ⟨_,ws,g1,g2,g3⟩:=hX h3;have hwl:=g3.len;have hvl:=h2.len;have hmin:min m.length l.length*E.n<=ws.length:=by rw [hwl]; exact Nat.mul_le_mul_right _ (Nat.min_le_left _ _)
 have ael:min m.length l.length*E.n<=vs.length:=by rw [hvl]; exact Nat.mul_le_mul_right _ (Nat.min_le_right _ _)
 refine ⟨ws.take (min m.length l.length*E.n), ?_, ?_⟩
 ·have:=(g1.take (i:=min m.length l.length) (Nat.min_le_left _ _) c2).cellsAt
  exact this
 ·have key:=tY (K:=fun h'=>K (min m.length l.length:Nat) h') (ws:=ws.take (min m.length l.length*E.n)) h1 (by rw [List.length_take]; omega) (fun v hv=>g3.one v (List.mem_of_mem_take hv)) fun h' hO hk=> ?_
  ·exact key
  ·obtain ⟨d1,d2,d3⟩:=List.nodup_append.1 hnd
   have KT:=a'.lt h3;have el:(cpL l m).length=l.length:=mE l m;refine k h' (H h' [_,a'] [F1,F2] (hk.mono fun b hb=> .inl (by simp [hb])) (fun b hb=> .inl (by rw [pn] at hb; exact hb)) (by rw [pn]; exact hnd) fun M' hL _ _=>⟨⟨el.symm,T',_,by rw [el]; exact hO, ?_⟩,a'.mono (fun b hb=>hk.2 b (KT b hb) fun e=>d3 b e b hb rfl) hL h3,trivial⟩);have hlt:(ws.take (min m.length l.length*E.n)).length=min m.length l.length*E.n:=by rw [List.length_take]; omega
   rw [hlt];have e1:m.take l.length=m.take (min m.length l.length):=by rw [List.take_eq_take_iff]; omega
   have e2:l.drop m.length=l.drop (min m.length l.length):=by
    rcases Nat.le_total m.length l.length with h | h
    ·rw [Nat.min_eq_left h]
    ·rw [Nat.min_eq_right h,List.drop_eq_nil_of_le h,List.drop_eq_nil_of_le (Nat.le_refl _)]
   unfold cpL;rw [e1,e2];exact ((g3.take_drop _ (Nat.min_le_left _ _)).1.mono hL).append ((h2.take_drop _ (Nat.min_le_right _ _)).2.mono hL)
theorem Wf {nl:Nat} {z:Value} {z0:X} {K:Hp->Prop} (I:Inv h (ownS E a nl c l::A)) (hz: ∀ h M,E.P h M z.cells.toList z0) (k: ∀ h',Inv h' (ownS E a nl c (List.replicate nl z0)::A)->K h'):
  clW z h ⟨a,nl,c⟩ K:=by
 obtain rfl:=fF I;obtain ⟨F,M,⟨_,T,vs,h1,h2⟩,hFM,hnd,hlt,H⟩:=I.turn;have hvl:=h2.len;have hE:=E.len (hz h M);have hzl:(zeros z l.length).length=l.length*E.n:=by rw [iY,<- hE]; simp
 have hrep: ∀ M',Els E h M' (zeros z l.length) (List.replicate l.length z0):=fun M'=>by rw [jZ]; exact Els.repl (hz _ _) _
 have key:=tY (K:=K) (ws:=zeros z l.length) h1 (by omega) (hrep M).one fun h' hO hk=> ?_
 ·unfold clW
  cases a with
  | none=>exact key
  | some x=>exact key
 ·refine k h' (H h' [_] [F] hk (fun b hb=> .inl (by simpa using hb)) (by simpa using hnd) fun M' hL _ _=>⟨⟨by simp,T,zeros z l.length, ?_,by rw [jZ]; exact Els.repl (hz _ _) _⟩,trivial⟩)
  rw [List.drop_eq_nil_of_le (by omega),List.append_nil] at hO;simpa using hO
end Go.Pu
namespace Go.Pu
open Go Go.Wc
structure Ky (κ:Type) [DecidableEq κ] where
 kd:Kd
 enc:κ->Value
 same: ∀ a b,sameK kd (enc a) (enc b)=some (decide (a=b))
@[reducible] def kI (k:IntKind):Ky Int:=⟨.int k,fun n=> .int k n,fun a b=>by
 simp only [sameK,if_true]
 by_cases h:a=b
 ·subst h; simp
 ·simp [h]⟩
variable {κ V X:Type} [DecidableEq κ] {Kx:Ky κ} {E:Rp V} {h h':Hp} {M M':List Nat} {A:List At} {a a':At} {agg:Bool}
def look:List (κ × V)->κ->Option V
 | [],_=>none
 | (k',v')::L,k=>if k=k' then some v' else look L k
@[reducible] def vOf (agg:Bool) (vs:List Value):Value:=match agg with
 | true=> .agg vs.toArray
 | false=>vs.headD undef
def entR (Kx:Ky κ) (E:Rp V) (agg:Bool) (h:Hp) (M:List Nat) (e:MapEntry) (p:κ × V):Prop:=e.key=Kx.enc p.1/\ ∃ vs,e.val=vOf agg vs/\E.P h M vs p.2
theorem entR.mono {e:MapEntry} {p:κ × V} (hL:Le h M h' M'):entR Kx E agg h M e p->entR Kx E agg h' M' e p:=fun ⟨h1,vs,h2,h3⟩=>⟨h1,vs,h2,E.mono hL h3⟩
def mapX (Kx:Ky κ) (E:Rp V) (agg:Bool) (m:Option Nat) (o:Option (Array MapEntry × Nat)) (L:Option (List (κ × V))):At:=
 ⟨fun h F M=>match m,o,L with
   | none,none,none=>F=[]
   | some r,some (es,ck),some L=>F=[r]/\h[r]? =some (.map es ck)/\dA (entR Kx E agg h M) es.toList L/\MapKept.Stamped es ck
   | _,_,_=>False,
  by
   intro h F M h' M' hk hL H;split at H
   ·exact H
   ·obtain ⟨h1,h2,h3,h4⟩:=H
    exact ⟨h1,by rw [hk _ (by rw [h1]; simp),h2],h3.mono fun _ _=>entR.mono hL,h4⟩
   ·exact H,
  by
   intro h F M H b hb;split at H
   ·subst H; cases hb
   ·obtain ⟨h1,h2,h3⟩:=H
    subst h1; simp at hb; subst hb; exact dc h2
   ·exact H.elim⟩
theorem Inv.nilM (Kx:Ky κ) (E:Rp V) (agg:Bool) (I:Inv h A):Inv h (mapX Kx E agg none none none::A):=I.addP fun M _=>rfl
theorem PY {K:Nat->Hp->Prop} (Kx:Ky κ) (E:Rp V) (agg:Bool) (I:Inv h A) (k: ∀ r h' o,Inv h' (mapX Kx E agg (some r) o (some [])::A)->K r h'):amW h K:=by
 refine k _ _ (some (#[],0)) ?_;obtain ⟨F,M,hF,_,_,_,H⟩:=I.dV.turn;have hF:F=[]:=hF;subst hF
 exact H _ [_] [[h.size]] (Keep.push _ _ _) (fun b hb=> .inr (by simp at hb; omega)) (by simp) fun M' _ _ _=>⟨⟨rfl,wS _ _, .nil,MapKept.stamped_empty _⟩,trivial⟩
theorem wV {α β:Type} {S:α->β->Prop} {l:List α} {m:List β} {l2:List α} {m2:List β} (H:dA S l m) (H2:dA S l2 m2):dA S (l++l2) (m++m2):=by
 induction H with
 | nil=>exact H2
 | cons h1 _ ih=>exact .cons h1 ih
theorem D5 {α β:Type} {S:α->β->Prop} {l:List α} {m:List β} (H:dA S l m):l.length=m.length:=by
 induction H with
 | nil=>rfl
 | cons h1 h2 ih=>simp [ih]
theorem Wg {m:Option Nat} {o:Option (Array MapEntry × Nat)} {L:Option (List (κ × V))} {K:(Hp->Prop)->Int->Prop}
  (I:Inv h (mapX Kx E agg m o L::A)) (k: ∀ f,(∀ {h' A'},Inv h' (mapX Kx E agg m o L::A')->f h')->K f ((L.getD []).length:Nat)):lnM h m K:=by
 obtain ⟨F,M,hm⟩:=I.get
 match m,o,L,I,hm,k with
 | none,none,none,I,hm,k=>exact k _ fun _=>trivial
 | some r,some (es,ck),some L,I,hm,k=>
  obtain ⟨h1,h2,h3,_⟩:=hm;have e:es.size=L.length:=by have:=D5 h3; simpa using this
  refine ⟨es,ck,h2, ?_⟩;rw [e];refine k _ fun {h' A'} J=> ?_;obtain ⟨_,_,_,j1,_⟩:=J.get
  exact ⟨es,ck,j1,e⟩
 | none,none,some _,_,hm,_=>exact (hm:False).elim
 | none,some _,none,_,hm,_=>exact (hm:False).elim
 | none,some _,some _,_,hm,_=>exact (hm:False).elim
 | some _,none,none,_,hm,_=>exact (hm:False).elim
 | some _,none,some _,_,hm,_=>exact (hm:False).elim
 | some _,some _,none,_,hm,_=>exact (hm:False).elim
def bigA (As:List At):At:=
 ⟨fun h F M=> ∃ Fs:List (List Nat),F=Fs.flatten/\Fits h M As Fs,by
  rintro h F M h' M' hk hL ⟨Fs,rfl,H⟩
  exact ⟨Fs,rfl,H.mono hL hk⟩,by
  rintro h F M ⟨Fs,rfl,H⟩
  exact H.lt⟩
theorem Inv.bigE {As:List At} (I:Inv h (bigA As::A)):Inv h (As++A):=by
 obtain ⟨Fs,hf,hn⟩:=I
 match Fs,hf,hn with
 | F::Fs,hf,hn=>
  obtain ⟨⟨Gs,rfl,h1⟩,h2⟩:=hf;have e:(Gs++Fs).flatten=(Gs.flatten::Fs).flatten:=by simp
  exact ⟨Gs++Fs,by rw [e]; exact h1.append h2,by rw [e]; exact hn⟩
theorem Inv.bigI {As:List At} (I:Inv h (As++A)):Inv h (bigA As::A):=by
 obtain ⟨Fs,hf,hn⟩:=I;obtain ⟨Gs,Hs,rfl,h1,h2⟩:=hf.split;have e:(Gs++Hs).flatten=(Gs.flatten::Hs).flatten:=by simp
 exact ⟨Gs.flatten::Hs,⟨⟨Gs,rfl,e ▸ h1⟩,e ▸ h2⟩,e ▸ hn⟩
theorem Inv.mid: ∀ {X:List At} {Y:List At},Inv h (X++a::Y)->Inv h (a::(X++Y))
 | [],Y,I=>I
 | x::X,Y,I=>(I.under (B:=a::(X++Y)) fun J=>by
   have J:Inv h (X++a::(Y++[x])):=by simpa using J
   have:=Inv.mid J
   simpa using this).swap
theorem Inv.mid': ∀ {X:List At} {Y:List At},Inv h (a::(X++Y))->Inv h (X++a::Y)
 | [],Y,I=>I
 | x::X,Y,I=>(Inv.swap I).under fun J=>by
   have J:Inv h (a::(X++(Y++[x]))):=by simpa using J
   have:=Inv.mid' J;simpa using this
abbrev St (O:Type):=Addr->Option O
def sset {O:Type} (σ:St O) (p:Addr) (o:O):St O:=fun q=>if q=p then some o else σ q
def sdel {O:Type} (σ:St O) (p:Addr):St O:=fun q=>if q=p then none else σ q
variable {O:Type}
@[simp] theorem Pw (σ:St O) (p:Addr) (o:O):sset σ p o p=some o:=by simp [sset]
@[simp] theorem Px (σ:St O) (p:Addr) (o o':O):sset (sset σ p o) p o'=sset σ p o':=by funext q; simp only [sset]; split <;> rfl
@[simp] theorem CH (σ:St O) (p:Addr) (o:O):sset (sdel σ p) p o=sset σ p o:=by funext q; simp only [sset,sdel]; split <;> rfl
theorem II {σ:St O} {p:Addr} {o:O} (h:σ p=some o):sset σ p o=σ:=by
 funext q; simp only [sset];split
 ·rename_i e; subst e; exact h.symm
 ·rfl
class Heads (rep:O->Addr->At):Prop where
 head: ∀ {o p h F M},(rep o p).P h F M->p.block ∈ F/\p.off=0/\p.spot=none
def hpA (rep:O->Addr->At) (σ:St O):At:=
 exA fun l:List (Addr × O)=>factA ((l.map (·.1)).Nodup/\ ∀ q,σ q=look l q) (bigA (l.map fun p=>rep p.2 p.1))
variable {rep:O->Addr->At} {σ:St O} {p:Addr} {o:O}
theorem KV {l:List (Addr × O)} (hn:(l.map (·.1)).Nodup) (hl: ∀ q,σ q=look l q) (I:Inv h (bigA (l.map fun p=>rep p.2 p.1)::A)):Inv h (hpA rep σ::A):=
 Inv.exI (f:=fun l:List (Addr × O)=>factA ((l.map (·.1)).Nodup/\ ∀ q,σ q=look l q) (bigA (l.map fun p=>rep p.2 p.1))) l (I.factI ⟨hn,hl⟩)
theorem zJ {L:List (κ × V)} {k:κ} {v:V} (h:look L k=some v): ∃ X Y,L=X++(k,v)::Y/\k ∉ X.map (·.1):=by
 induction L with
 | nil=>simp [look] at h
 | cons q L ih=>
  obtain ⟨k',v'⟩:=q;simp only [look] at h;split at h
  ·rename_i e; subst e; cases h; exact ⟨[],L,rfl,by simp⟩
  ·rename_i e
   obtain ⟨X,Y,rfl,hX⟩:=ih h;exact ⟨(k',v')::X,Y,rfl,by simp only [List.map_cons,List.mem_cons,not_or]; exact ⟨e,hX⟩⟩
theorem tZ {L:List (κ × V)} {k:κ}:look L k=none↔k ∉ L.map (·.1):=by
 induction L with
 | nil=>simp [look]
 | cons q L ih=>
  obtain ⟨k',v'⟩:=q;simp only [look,List.map_cons,List.mem_cons,not_or];split
  ·rename_i e; simp [e]
  ·rename_i e; rw [ih]; exact ⟨fun h=>⟨e,h⟩,fun h=>h.2⟩
theorem pq (X Y:List (κ × V)) (k:κ):look (X++Y) k=(look X k).or (look Y k):=by
 induction X with
 | nil=>simp [look]
 | cons q X ih=>
  obtain ⟨k',v'⟩:=q;simp only [List.cons_append,look];split
  ·rfl
  ·exact ih
theorem Inv.take (I:Inv h (hpA rep σ::A)) (e:σ p=some o):Inv h (rep o p::hpA rep (sdel σ p)::A):=by
 obtain ⟨l,I⟩:=I.exE;obtain ⟨⟨hn,hl⟩,I⟩:=I.factE;have I:=I.bigE;rw [hl] at e;obtain ⟨X,Y,rfl,hX⟩:=zJ e;have I:Inv h (X.map (fun p=>rep p.2 p.1)++rep o p::(Y.map (fun p=>rep p.2 p.1)++A)):=by simpa using I
 have I:=I.mid;rw [List.map_append,List.map_cons,List.nodup_append] at hn;obtain ⟨n1,n2,n3⟩:=hn;simp only [List.nodup_cons] at n2;refine I.under fun J=> ?_;have J:=Inv.bigI (As:=(X++Y).map fun p=>rep p.2 p.1) (A:=A++[rep o p]) (by simpa using J);refine KV (l:=X++Y) ?_ (fun q=> ?_) J
 ·rw [List.map_append,List.nodup_append]
  exact ⟨n1,n2.2,fun x hx y hy=>n3 x hx y (List.mem_cons_of_mem _ hy)⟩
 ·unfold sdel
  split
  ·rename_i e2; subst e2
   rw [eq_comm,tZ,List.map_append,List.mem_append,not_or];exact ⟨hX,n2.1⟩
  ·rename_i e2
   rw [hl,pq,pq];simp only [look,e2,if_false]
theorem Inv.put (I:Inv h (rep o p::hpA rep σ::A)) (e:σ p=none):Inv h (hpA rep (sset σ p o)::A):=by
 obtain ⟨l,I⟩:=I.swap.exE;obtain ⟨⟨hn,hl⟩,I⟩:=I.factE;have I:=I.swap;have I:Inv h (rep o p::(l.map (fun p=>rep p.2 p.1)++A)):=I.under fun J=>by have:=J.bigE; simpa using this
 have hpl:p ∉ l.map (·.1):=by rw [<- tZ,<- hl,e]
 refine KV (l:=(p,o)::l) (by simp only [List.map_cons,List.nodup_cons]; exact ⟨hpl,hn⟩) (fun q=> ?_) (Inv.bigI (As:=((p,o)::l).map fun p=>rep p.2 p.1) I);unfold sset;simp only [look];split
 ·rfl
 ·exact hl q
theorem Inv.putB (I:Inv h (rep o p::hpA rep (sdel σ p)::A)):Inv h (hpA rep (sset σ p o)::A):=by
 have:=I.put (by simp [sdel])
 rwa [CH] at this
theorem Inv.putS (e:σ p=some o) (I:Inv h (rep o p::hpA rep (sdel σ p)::A)):Inv h (hpA rep σ::A):=by
 have:=I.putB
 rwa [II e] at this
def leA (h0:Hp) (M0:List Nat):At:=
 ⟨fun h F M=>F=[]/\Le h0 M0 h M,fun _ hL ⟨e,h⟩=>⟨e,h.trans hL⟩,fun ⟨e,_⟩ b hb=>by subst e; cases hb⟩
theorem IJ {h0:Hp} (I:Inv h (leA h0 []::A)):Keep [] h0 h:=by obtain ⟨F,M,_,hL⟩:=I.get;exact hL.1
def Lf {α:Type} (Φ:(α->Prop)->α->Prop) (v:α):Prop:= ∀ R:α->Prop,(∀ v,(∃ S:α->Prop,(∀ v,S v->R v)/\Φ S v)->R v)->R v
theorem Lf.fold {α:Type} {Φ:(α->Prop)->α->Prop} {v:α} (H:Φ (Lf Φ) v):Lf Φ v:=fun R hR=>hR v ⟨_,fun v' h'=>h' R hR,H⟩
theorem Lf.ind {α:Type} {Φ:(α->Prop)->α->Prop} {v:α} (H:Lf Φ v) (R:α->Prop) (step: ∀ v S,(∀ v,S v->R v)->Φ S v->R v):R v:=
 H R fun v ⟨S,h1,h2⟩=>step v S h1 h2
end Go.Pu
