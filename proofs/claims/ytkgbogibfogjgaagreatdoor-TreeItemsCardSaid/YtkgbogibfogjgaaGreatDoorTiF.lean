import Derived.Test.YtkgbogibfogjgaaGreatDoorTiE
import Derived.RangeFuncLeaves
import Derived.RangeFuncRecord
import Derived.RangeFuncIn
set_option linter.unusedVariables false
set_option linter.unusedSimpArgs false
set_option maxHeartbeats 4000000
set_option maxRecDepth 100000
namespace Go.Ex
open Go Go.Wc Go.Pu
variable {D:Tabs} {X:At} {pr:List Nat} {args:List Value} {ν:Nu} {h h':Hp} {ω:List Gm} {H H':SH D} {τ:Tys} {ty:Nat->Option Ty} {C:Ctrs D} {Γ:EnvS D} {Γr:Env} {n:Nat} {P:Program} {A:List At}
def oAt (b:Nat) (ob:Obj):At where
 P:=fun h F _=>F=[b]/\h[b]? =some ob
 mono:=fun {h F M h' M'} hF _ ⟨e,hb⟩=>⟨e,by rw [hF b (by subst e; simp)]; exact hb⟩
 lt:=fun {h F M} ⟨e,hb⟩ c hc=>by subst e;simp only [List.mem_singleton] at hc;subst hc;exact (Array.getElem?_eq_some_iff.1 hb).1
theorem Inv.two (I:Inv h A) (o1 o2:Obj):Inv ((h.push o1).push o2) (oAt h.size o1::oAt (h.size+1) o2::A):=by
 obtain ⟨Fs,hf,hn⟩:=I;have hlt:=Pu.Fits.lt hf
 have hk: ∀ b,b<h.size->((h.push o1).push o2)[b]? =h[b]? :=fun b hb=>by rw [Array.getElem?_push_lt (by simp; omega),<- Array.getElem?_eq_getElem,Array.getElem?_push_lt hb,<- Array.getElem?_eq_getElem]
 refine ⟨[h.size]::[h.size+1]::Fs,⟨⟨rfl, ?_⟩,⟨rfl, ?_⟩, ?_⟩, ?_⟩
 ·rw [Array.getElem?_push_lt (by simp),<- Array.getElem?_eq_getElem]; simp
 ·have e:h.size+1=(h.push o1).size:=by simp
  rw [e]; exact Array.getElem?_push_size
 ·refine Pu.Fits.mono (h:=h) (M:=Fs.flatten) ⟨⟨by simp; omega,fun b hb _=>hk b hb⟩,fun b hb=> ?_⟩ (fun b hb=>hk b (hlt b hb)) hf
  simp only [List.flatten_cons,List.mem_append,List.mem_singleton] at hb;rcases hb with rfl | rfl | hb
  ·exact .inr (Nat.le_refl _)
  ·exact .inr (Nat.le_succ _)
  ·exact .inl hb
 ·simp only [List.flatten_cons,List.cons_append,List.nil_append,List.nodup_cons,List.mem_cons]
  refine ⟨fun e=>e.elim (fun e=>by omega) fun e=> ?_,fun e=> ?_,hn⟩
  ·have:=hlt _ e; omega
  ·have:=hlt _ e; omega
theorem Inv.turnO {L:Nat} {ob ob':Obj} (I:Inv h (oAt L ob::A)) (hk: ∀ b,b ≠ L->h'[b]? =h[b]?) (hs:h.size<=h'.size) (hL:h'[L]? =some ob'):Inv h' (oAt L ob'::A):=by
 obtain ⟨F,M,h1,h3,h4,_,h5⟩:=I.turn;obtain ⟨rfl,h2⟩:=h1
 exact h5 h' [oAt L ob'] [[L]] ⟨hs,fun b _ hb=>hk b (by simpa using hb)⟩ (fun b hb=> .inl (by simpa using hb)) (by simp) fun M' hL' _ hM'=>⟨⟨rfl,hL⟩,trivial⟩
def X2 (X:At) (m:Nat × Nat × Obj):At:=bigA [X,oAt m.1 (.deferred (some [])),oAt m.2.1 m.2.2]
abbrev nrdL:List (SO D × Nat)->Bool
 | []=>true
 | (o,_)::r=>(match o with
  | .rd _ _=>false
  | _=>true) && nrdL r
theorem n8 {X':At}: ∀ (l:List (SO D × Nat)) (xs:List Nm) (gs:List Gm),nrdL l=true->ImpL (semL D X ν l xs gs) (semL D X' ν l xs gs)
 | (o,_)::r,x::xs,g::gs,hn=>by
  simp only [nrdL,Bool.and_eq_true] at hn;refine ⟨fun h F M H=> ?_,n8 r xs gs hn.2⟩
  cases o with
  | rd t l=>simp at hn
  | _=>exact H
 | [],_,_,_=>trivial
 | _::_,[],_,_=>trivial
 | _::_,_::_,[],_=>trivial
theorem HR.enter (hn:nrdL H.at_=true) (R:HR X ν ω H h []) (o1 o2:Obj) (e1:o1= .deferred (some [])):HR (X2 X (h.size,h.size+1,o2)) ν ω H ((h.push o1).push o2) []:=by
 refine ⟨R.l1,R.l2, ?_⟩;have I:=Inv.two R.inv o1 o2;rw [List.append_nil] at I |-
 subst e1;have I2:Inv ((h.push (.deferred (some []))).push o2) ([X,oAt h.size (.deferred (some [])),oAt (h.size+1) o2]++(sgA D H.sg::semL D X ν H.at_ ν ω)):=I.bV;refine Inv.imp ?_ (Inv.bigI I2);refine ⟨fun _ _ _ h=>h,fun _ _ _ h=>h,n8 _ _ _ hn⟩
theorem HR.loopAt (hn:nrdL H.at_=true) {m:Nat × Nat × Obj} (R:HR (X2 X m) ν ω H h []):h[m.2.1]? =some m.2.2/\ ∀ h' ob',(∀ b,b ≠ m.2.1->h'[b]? =h[b]?)->h.size<=h'.size->h'[m.2.1]? =some ob'->HR (X2 X (m.1,m.2.1,ob')) ν ω H h' []:=by
 have I:=Inv.bigE R.inv;have I2:Inv h (oAt m.2.1 m.2.2::X::oAt m.1 (.deferred (some []))::(sgA D H.sg::semL D (X2 X m) ν H.at_ ν ω++[])):=I.bV;obtain ⟨F,M,hP⟩:=I2.get;refine ⟨hP.2,fun h' ob' hk hs hL=>⟨R.l1,R.l2, ?_⟩⟩;have I3:=Inv.turnO I2 hk hs hL
 have I4:Inv h' ([X,oAt m.1 (.deferred (some [])),oAt m.2.1 ob']++(sgA D H.sg::semL D (X2 X m) ν H.at_ ν ω++[])):=by
  have p:(oAt m.2.1 ob'::X::oAt m.1 (.deferred (some []))::(sgA D H.sg::semL D (X2 X m) ν H.at_ ν ω++[])).Perm ([X,oAt m.1 (.deferred (some [])),oAt m.2.1 ob']++(sgA D H.sg::semL D (X2 X m) ν H.at_ ν ω++[])):=
   (List.Perm.swap _ _ _).trans ((List.Perm.swap _ _ _).cons _)
  exact Inv.prm p I3
 refine Inv.imp ?_ (Inv.bigI I4);rw [List.append_nil,List.append_nil];exact ⟨fun _ _ _ h=>h,fun _ _ _ h=>h,n8 _ _ _ hn⟩
theorem HR.leave (hn:nrdL H.at_=true) {m:Nat × Nat × Obj} (R:HR (X2 X m) ν ω H h []):h[m.1]? =some (.deferred (some []))/\ ∀ h',(∀ b,b ≠ m.1->h'[b]? =h[b]?)->h.size<=h'.size->HR X ν ω H h' []:=by have I:=Inv.bigE R.inv;have I2:Inv h (oAt m.1 (.deferred (some []))::X::oAt m.2.1 m.2.2::(sgA D H.sg::semL D (X2 X m) ν H.at_ ν ω++[])):=I.cz;obtain ⟨F,M,hP⟩:=I2.get;refine ⟨hP.2,fun h' hk hs=>⟨R.l1,R.l2, ?_⟩⟩;obtain ⟨F,M,h1,h3,h4,_,h5⟩:=I2.turn;obtain ⟨rfl,h2⟩:=h1;have I3:Inv h' (X::oAt m.2.1 m.2.2::(sgA D H.sg::semL D (X2 X m) ν H.at_ ν ω++[])):=h5 h' [] [] ⟨hs,fun b _ hb=>hk b (by simpa using hb)⟩ (by simp) (by simp) fun M' hL' _ hM'=>trivial;have I4:=I3.cz.dn;refine Inv.imp ?_ I4;rw [List.append_nil,List.append_nil];exact ⟨fun _ _ _ h=>h,fun _ _ _ h=>h,n8 _ _ _ hn⟩
def XM (X:At):List (Nat × Nat × Obj)->At
 | []=>X
 | m::r=>X2 (XM X r) m
def dsM (ms:List (Nat × Nat × Obj)):List Deferred:=ms.map fun m=> {target:= .collected m.1,args:= #[]}
def noPts:Ann->Bool
 | .seq a b=>noPts a && noPts b
 | .cond a b=>noPts a && noPts b
 | .block a=>noPts a
 | .leaf=>true
 | .plan _=>true
 | _=>false
theorem ig: ∀ {A:Ann},noPts A=true->pts A=[]
 | .leaf,_=>rfl
 | .plan _,_=>rfl
 | .seq a b,h=>by simp only [noPts,Bool.and_eq_true] at h; simp only [pts,ig h.1,ig h.2,List.append_nil]
 | .cond a b,h=>by simp only [noPts,Bool.and_eq_true] at h; simp only [pts,ig h.1,ig h.2,List.append_nil]
 | .block a,h=>by simp only [noPts] at h; simp only [pts,ig h]
 | .join ..,h=>by simp [noPts] at h
 | .loop ..,h=>by simp [noPts] at h
theorem jV {Lv Lp:Nat->List Nat} {ks:List Nat}: ∀ {A:Ann},noPts A=true->annOk Lv Lp ks A=true
 | .leaf,_=>rfl
 | .plan _,_=>rfl
 | .seq a b,h=>by simp only [noPts,Bool.and_eq_true] at h; simp only [annOk,jV h.1,jV h.2,Bool.and_self]
 | .cond a b,h=>by simp only [noPts,Bool.and_eq_true] at h; simp only [annOk,jV h.1,jV h.2,Bool.and_self]
 | .block a,h=>by simp only [noPts] at h; simp only [annOk,jV h]
 | .join ..,h=>by simp [noPts] at h
 | .loop ..,h=>by simp [noPts] at h
def SRm (X:At) (pr:List Nat) (args:List Value) (n:Nat) (Γ:EnvS D) (H:SH D) (a:Act) (h:Hp):Prop:=
 ∃ (ms:List (Nat × Nat × Obj)) (ν:Nu) (ω:List Gm) (Γr:Env),Wc.Fits (dsM ms) n Γr a/\SR (XM X ms) pr args ν ω Γ H Γr h
def dpX (X:At) (pr:List Nat) (args:List Value) (w0:World) (n:Nat) (K:KontS D):Exit->Act->World->Prop:=fun e a w=>match e with
 | .panic _=>False
 | .outgrown=>False
 | .goto _=>False
 | e=> ∃ Γ H,SRm X pr args n Γ H a w.heap/\Same w0 w/\K e Γ H
abbrev WX (op:Ops D) (C:Ctrs D) (pr:List Nat) (n:Nat):Code->Ann->EnvS D->SH D->KontS D->Prop
 | .seq a b,A,Γ,H,K=>match A with
  | .seq A B=>WX op C pr n a A Γ H (thenS (fun Γ' H'=>WX op C pr n b B Γ' H' K) K)
  | _=>False
 | .cond c x y,A,Γ,H,K=>match A with
  | .cond A B=>cnd (presentS Γ c) ((match evS Γ c with
    | .bool b=>brA b (WX op C pr n x A Γ H K) (WX op C pr n y B Γ H K)
    | _=>False)) False
  | _=>False
 | .block id c,A,Γ,H,K=>match A with
  | .block A=>WX op C pr n c A Γ H (blockS' id K)
  | _=>False
 | .rangeFunc g _ _ _,_,Γ,H,K=>cnd (presentS Γ g && nrdL H.at_) (match evS Γ g with
  | .fn f cs=>callS C f (.opq::cs.map fun nm=> .ad nm 0) H fun _ _ H'=>cnd (nrdL H'.at_) (K .normal Γ H') False
  | _=>False) False
 | c,A,Γ,H,K=>cnd (noPts A) (WS (Pts.no:Pts D) op pr n () c A [] Γ H K) False
theorem dpX.after {w0 w1 w:World} {K:KontS D} {e:Exit} {a:Act} (h2:Same w0 w1) (h:dpX X pr args w1 n K e a w):dpX X pr args w0 n K e a w:=by
 cases e <;> first
  | exact h.elim
  | (obtain ⟨Γ,H,h1,h3,h4⟩:=h; exact ⟨Γ,H,h1,h2.trans h3,h4⟩)
theorem KI (hA:Agree P τ) (hC:CtrsOk P C) (hm:P.follows .mixedOrders=true) {c:Code} {A:Ann} {K:KontS D} (HW:cnd (noPts A) (WS (Pts.no:Pts D) (opsS τ ty C) pr n () c A [] Γ H K) False) {a:Act} {w:World} (hs:SRm X pr args n Γ H a w.heap):
    c.wp P (dpX X pr args w n K) a w:=by
  obtain ⟨ms,ν,ω,Γr,hf,S⟩:=hs
  cases hp:noPts A with
  | false=>rw [hp] at HW; exact HW.elim
  | true=>
    rw [hp] at HW;have HW:WS (Pts.no:Pts D) (opsS τ ty C) pr n () c A [] Γ H K:=HW;have hW:=yw (pt:=(Pts.no:Pts D)) (Lv:=fun _=>[]) (Lp:=fun _=>[]) (X:=XM X ms) (args:=args) ⟨P,hA⟩ c A [] [] [] K (fun e Γr h=> ∃ ν ω Γ H,SR (XM X ms) pr args ν ω Γ H Γr h/\K e Γ H) (jV hp) trivial (fun e ν ω Γ H Γr h S hk=>⟨ν,ω,Γ,H,S,hk⟩) S HW;have hW2:=vh (w0:=w) (ds:=dsM ms) hA hC.specs hC.specs hm c A [] _ (by rw [ig hp]; rfl) (fun k hk=>by rw [ig hp] at hk; cases hk) _ _ hW a w hf rfl (Same.refl w);refine wp_mono hW2 fun e a' w' he=> ?_
    cases e <;> first
      | exact he.elim
      | (obtain ⟨Γr',k1,k2,ν',ω',Γ',H',S',hk⟩:=he
         exact ⟨Γ',H',⟨ms,ν',ω',Γr',k1,S'⟩,k2,hk⟩)
theorem Ih {cs:List Nat} {xs:List Nm} (h:cs.map (fun nm=>ν[nm]?)=xs.map some):dA (VR (D:=D) ν) (cs.map fun nm=> .ad nm 0) (xs.map fun x=>Value.pointer (some x.p)):=by
 induction cs generalizing xs with
 | nil=>
  cases xs with
  | nil=>exact .nil
  | cons x xs=>simp at h
 | cons c cs ih=>
  cases xs with
  | nil=>simp at h
  | cons x xs=> simp only [List.map_cons,List.cons.injEq] at h;exact .cons ⟨x,h.1,by simp [Addr.add]⟩ (ih h.2)
theorem Va (hA:Agree P τ) (hC:CtrsOk P C) (hm:P.follows .mixedOrders=true): ∀ (c:Code) (A:Ann) (Γ:EnvS D) (H:SH D) (K:KontS D),WX (opsS τ ty C) C pr n c A Γ H K-> ∀ {a:Act} {w:World},SRm X pr args n Γ H a w.heap->c.wp P (dpX X pr args w n K) a w:=by
 intro c
 induction c with
 | seq a b iha ihb=>
  intro A Γ H K HW f w hs
  cases A with
  | seq A B=>
   refine wp_seq (wp_mono (iha A Γ H _ HW hs) fun e a' w' he=> ?_)
   cases e with
   | normal=>
    obtain ⟨Γ',H',h1,h2,h3⟩:=he
    exact wp_mono (ihb B Γ' H' K h3 h1) fun e2 a2 w2 h4=>dpX.after h2 h4
   | _=>exact he
  | _=>exact HW.elim
 | cond c x y ihx ihy=>
  intro A Γ H K HW f w hs
  cases A with
  | cond A B=>
   simp only [WX] at HW
   cases hp:presentS Γ c with
   | false=>rw [hp] at HW; exact HW.elim
   | true=>
    rw [hp] at HW;simp only [cnd] at HW;split at HW
    case h_2=>exact HW.elim
    rename_i b hb;obtain ⟨ms,ν,ω,Γr,hf,S⟩:=hs
    have hc:cstB D c=true:=by
     cases c with
     | const v=>
      cases v <;> first
       | rfl
       | (simp [evS,ofC] at hb; done)
     | _=>rfl
    obtain ⟨q1,_⟩:=iO S.env hp hc;rw [hb] at q1;have q1:ev Γr c= .bool b:=q1
    have hpr:present Γr c=true:=by
     cases c with
     | tmp t=>
      obtain ⟨s,hs⟩:=Option.isSome_iff_exists.1 hp;obtain ⟨v,h1,_⟩:=S.env t s hs
      simp [present,h1]
     | _=>rfl
    have he:f.eval c= .bool b:=by rw [hf.eval hpr,q1]
    cases b with
    | true=>exact wp_cond_true he (ihx A Γ H K HW ⟨ms,ν,ω,Γr,hf,S⟩)
    | false=>exact wp_cond_false he (ihy B Γ H K HW ⟨ms,ν,ω,Γr,hf,S⟩)
  | _=>exact HW.elim
 | block id c ih=>
  intro A Γ H K HW f w hs
  cases A with
  | block A=>
   refine wp_block (wp_mono (ih A Γ H _ HW hs) fun e a' w' he=> ?_)
   cases e with
   | exit id'=>
    obtain ⟨Γ',H',h1,h2,h3⟩:=he;simp only [blockS'] at h3;simp only [Exit.inBlock]
    by_cases hid:id'=id
    ·subst hid
     rw [if_pos rfl];simp at h3;exact ⟨Γ',H',h1,h2,h3⟩
    ·rw [if_neg hid]
     have:Nat.beq id' id=false:=by cases hb:Nat.beq id' id with
      | false=>rfl
      | true=>exact absurd (by simpa using hb) hid
     rw [this] at h3
     exact ⟨Γ',H',h1,h2,h3⟩
   | _=>exact he
  | _=>exact HW.elim
 | rangeFunc g ps assign body _ _=>
  intro A Γ H K HW a w hs;simp only [WX] at HW
  cases hq:(presentS Γ g && nrdL H.at_) with
  | false=>rw [hq] at HW; exact HW.elim
  | true=>
  rw [hq] at HW;simp only [cnd] at HW;obtain ⟨hp,hnr⟩:=Bool.and_eq_true_iff.1 hq;split at HW
  case h_2=>exact HW.elim
  rename_i f cs hg;obtain ⟨ms,ν,ω,Γr,hf,S⟩:=hs
  have hcg:cstB D g=true:=by
   cases g with
   | const v=>
    cases v <;> first
     | rfl
     | (simp [evS,ofC] at hg; done)
   | _=>rfl
  obtain ⟨q1,_⟩:=iO S.env hp hcg;rw [hg] at q1;obtain ⟨xs,hxs,q1⟩:=q1
  have hpr:present Γr g=true:=by
   cases g with
   | tmp t=>
    obtain ⟨s,hs⟩:=Option.isSome_iff_exists.1 hp;obtain ⟨v,h1,_⟩:=S.env t s hs
    simp [present,h1]
   | _=>rfl
  have he:a.eval g= .func (.func f) #[] (xs.map fun x=>Value.pointer (some x.p)).toArray:=by rw [hf.eval hpr,q1]
  refine wpIn_wide.1 (wpIn_rangeFunc (n:=1) (F:=Fence.wide) fun fn _=> ?_)
  obtain ⟨rec,hrec⟩: ∃ rec:Loop,rec= {state:= .ready,pending:=none,fn,tmps:=a.tmps,params:=ps,assign,body,defers:=w.heap.size}:=⟨_,rfl⟩
  have R1:=S.hr.enter hnr (.deferred (some [])) (.loop rec) rfl;obtain ⟨c,hcm,HS⟩:=sx (vs:=Value.func (.yield (w.heap.size+1)) #[] #[]::xs.map fun x=>Value.pointer (some x.p)) R1 (dA.cons (show VR ν (SV.opq:SV D) (Value.func (.yield (w.heap.size+1)) #[] #[]) from trivial) (Ih hxs)) HW;obtain ⟨⟨fn1,h1,h2,h3⟩,h4⟩:=hC _ hcm
  let W1:=(w.alloc (.deferred (some []))).alloc (.loop rec)
  have hW:W1.heap=(w.heap.push (.deferred (some []))).push (.loop rec):=rfl;refine ⟨w.heap.size+1,[{target:= .collected w.heap.size,args:= #[]}],W1,{target:= .fn (.func f) (xs.map fun x=>Value.pointer (some x.p)).toArray,args:= #[.func (.yield (w.heap.size+1)) #[] #[]]},W1,f,(Value.func (.yield (w.heap.size+1)) #[] #[]::xs.map fun x=>Value.pointer (some x.p)).toArray,W1, ?_, ?_,fun _ _=>trivial, ?_,fun _=>Nat.le_refl _,callsIn_wide.2 ?_⟩
  ·simp only [W1,hrec]; exact run_enterLoop_outer _ _ _ _ _
  ·simp only [resolve,rangeCall,he]
   simp [go_sem,W1]
  ·simp only [invoke,Sem.run_bind,Sem.run_pure,Result.andThen_ok,callFunc,run_program,h1,h2,h3,Bool.false_eq_true,if_false]
   simp [go_sem,W1]
  ·refine (h4 _ _ W1 (by rw [hW]; exact HS)).mono ?_
   rintro e3 w3 ⟨v,rfl,hsame,gg,s',H',ν',ω',hK,_,_,hL,R3⟩
   cases Pf:nrdL H'.at_ with
   | false=>rw [Pf] at hK; exact hK.elim
   | true=>
   rw [Pf] at hK;obtain ⟨PJ,hturn⟩:=R3.loopAt Pf;refine ⟨none,w3.putObj (w.heap.size+1) (.loop {rec with state:= .exhausted}), ?_, ?_⟩
   ·have:=run_endLoop (P:=P) PJ (by rw [hrec]; simp)
    rw [this,hrec]
   ·refine ⟨Γ,H',⟨(w.heap.size,w.heap.size+1, .loop {rec with state:= .exhausted})::ms,ν',ω',Γr,⟨hf.1, ?_,hf.2.2⟩,⟨?_,S.env.mono hL,S.pr⟩⟩, ?_,hK⟩
    ·show [_]++a.defers=_
     rw [hf.2.1]; rfl
    ·refine hturn _ _ (fun b hb=>World.putObj_heap_other hb) ?_ (World.putObj_heap_same ?_)
     ·simp [World.putObj]
     ·exact (Array.getElem?_eq_some_iff.1 PJ).1
    ·exact (show Same w W1 from ⟨rfl,rfl,rfl⟩).trans (hsame.trans ⟨rfl,rfl,rfl⟩)
 | _=> intro A Γ H K HW a w hs;exact KI hA hC hm HW hs
theorem Pg {f:Nat} {fn:Func} {code:Code} {c:Ctr D} (hA:Agree P τ) (hC:CtrsOk P C) (hm:P.follows .mixedOrders=true)
  (hf:P.funcs[f]? =some fn) (hb:fn.body=some code) (hn:(fn.name== "runtime.NumGoroutine")=false) (A:Ann)
  (ho:(Nat.ble c.ps.length fn.ntmps && c.bk.all (fun b=>Nat.blt b.1 c.ps.length))=true)
  (entry: ∀ x σ Q,c.P x σ Q->unLk c.ps x ⟨[],σ⟩ fun svs H=>WX (opsS τ ty C) C (c.bk.map (·.1)) fn.ntmps code A (argS 0 svs) H fun e Γ H=>cnd (nrdL H.at_) (retS τ c fn.results Q e Γ H) False):
  SpecOk P f (specOf c):=by
 simp only [Bool.and_eq_true,List.all_eq_true] at ho;obtain ⟨o3,o4⟩:=ho;refine ⟨⟨fn,hf,hn,by rw [hb]; rfl⟩,fun args Kr w HS=> ?_⟩;obtain ⟨X,x,σ,Q,I,hP,hQ⟩:=HS;obtain ⟨ν,ω,R,hv,_⟩:=rX (HR.start I);have hlen:args.length=c.ps.length:=by rw [<- dA.len hv,wg]
 have hle:args.length<=fn.ntmps:=by rw [hlen]; exact Nat.le_of_ble_eq_true o3
 have HW:=entry x σ Q hP;rw [qt] at HW;refine callsIn_wide.1 (callsIn_of_wp_marks (n:=1) (F:=Fence.wide) hf hb trivial (wpIn_wide.2 ?_))
 have hfit:Wc.Fits [] fn.ntmps (argEnv 0 args) {tmps:=args.toArray++Array.replicate (fn.ntmps - args.toArray.size) undef,defers:=[]}:=by
  refine ⟨by simp; omega,rfl,fun t v hv=> ?_⟩;obtain ⟨_,h2⟩:=iB _ _ _ _ hv;simp only [Nat.sub_zero] at h2
  have hlt:t<args.length:=by rw [List.getElem?_eq_some_iff] at h2; exact h2.1
  simp only [];rw [Array.getElem?_append_left (by simpa using hlt)];simpa using h2
 have S0:SR X (c.bk.map (·.1)) args ν ω (argS 0 (unL c.ps x ⟨[],σ⟩).1) (unL c.ps x ⟨[],σ⟩).2 (argEnv 0 args) w.heap:=by
  refine ⟨R,vY hv vW,fun j hj=> ?_⟩;obtain ⟨b,uG,rfl⟩:=List.mem_map.1 hj;have hlt:b.1<args.length:=by rw [hlen]; exact Nat.le_of_ble_eq_true (o4 b uG)
  refine ⟨args[b.1],List.getElem?_eq_getElem hlt, ?_⟩;have:=oV (i:=0) hlt;rw [Nat.zero_add] at this;rw [this,List.getElem?_eq_getElem hlt]
 refine wp_mono (Va hA hC hm code A _ _ _ HW ⟨[],ν,ω,_,hfit,S0⟩) fun e a w' he=> ?_
 have fin: ∀ (e:Exit) (he:e= .normal\/e= .ret) {Γ:EnvS D} {H:SH D} {Γr:Env} (hnr:nrdL H.at_=true) (hk:retS τ c fn.results Q e Γ H) (ht:a.tmps.size=fn.ntmps) (hfind: ∀ t v,Env.find Γr t=some v->a.tmps[t]? =some v),
   ∀ (ms:List (Nat × Nat × Obj)) (w':World) (ν:Nu) (ω:List Gm),Same w w'->SR (XM X ms) (c.bk.map (·.1)) args ν ω Γ H Γr w'.heap->
   LeavesInM Fence.wide 1 P fn a.tmps (fun e w'=> ∃ v,e= .returned v/\Same w w'/\Kr v w'.heap) (dsM ms) .returning w':=by
  intro e he Γ H Γr hnr hk ht hfind ms
  induction ms with
  | nil=>
   intro w' ν ω hs S;have hr:=vZ hQ e ν ω Γ H Γr w'.heap S hk
   have hr:resW τ Γr w'.heap fn.results.toList (oneOf fun v=>Kr v w'.heap):=by rcases he with rfl | rfl <;> exact hr
   obtain ⟨v,g1,g2⟩:=iC (a:=a) (ds:=a.defers) hA ⟨ht,rfl,hfind⟩ hr
   exact ⟨v,g1,v,rfl,hs,g2⟩
  | cons m ms ih=> intro w' ν ω hs S;obtain ⟨d1,d2⟩:=S.hr.leave hnr;refine ⟨by simp, .inl ⟨m.1,w'.putObj m.1 (.deferred none),rfl,run_takeDeferred d1, ?_⟩⟩;exact ih _ ν ω (hs.trans ⟨rfl,rfl,rfl⟩) ⟨d2 _ (fun b hb=>World.putObj_heap_other hb) (by simp [World.putObj]),S.env,S.pr⟩
 cases e with
 | normal=>
  obtain ⟨Γ,H,⟨ms,ν',ω',Γr,k1,S⟩,k2,hk⟩:=he
  cases hnr:nrdL H.at_ with
  | false=>rw [hnr] at hk; exact hk.elim
  | true=>
  rw [hnr] at hk;show LeavesInM _ _ _ _ _ _ a.defers .returning w';rw [k1.2.1]
  exact fin .normal (.inl rfl) hnr hk k1.1 k1.2.2 ms w' ν' ω' k2 S
 | ret=>
  obtain ⟨Γ,H,⟨ms,ν',ω',Γr,k1,S⟩,k2,hk⟩:=he
  cases hnr:nrdL H.at_ with
  | false=>rw [hnr] at hk; exact hk.elim
  | true=>
  rw [hnr] at hk;show LeavesInM _ _ _ _ _ _ a.defers .returning w';rw [k1.2.1]
  exact fin .ret (.inr rfl) hnr hk k1.1 k1.2.2 ms w' ν' ω' k2 S
 | exit id=>
  obtain ⟨Γ,H,_,_,hk⟩:=he
  cases hnr:nrdL H.at_ with
  | false=>rw [hnr] at hk; exact hk.elim
  | true=>rw [hnr] at hk; exact hk.elim
 | _=>exact he.elim
end Go.Ex
