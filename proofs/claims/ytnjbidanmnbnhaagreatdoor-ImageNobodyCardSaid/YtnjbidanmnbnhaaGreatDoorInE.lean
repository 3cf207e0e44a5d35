import Derived.Test.YtnjbidanmnbnhaaGreatDoorInA
import Derived.Test.YtnjbidanmnbnhaaGreatDoorInB
import Derived.Test.YtnjbidanmnbnhaaGreatDoorInD
import Derived.RangeFuncLeaves
import Derived.RangeFuncKeeps
set_option linter.unusedVariables false
set_option linter.unusedSimpArgs false
set_option maxHeartbeats 4000000
set_option maxRecDepth 100000
namespace Go.Ey
open Go Go.Wc
variable {ds:List Deferred} {P:Program} {ν:Nu} {S:SH} {F:Fr} {h:Hp} {τ:Tys} {Γ:Tr SV} {C:Ctx}
abbrev KontU:=Exit→Tr SV→SH→Prop
def isTake (τ:Tys) (ops:Array Oper) (i:Nat):Bool:=match ops[i]? with
  | some o=>isR o.op || readsConv τ o.op
  | none=>false
def mkPlan (τ : Tys) (ops : Array Oper) : Nat → Array Bool → Plan
  | 0,_=> .done
  | k + 1, l => match Region.ready .any ops l with
    | []=> .done
    | r => match r.find? (fun i => isTake τ ops i && Region.free .any ops l i) with
      | some i=> .take i ((List.range ops.size).filter fun d=> !isTake τ ops d && descB ops ops.size i d) (mkPlan τ ops k (l.setIfInBounds i true))
      | none=> .all (r.foldr (fun i p=> .alt i (mkPlan τ ops k (l.setIfInBounds i true)) p) .nil)
def planFor (τ:Tys) (ops:Array Oper):Option Plan:=
  let p:=mkPlan τ ops ops.size (Array.replicate ops.size false)
  bif Region.noSelect ops && shutP p && planOk ops p ops.size (Array.replicate ops.size false) [] then some p else none
def thenU (next:Tr SV→SH→Prop) (K:KontU):KontU:=fun e Γ S=>match e with
  | .normal=>next Γ S
  | e=>K e Γ S
def blockU (id:Nat) (K:KontU):KontU:=fun e Γ S=>match e with
  | .exit id'=>bif Nat.beq id' id then K .normal Γ S else K (.exit id') Γ S
  | e=>K e Γ S
abbrev RunU:=Tr SV→SH→KontU→Prop
noncomputable def loopU (body:RunU):Nat→RunU
  | 0,_,_,_=>False
  | n+1,Γ,S,K=>body Γ S (thenU (fun Γ' S'=>loopU body n Γ' S' K) K)
noncomputable def condU (c:SV) (x y:Prop):Prop:=match c with
  | .bool b=>brA b x y
  | _=>False
noncomputable def WU (C:Ctx) (n lf:Nat):Code→RunU
  | .skip,Γ,S,K=>K .normal Γ S
  | .region _ ops draw,Γ,S,K=>bif draw then (match planFor C.τ ops with
      | some p=>WPlU C n ops.toList p Γ S [] fun Γ' S'=>K .normal Γ' S'
      | none=>False) else WSeqU C n ops.toList ops.toList Γ S fun Γ' S'=>K .normal Γ' S'
  | .seq a b,Γ,S,K=>WU C n lf a Γ S (thenU (fun Γ' S'=>WU C n lf b Γ' S' K) K)
  | .cond c x y,Γ,S,K=>bif presS Γ c then condU (evS Γ c) (WU C n lf x Γ S K) (WU C n lf y Γ S K) else False
  | .block id c,Γ,S,K=>WU C n lf c Γ S (blockU id K)
  | .loop c,Γ,S,K=>loopU (WU C n lf c) lf Γ S K
  | .exit id,Γ,S,K=>K (.exit id) Γ S
  | .ret,Γ,S,K=>K .ret Γ S
  | _,_,_,_=>False
def dpU (ds:List Deferred) (w0:World) (n:Nat) (ν:Nu) (S:SH) (F:Fr) (K:KontU):Exit→Act→World→Prop:=fun e a w=>match e with
  | .panic _=>False
  | .outgrown=>False
  | .goto _=>False
  | e=>NX ds n ν S F w0 (K e) a w
theorem NX.after {n:Nat} {ν ν1:Nu} {S S1:SH} {w0 w1 w:World} {K:Tr SV→SH→Prop} {a:Act} (h1:NLe ν ν1) (h2:SLe S S1) (hs:Same w0 w1) (h:NX ds n ν1 S1 F w1 K a w):NX ds n ν S F w0 K a w:=by
  obtain ⟨ν',Γ',S',k1,k2,k3,k4,k5,k6⟩:=h
  exact ⟨ν',Γ',S',k1,hs.trans k2,h1.trans k3,h2.trans k4,k5,k6⟩
theorem dpU.after {n:Nat} {ν ν1:Nu} {S S1:SH} {w0 w1 w:World} {K:KontU} {a:Act} {e:Exit} (h1:NLe ν ν1) (h2:SLe S S1) (hs:Same w0 w1) (h:dpU ds w1 n ν1 S1 F K e a w):dpU ds w0 n ν S F K e a w:=by
  cases e <;> first | exact h.elim | exact NX.after h1 h2 hs h
def RunOk (P:Program) (n:Nat) (c:Code) (r:RunU):Prop:= ∀ Γ S K,r Γ S K→ ∀ ⦃ds:List Deferred⦄ (ν:Nu) (F:Fr) a w,FitsU ds n ν Γ a→Rel ν S F w.heap→c.wp P (dpU ds w n ν S F K) a w
theorem loopU_ok {n:Nat} {c:Code} {r:RunU} (hr:RunOk P n c r): ∀ k Γ S K,loopU r k Γ S K→ ∀ ν F a w,FitsU ds n ν Γ a→Rel ν S F w.heap→AtHead P c (dpU ds w n ν S F K) a w
  | 0,Γ,S,K,H,_,_,_,_,_,_=>H.elim
  | k + 1, Γ, S, K, H, ν, F, a, w, hf, R => by
    unfold loopU at H
    refine head_of_wp (wp_mono (hr _ _ _ H ν F a w hf R) fun e a' w' he=> ?_)
    cases e with
    | normal =>
      obtain ⟨ν',Γ',S',k1,k2,k3,k4,k5,k6⟩:=he
      have:=loopU_ok hr k Γ' S' K k6 ν' F a' w' k1 k5
      intro b ks cs
      obtain ⟨e2,a2,w2,q,ar⟩:=this b ks cs
      exact ⟨e2,a2,w2,dpU.after k3 k4 k2 q,ar⟩
    | _=>exact he
theorem WU_ok {n lf : Nat} (hA : Agree P C.τ) (hC : CallOk P C.call) (hM : MthOk P C.mth) (hn : n < 1048575) (hm : P.follows .mixedOrders = true) : ∀ c : Code, RunOk P n c (WU C n lf c) := by
  intro c
  induction c with
  | skip=>intro Γ S K H ds ν F a w hf R; exact wp_skip ⟨ν,Γ,S,hf,Same.refl w,NLe.refl ν,SLe.refl S,R,H⟩
  | exit id=>intro Γ S K H ds ν F a w hf R; exact wp_exit ⟨ν,Γ,S,hf,Same.refl w,NLe.refl ν,SLe.refl S,R,H⟩
  | ret=>intro Γ S K H ds ν F a w hf R; exact wp_ret ⟨ν,Γ,S,hf,Same.refl w,NLe.refl ν,SLe.refl S,R,H⟩
  | region id ops draw =>
    intro Γ S K H ds ν F a w hf R
    simp only [WU] at H
    cases draw with
    | false =>
      simp only [cond_false] at H
      refine wp_region_list ?_
      have:=WSeqU_sound (P:=P) (Q:=dpU ds w n ν S F K) (F:=F) hA hC hM hn hf R (fun a' w' h=>h) H
      simpa using this
    | true =>
      simp only [cond_true] at H
      split at H
      · rename_i p hp
        unfold planFor at hp
        simp only at hp
        cases hok:(Region.noSelect ops && shutP (mkPlan C.τ ops ops.size (Array.replicate ops.size false)) && planOk ops (mkPlan C.τ ops ops.size (Array.replicate ops.size false)) ops.size (Array.replicate ops.size false) []) with
        | false=>rw [hok] at hp; cases hp
        | true =>
          rw [hok] at hp
          simp only [cond_true,Option.some.injEq] at hp
          rw [hp] at hok
          simp only [Bool.and_eq_true] at hok
          refine wp_region_any hm (wpAny_of_G (S:=SF []) _ _ _ _ ?_)
          have hcl0:Cl ops (Array.replicate ops.size false):=fun x ox _ hl=>by
            exfalso
            rcases Nat.lt_or_ge x ops.size with hx | hx
            · simp [hx] at hl
            · simp [Nat.not_lt.2 hx] at hl
          have:=(WPlU_sound (P:=P) (Q:=dpU ds w n ν S F K) (ops:=ops.toList) (F:=F) (w0:=w) (ν0:=ν) (S0:=S) (K:=K .normal) hA hC hM hn (by simpa using hok.1.1) (fun c a w h=>h)
            (fun ν' Γ' S' a' w' h1 h2 h3 h4 h5 h6=>⟨ν',Γ',S',h1,h2,h3,h4,h5,h6⟩) p (Fs:=[]) (Fa:=[]) (a:=a) (w:= {w with drawn:=w.drawn+1}) (fuel:=ops.size) (l:=Array.replicate ops.size false) (Ds:=[])
            hf ⟨rfl,rfl,rfl⟩ (NLe.refl ν) (SLe.refl S) R rfl (by simpa using hcl0) (fun q hq=>by cases hq) (by simpa using hok.2) (fun q hq=>by cases hq) H).1 hok.1.2
          simpa using this
      · exact H.elim
  | seq a b iha ihb =>
    intro Γ S K H ds ν F f w hf R
    simp only [WU] at H
    refine wp_seq (wp_mono (iha _ _ _ H ν F f w hf R) fun e a' w' he=> ?_)
    cases e with
    | normal =>
      obtain ⟨ν',Γ',S',k1,k2,k3,k4,k5,k6⟩:=he
      exact wp_mono (ihb _ _ _ k6 ν' F a' w' k1 k5) fun e2 a2 w2 h2=>dpU.after k3 k4 k2 h2
    | _=>exact he
  | cond c x y ihx ihy =>
    intro Γ S K H ds ν F f w hf R
    simp only [WU] at H
    cases hp:presS Γ c with
    | false=>rw [hp] at H; exact H.elim
    | true =>
      rw [hp] at H
      simp only [cond_true,condU] at H
      split at H
      · rename_i b hb
        have hv:=evS_ok hf.env hp
        rw [hb] at hv
        simp only [VR] at hv
        have he:f.eval c= .bool b:=by rw [eval_env hf.1 (presS_ok hf.env hp),hv]
        cases b with
        | true=>exact wp_cond_true he (ihx _ _ _ H ν F f w hf R)
        | false=>exact wp_cond_false he (ihy _ _ _ H ν F f w hf R)
      · exact H.elim
  | block id c ih =>
    intro Γ S K H ds ν F f w hf R
    simp only [WU] at H
    refine wp_block (wp_mono (ih _ _ _ H ν F f w hf R) fun e a' w' he=> ?_)
    cases e with
    | exit id' =>
      obtain ⟨ν',Γ',S',k1,k2,k3,k4,k5,k6⟩:=he
      simp only [blockU] at k6
      simp only [Exit.inBlock]
      by_cases hid:id'=id
      · subst hid
        rw [if_pos rfl]
        simp at k6
        exact ⟨ν',Γ',S',k1,k2,k3,k4,k5,k6⟩
      · rw [if_neg hid]
        have:Nat.beq id' id=false:=by cases hb:Nat.beq id' id with
          | false=>rfl
          | true=>exact absurd (by simpa using hb) hid
        rw [this] at k6
        exact ⟨ν',Γ',S',k1,k2,k3,k4,k5,k6⟩
    | _=>exact he
  | loop c ih =>
    intro Γ S K H ds ν F f w hf R
    simp only [WU] at H
    exact wp_of_head (loopU_ok ih _ _ _ _ H ν F f w hf R)
  | _=>intro Γ S K H; simp only [WU] at H
noncomputable def resU (τ:Tys) (Γ:Tr SV) (S:SH):List ResultVar→(List SV→Prop)→Prop
  | [],K=>K []
  | .tmp t :: r, K => match Γ.get t with
    | some s=>resU τ Γ S r fun l=>K (s::l)
    | none=>False
  | .cell a t :: r, K => match Γ.get a with
    | some s=>loadS τ t s S fun _ u _=>resU τ Γ S r fun l=>K (u::l)
    | none=>False
def oneS:List SV→SV
  | [s]=>s
  | l=> .tup l
noncomputable def retU (τ:Tys) (rs:List ResultVar) (K:SV→SH→Prop):KontU:=fun e Γ S=>match e with
  | .ret=>resU τ Γ S rs fun l=>K (oneS l) S
  | .normal=>resU τ Γ S rs fun l=>K (oneS l) S
  | _=>False
noncomputable def argT (n:Nat):List SV→Tr SV
  | []=> .e
  | s::l=>(argT (n+1) l).set s n
theorem argT_get: ∀ (l:List SV) (n t:Nat),n+l.length<1048575→(argT n l).get t=if n≤t then l[t - n]? else none
  | [],n,t,_=>by simp [argT]
  | s :: l, n, t, h => by
    simp only [List.length_cons] at h
    rw [argT,Tr.get_set _ _ _ _ (by omega),argT_get l (n+1) t (by omega)]
    by_cases e:n=t
    · subst e; simp
    · rw [if_neg e]
      by_cases e2:n+1≤t
      · rw [if_pos e2,if_pos (by omega),show t - n=(t - (n+1))+1 from by omega,List.getElem?_cons_succ]
      · rw [if_neg e2,if_neg (by omega)]
theorem loadS_run {t:Nat} {s:SV} {Kl:SV→Prop} {v:Value} {w:World} (hA:Agree P τ) (hv:VR ν s v) (R:Rel ν S F w.heap) (H:loadS τ t s S fun _ u _=>Kl u):
    ∃ p v',v= .pointer (some p)∧(loadVar t p).run P w= .ok v' w∧ ∃ u,Kl u∧VR ν u v':=by
  obtain ⟨p,ti,e1,e2,h3⟩:=loadS_ok (K:=fun _ u _=>Kl u) H hv R
  have hAt:=hA t ti e2
  cases hq:Wc.isAgg ti.kd with
  | true =>
    rw [hq] at h3
    cases hc:Nat.beq (ckns ti.cks) ti.size with
    | false=>rw [hc] at h3; exact h3.elim
    | true =>
      rw [hc] at h3
      obtain ⟨f,us,g1,g2,g3,g4⟩:=ldCs_elim h3
      obtain ⟨u,_,k1,k2,_⟩:=g1
      exact ⟨p,_,e1,r_loadVar hAt hq (by rw [g3]; simpa using hc) (fun j hj=>by simpa using g4 _ g2 j hj),u,k1,k2⟩
  | false =>
    rw [hq] at h3
    simp only [cnd] at h3
    split at h3
    · obtain ⟨v', g1, g2⟩ := ldC_elim h3
      obtain ⟨u,_,k1,k2,_⟩:=g2
      exact ⟨p,_,e1,r_loadVar1 hAt hq g1,u,k1,k2⟩
    · exact h3.elim
theorem r_resU {n:Nat} {a:Act} {w:World} (hA:Agree P τ) (hf:FitsU ds n ν Γ a) (R:Rel ν S F w.heap) (g:ResultVar→Sem Value) (hg1: ∀ t,g (.tmp t)=pure (a.tmps.getD t Go.undef))
    (hg2: ∀ b t,g (.cell b t)=do loadVar t (← asAddr (a.tmps.getD b Go.undef))): ∀ (rs:List ResultVar) (K:List SV→Prop),resU τ Γ S rs K→
    ∃ l vs,K l∧VRL ν l vs∧(rs.mapM g:Sem (List Value)).run P w= .ok vs w
  | [],K,H=>⟨[],[],H,rfl,rfl⟩
  | .tmp t :: r, K, H => by
    simp only [resU] at H
    split at H
    case h_2=>exact H.elim
    rename_i s hs
    obtain ⟨l,vs,h1,h2,h3⟩:=r_resU hA hf R g hg1 hg2 r _ H
    obtain ⟨v,k1,k2⟩:=hf.2.2 t s hs
    refine ⟨_,v::vs,h1,VRL.cons k2 h2, ?_⟩
    have:a.tmps.getD t Go.undef=v:=by simp [k1]
    simp only [List.mapM_cons,hg1,Sem.run_bind,Sem.run_pure,Result.andThen_ok,h3,this]
  | .cell b t :: r, K, H => by
    simp only [resU] at H
    split at H
    case h_2=>exact H.elim
    rename_i s hs
    obtain ⟨v,k1,k2⟩:=hf.2.2 b s hs
    obtain ⟨p,v',e1,e2,u,e3,e4⟩:=loadS_run hA k2 R H
    obtain ⟨l,vs,h1,h2,h3⟩:=r_resU hA hf R g hg1 hg2 r _ e3
    refine ⟨_,v'::vs,h1,VRL.cons e4 h2, ?_⟩
    subst e1
    have hb:(asAddr (a.tmps.getD b Go.undef)).run P w= .ok p w:=by simp [k1,asAddr]
    simp only [List.mapM_cons,hg2,Sem.run_bind,hb,Sem.run_pure,Result.andThen_ok,e2,h3]
theorem oneS_ok {l:List SV} {vs:List Value} (h:VRL ν l vs):VR ν (oneS l) (if h:vs.toArray.size=1 then vs.toArray[0] else .tuple vs.toArray):=by
  match l,vs,h with
  | [],vs,h=>simp only [VRL] at h; subst h; simp only [oneS,VR]; exact ⟨[],rfl,rfl⟩
  | [s], vs, h =>
    simp only [VRL] at h
    obtain ⟨v,w,h1,h2,rfl⟩:=h
    subst h2
    exact h1
  | s :: t :: r, vs, h =>
    have h0:=h
    simp only [VRL] at h
    obtain ⟨v,w,h1,⟨v2,w2,h2,h3,rfl⟩,rfl⟩:=h
    simp only [oneS,VR]
    exact ⟨_,h0,rfl⟩
theorem resU_run {n:Nat} {fn:Func} {a:Act} {w:World} {K:SV→Prop} (hA:Agree P τ) (hf:FitsU ds n ν Γ a) (R:Rel ν S F w.heap)
    (H:resU τ Γ S fn.results.toList fun l=>K (oneS l)): ∃ s v,(results fn a.tmps).run P w= .ok v w∧VR ν s v∧K s:=by
  obtain ⟨l,vs,h1,h2,h3⟩:=r_resU (P:=P) hA hf R (fun
      | .tmp t=>pure (a.tmps.getD t Go.undef)
      | .cell b t=>do loadVar t (← asAddr (a.tmps.getD b Go.undef))) (fun _=>rfl) (fun _ _=>rfl) _ _ H
  refine ⟨_,_, ?_,oneS_ok h2,h1⟩
  simp only [results,Sem.run_bind,Array.mapM_eq_mapM_toList,Sem.run_map]
  have h4:=congrArg (fun r=>Result.andThen r fun a w'=>Result.ok (a.toArray:Array Value) w') h3
  simp only [Result.andThen_ok] at h4
  have h5:=congrArg (fun r=>Result.andThen r fun (a:Array Value) w'=>Sem.run P (pure (if h:a.size=1 then a[0] else Value.tuple a)) w') h4
  exact h5
abbrev FT:=List (Nat × Func)
def FT.get:FT→Nat→Option Func
  | [],_=>none
  | (g,fn)::r,f=>bif Nat.beq g f then some fn else FT.get r f
def FOk (P:Program) (ft:FT):Prop:= ∀ f fn,ft.get f=some fn→P.funcs[f]? =some fn∧(fn.name== "runtime.NumGoroutine")=false
theorem fOk_nil:FOk P []:=fun f fn h=>by simp [FT.get] at h
theorem fOk_cons {f:Nat} {fn:Func} {ft:FT} (h1:P.funcs[f]? =some fn) (h2:(fn.name== "runtime.NumGoroutine")=false) (h:FOk P ft):FOk P ((f,fn)::ft):=fun g gn hg=>by
  simp only [FT.get] at hg
  cases hb:Nat.beq f g with
  | true=>rw [hb] at hg; simp only [cond_true,Option.some.injEq] at hg; subst hg; have:=Nat.eq_of_beq_eq_true hb; subst this; exact ⟨h1,h2⟩
  | false=>rw [hb] at hg; exact h g gn hg
noncomputable def runF (τ:Tys) (mth:Mth) (lf:Nat) (call:CallF) (fn:Func) (as:List SV) (S:SH) (K:SV→SH→Prop):Prop:=
  match fn.body with
  | none=>False
  | some c=>bif Nat.ble as.length fn.ntmps && Nat.blt fn.ntmps 1048575 then WU ⟨τ,call,mth⟩ fn.ntmps lf c (argT 0 as) S (retU τ fn.results.toList K) else False
noncomputable def callU (τ:Tys) (mth:Mth) (lf:Nat) (ext:CallF) (ft:FT):Nat→CallF
  | 0,_,_,_,_=>False
  | d + 1, f, as, S, K => match ft.get f with
    | none=>ext f as S K
    | some fn=>runF τ mth lf (callU τ mth lf ext ft d) fn as S K
theorem callU_ok {mth : Mth} {lf : Nat} {ext : CallF} {ft : FT} (hA : Agree P τ) (hM : MthOk P mth) (hF : FOk P ft) (hE : CallOk P ext) (hm : P.follows .mixedOrders = true) : ∀ d, CallOk P (callU τ mth lf ext ft d)
  | 0=>fun f as S K H=>H.elim
  | d + 1 => by
    intro f as S K H
    have ih:=callU_ok (lf:=lf) hA hM hF hE hm d
    have key: ∀ fn,ft.get f=some fn→fn.body.isSome=true→SpecOk P f (specOf (callU τ mth lf ext ft (d+1)) f):=by
      intro fn hfn hbody
      obtain ⟨h1,h2⟩:=hF f fn hfn
      obtain ⟨c,hb⟩:=Option.isSome_iff_exists.1 hbody
      refine ⟨⟨fn,h1,h2,by rw [hb]; rfl⟩,fun args Kr w ⟨ν,F,S,as,K,hv,R,hc,hk⟩=> ?_⟩
      unfold callU at hc
      rw [hfn] at hc
      unfold runF at hc
      simp only [hb] at hc
      cases hq:(Nat.ble as.length fn.ntmps && Nat.blt fn.ntmps 1048575) with
      | false=>rw [hq] at hc; exact hc.elim
      | true =>
        rw [hq] at hc
        simp only [cond_true] at hc
        simp only [Bool.and_eq_true,Nat.ble_eq,Nat.blt_eq] at hq
        obtain ⟨q1,q2⟩:=hq
        have hlen:=hv.len
        refine calls_of_wp h1 hb ?_
        have hfit:FitsU [] fn.ntmps ν (argT 0 as) {tmps:=args.toArray++Array.replicate (fn.ntmps - args.toArray.size) Go.undef,defers:=[]}:=by
          refine ⟨by simp; omega,rfl,fun t s hs=> ?_⟩
          rw [argT_get _ _ _ (by omega),if_pos (Nat.zero_le _),Nat.sub_zero] at hs
          obtain ⟨v,e1,e2⟩:=hv.get hs
          refine ⟨v, ?_,e2⟩
          have hlt:t<args.length:=by
            rw [List.getElem?_eq_some_iff] at e1; exact e1.1
          rw [Array.getElem?_append_left (by simpa using hlt)]
          simpa using e1
        refine wp_mono (WU_ok (C:=⟨τ,callU τ mth lf ext ft d,mth⟩) (lf:=lf) hA ih hM q2 hm c _ _ _ hc ν F _ w hfit R) fun e a w' he=> ?_
        have fin: ∀ {a:Act} {w':World},NX [] fn.ntmps ν S F w (fun Γ S'=>resU τ Γ S' fn.results.toList fun l=>K (oneS l) S') a w'→a.defers=[]∧ ∃ v,(results fn a.tmps).run P w'= .ok v w'∧Same w w'∧Kr v w'.heap:=by
          rintro a w' ⟨ν',Γ',S',k1,k2,k3,k4,k5,k6⟩
          obtain ⟨s,v,g1,g2,g3⟩:=resU_run (K:=fun s=>K s S') hA k1 k5 k6
          exact ⟨k1.2.1,v,g1,k2,hk _ _ ⟨ν',s,S',g3,g2,k3,k4,k5⟩⟩
        cases e with
        | normal=>obtain ⟨h1,v,h2,h3,h4⟩:=fin he; exact ⟨h1,v,h2,v,rfl,h3,h4⟩
        | ret=>obtain ⟨h1,v,h2,h3,h4⟩:=fin he; exact ⟨h1,v,h2,v,rfl,h3,h4⟩
        | exit id=>obtain ⟨ν',Γ',S',k1,k2,k3,k4,k5,k6⟩:=he; exact k6.elim
        | _=>exact he.elim
    cases hg:ft.get f with
    | some fn =>
      have hb:fn.body.isSome=true:=by
        unfold callU at H
        rw [hg] at H
        unfold runF at H
        cases hb:fn.body with
        | none=>simp only [hb] at H
        | some c=>rfl
      exact key fn hg hb
    | none =>
      unfold callU at H
      rw [hg] at H
      obtain ⟨h1,h2⟩:=hE f as S K H
      refine ⟨h1,fun args Kr w ⟨ν,F,S,as,K,hv,R,hc,hk⟩=> ?_⟩
      unfold callU at hc
      rw [hg] at hc
      exact h2 args Kr w ⟨ν,F,S,as,K,hv,R,hc,hk⟩
def mthB (P : Program) (x : Nat × String × Nat) : Bool := match P.info? x.1 with
  | some i => match i.methods.find? (·.name == x.2.1) with
    | some r => match r.path.toList, r.func, P.underlying x.1 with
      | [],some (g,true),some (.pointer _)=>Nat.beq g x.2.2
      | _,_,_=>false
    | none=>false
  | none=>false
theorem mthOk_of {mth : Mth} (h : mth.all (mthB P) = true) : MthOk P mth := by
  intro t m f hm
  rw [List.all_eq_true] at h
  have:=h _ hm
  unfold mthB at this
  split at this
  · rename_i i hi
    split at this
    · rename_i r hr
      split at this
      · rename_i g e e1 e2 e3
        have:=Nat.eq_of_beq_eq_true this
        subst this
        exact ⟨i,r,e,hi,hr,by simpa using e1,e2,e3⟩
      · cases this
    · cases this
  · cases this
theorem callOk_none:CallOk P (fun _ _ _ _=>False):=fun f as S K H=>H.elim
end Go.Ey
namespace Go.Ey
open Go Go.Wc
variable {P:Program} {τ:Tys} {Γ:Tr SV} {C:Ctx}
noncomputable def pathF (f:Nat):Nat→List Bool:=
  Nat.rec (motive:=fun _=>Nat→List Bool) (fun _=>[]) (fun _ ih=>Nat.rec (motive:=fun _=>List Bool) [] (fun j _=>Nat.beq (Nat.mod j 2) 0::ih (Nat.div j 2))) f
noncomputable def getP:List Bool→Tr SV→Option SV:=
  List.rec (motive:=fun _=>Tr SV→Option SV) (Tr.rec (motive:=fun _=>Option SV) none (fun _ v _ _ _=>v))
    (fun b _ ih=>Tr.rec (motive:=fun _=>Option SV) none (fun l _ r _ _=>Bool.rec (motive:=fun _=>Option SV) (ih r) (ih l) b))
noncomputable def setP (v:SV):List Bool→Tr SV→Tr SV:=
  List.rec (motive:=fun _=>Tr SV→Tr SV) (Tr.rec (motive:=fun _=>Tr SV) (.n .e (some v) .e) (fun l _ r _ _=> .n l (some v) r))
    (fun b _ ih=>Tr.rec (motive:=fun _=>Tr SV) (Bool.rec (motive:=fun _=>Tr SV) (.n .e none (ih .e)) (.n (ih .e) none .e) b) (fun l u r _ _=>Bool.rec (motive:=fun _=>Tr SV) (.n l u (ih r)) (.n (ih l) u r) b))
theorem beq_mod (j:Nat):Nat.beq (j % 2) 0=decide (j % 2=0):=by
  cases h:Nat.beq (j % 2) 0 with
  | true=>symm; simpa using h
  | false=>symm; rw [decide_eq_false_iff_not]; intro e; rw [e] at h; cases h
theorem getP_eq: ∀ (f t:Nat) (Γ:Tr SV),t+1<2 ^ f→getP (pathF f t) Γ=Γ.get t
  | 0,t,_,h=>by simp at h
  | f+1,0, .e,_=>rfl
  | f+1,0, .n l v r,_=>rfl
  | f+1,j+1, .e,_=>rfl
  | f + 1, j + 1, .n l v r, h => by
    have h2:j / 2+1<2 ^ f:=by rw [Nat.pow_succ] at h; omega
    rw [Tr.get_n]
    show Bool.rec (motive:=fun _=>Option SV) (getP (pathF f (j / 2)) r) (getP (pathF f (j / 2)) l) (Nat.beq (j % 2) 0)=_
    rw [beq_mod]
    by_cases e:j % 2=0
    · rw [if_pos e,decide_eq_true e]; exact getP_eq f _ l h2
    · rw [if_neg e,decide_eq_false e]; exact getP_eq f _ r h2
theorem setP_E (v:SV): ∀ (f t:Nat),t+1<2 ^ f→setP v (pathF f t) .e=setE v f t
  | 0,t,h=>by simp at h
  | f+1,0,_=>rfl
  | f + 1, j + 1, h => by
    have h2:j / 2+1<2 ^ f:=by rw [Nat.pow_succ] at h; omega
    rw [Tr.setE_n]
    show Bool.rec (motive:=fun _=>Tr SV) (.n .e none (setP v (pathF f (j / 2)) .e)) (.n (setP v (pathF f (j / 2)) .e) none .e) (Nat.beq (j % 2) 0)=_
    rw [beq_mod]
    by_cases e:j % 2=0
    · rw [if_pos e,decide_eq_true e,← setP_E v f _ h2]
    · rw [if_neg e,decide_eq_false e,← setP_E v f _ h2]
theorem setE_more (v:SV): ∀ (f g t:Nat),t+1<2 ^ f→f≤g→setE v g t=setE v f t
  | 0,g,t,h,_=>by simp at h
  | f+1,0,t,h,hg=>by omega
  | f+1,g+1,0,_,_=>rfl
  | f + 1, g + 1, j + 1, h, hg => by
    have h2:j / 2+1<2 ^ f:=by rw [Nat.pow_succ] at h; omega
    rw [Tr.setE_n,Tr.setE_n,setE_more v f g _ h2 (by omega)]
theorem setP_eq (v:SV): ∀ (f t:Nat) (Γ:Tr SV),t+1<2 ^ f→f≤20→setP v (pathF f t) Γ=Γ.set v t
  | f, t, .e, h, hf => by
    rw [setP_E v f t h]
    exact (setE_more v f 20 t h hf).symm
  | 0,t,_,h,_=>by simp at h
  | f+1,0, .n l u r,_,_=>rfl
  | f + 1, j + 1, .n l u r, h, hf => by
    have h2:j / 2+1<2 ^ f:=by rw [Nat.pow_succ] at h; omega
    rw [Tr.set_n]
    show Bool.rec (motive:=fun _=>Tr SV) (.n l u (setP v (pathF f (j / 2)) r)) (.n (setP v (pathF f (j / 2)) l) u r) (Nat.beq (j % 2) 0)=_
    rw [beq_mod]
    by_cases e:j % 2=0
    · rw [if_pos e,decide_eq_true e,setP_eq v f _ l h2 (by omega)]
    · rw [if_neg e,decide_eq_false e,setP_eq v f _ r h2 (by omega)]
inductive Opd where
  | mk (f:Tr SV→(SV→Prop)→Prop)
abbrev Stp:=CallF→Tr SV→SH→(Tr SV→SH→Prop)→Prop
inductive Fst where
  | mk (f:Stp)
inductive Fz where
  | mk (f:CallF→RunU)
inductive Dst where
  | mk (f:SV→Tr SV→Tr SV)
def optK (o:Option SV) (k:SV→Prop):Prop:=match o with
  | some s=>k s
  | none=>False
noncomputable def opdC:Operand→Opd
  | .tmp t=>bif Nat.blt t 1048575 then .mk fun Γ k=>optK (getP (pathF 20 t) Γ) k else .mk fun _ _=>False
  | .const v=> .mk fun _ k=>k (ofV v)
  | .global g=> .mk fun _ k=>k (.opq (.pointer (some ⟨g,0,none⟩)))
  | .func f=> .mk fun _ k=>k (.fn f [])
noncomputable def dstC (n:Nat):Option Nat→Dst
  | none=> .mk fun _ Γ=>Γ
  | some d=> .mk fun s Γ=>setP s (pathF 20 d) Γ
def OpdOk (x:Operand) (e:Tr SV→(SV→Prop)→Prop):Prop:= ∀ Γ k,e Γ k→presS Γ x=true∧k (evS Γ x)
theorem opdC_ok (x : Operand) {e : Tr SV → (SV → Prop) → Prop} (h : opdC x = .mk e) : OpdOk x e := by
  intro Γ k H
  cases x with
  | tmp t =>
    simp only [opdC] at h
    cases hb:Nat.blt t 1048575 with
    | false=>rw [hb] at h; simp only [cond_false,Opd.mk.injEq] at h; subst h; exact H.elim
    | true =>
      rw [hb] at h; simp only [cond_true,Opd.mk.injEq] at h; subst h
      simp only [Nat.blt_eq] at hb
      simp only [getP_eq 20 t Γ (by have : (2 : Nat) ^ 20 = 1048576 := by decide
                                    omega)] at H
      unfold optK at H
      split at H
      · rename_i s hs
        exact ⟨by simp only [presS,hs,Option.isSome_some],by simpa only [evS,hs,Option.getD_some] using H⟩
      · exact H.elim
  | const v=>simp only [opdC,Opd.mk.injEq] at h; subst h; exact ⟨rfl,H⟩
  | global g=>simp only [opdC,Opd.mk.injEq] at h; subst h; exact ⟨rfl,H⟩
  | func f=>simp only [opdC,Opd.mk.injEq] at h; subst h; exact ⟨rfl,H⟩
theorem dstC_ok {n : Nat} {d : Option Nat} {g : SV → Tr SV → Tr SV} (hn : n < 1048575) (hd : dstOk n d = true) (h : dstC n d = .mk g) (s : SV) (Γ : Tr SV) : g s Γ = putS d s Γ := by
  cases d with
  | none=>simp only [dstC,Dst.mk.injEq] at h; subst h; rfl
  | some d =>
    simp only [dstC,Dst.mk.injEq] at h; subst h
    simp only [dstOk,Nat.blt_eq] at hd
    exact setP_eq s 20 d Γ (by have : (2 : Nat) ^ 20 = 1048576 := by decide
                               omega) (Nat.le_refl _)
end Go.Ey
namespace Go.Ey
open Go Go.Wc
variable {P:Program} {τ:Tys} {Γ:Tr SV} {S:SH} {C:Ctx}
inductive Ops where
  | mk (f:Tr SV→(List SV→Prop)→Prop)
noncomputable def opdsC:List Operand→Ops
  | []=> .mk fun _ k=>k []
  | x :: r => match opdC x with
    | .mk e => match opdsC r with
      | .mk g=> .mk fun Γ k=>e Γ fun s=>g Γ fun l=>k (s::l)
theorem opdsC_ok : ∀ (xs : List Operand) {g : Tr SV → (List SV → Prop) → Prop}, opdsC xs = .mk g → ∀ Γ k, g Γ k → xs.all (presS Γ) = true ∧ k (xs.map (evS Γ))
  | [],g,h,Γ,k,H=>by simp only [opdsC,Ops.mk.injEq] at h; subst h; exact ⟨rfl,H⟩
  | x :: r, g, h, Γ, k, H => by
    simp only [opdsC] at h
    cases hx:opdC x with
    | mk e =>
      cases hr:opdsC r with
      | mk g' =>
        rw [hx,hr] at h
        simp only [Ops.mk.injEq] at h
        subst h
        obtain ⟨h1,h2⟩:=opdC_ok x hx _ _ H
        obtain ⟨h3,h4⟩:=opdsC_ok r hr _ _ h2
        exact ⟨by simp [h1,h3],h4⟩
inductive BinF where
  | mk (f:SV→SV→(SV→Prop)→Prop)
noncomputable def binC (τ:Tys) (op:BinOp) (t:Nat):BinF:=
  match op with
  | .add => .mk fun x y K => match x, y with
    | .int k a, .int k' b=>bif sameKind k k' then K (.int k (wrapF k (a+b))) else False
    | x,y=>binS τ .add t x y K
  | .sub => .mk fun x y K => match x, y with
    | .int k a, .int k' b=>bif sameKind k k' then K (.int k (wrapF k (a - b))) else False
    | x,y=>binS τ .sub t x y K
  | .eql => .mk fun x y K => match x, y with
    | .int k a, .int k' b=>bif sameKind k k' then K (.bool (eqF a b)) else False
    | x,y=>binS τ .eql t x y K
  | .neq => .mk fun x y K => match x, y with
    | .int k a, .int k' b=>bif sameKind k k' then K (.bool (!eqF a b)) else False
    | x,y=>binS τ .neq t x y K
  | .lss => .mk fun x y K => match x, y with
    | .int k a, .int k' b=>bif sameKind k k' then K (.bool (ltF a b)) else False
    | x,y=>binS τ .lss t x y K
  | .geq => .mk fun x y K => match x, y with
    | .int k a, .int k' b=>bif sameKind k k' then K (.bool (!ltF a b)) else False
    | x,y=>binS τ .geq t x y K
  | op=> .mk fun x y K=>binS τ op t x y K
theorem binC_ok {op:BinOp} {t:Nat} {f:SV→SV→(SV→Prop)→Prop} (h:binC τ op t= .mk f) {x y:SV} {K:SV→Prop} (H:f x y K):binS τ op t x y K:=by
  cases op <;> simp only [binC,BinF.mk.injEq] at h <;> subst h <;> first
    | exact H
    | (split at H <;> exact H)
noncomputable def stepC (τ:Tys) (mth:Mth) (n:Nat) (o:Oper):Fst:=
  bif dstOk n o.dst then match dstC n o.dst with
    | .mk put => match o.op with
      | .move x => match opdC x with
        | .mk e=> .mk fun cl Γ S K=>e Γ fun s=>K (put s Γ) S
      | .assign x => match opdC x with
        | .mk e=> .mk fun cl Γ S K=>e Γ fun s=>K (put s Γ) S
      | .binOp op t x y _ => match opdC x with
        | .mk e1 => match opdC y with
          | .mk e2 => match binC τ op t with
            | .mk f=> .mk fun cl Γ S K=>e1 Γ fun a=>e2 Γ fun b=>f a b fun s=>K (put s Γ) S
      | .load t x => match opdC x with
        | .mk e=> .mk fun cl Γ S K=>e Γ fun a=>loadS τ t a S fun _ s S'=>K (put s Γ) S'
      | .nilCheck x => match opdC x with
        | .mk e=> .mk fun cl Γ S K=>e Γ fun a=>nilCheckS a S fun _ s S'=>K (put s Γ) S'
      | .fieldAddr t x i => match opdC x with
        | .mk e=> .mk fun cl Γ S K=>e Γ fun a=>fieldAddrS τ t a i S fun _ s S'=>K (put s Γ) S'
      | .extract x i => match opdC x with
        | .mk e=> .mk fun cl Γ S K=>e Γ fun a=>extractS a i S fun _ s S'=>K (put s Γ) S'
      | .indexAddr t x y => match opdC x with
        | .mk e1 => match opdC y with
          | .mk e2=> .mk fun cl Γ S K=>e1 Γ fun a=>e2 Γ fun b=>indexAddrS τ t a b S fun _ s S'=>K (put s Γ) S'
      | .store t x y => match opdC x with
        | .mk e1 => match opdC y with
          | .mk e2=> .mk fun cl Γ S K=>e1 Γ fun a=>e2 Γ fun b=>storeS τ t a b S fun _ s S'=>K (put s Γ) S'
      | .alloc t=> .mk fun cl Γ S K=>allocS τ t S fun _ s S'=>K (put s Γ) S'
      | .call { callee := .value (.func f), args, argTypes := _ } => match opdsC args.toList with
        | .mk g=> .mk fun cl Γ S K=>g Γ fun as=>cl f as S fun s S'=>K (put s Γ) S'
      | .call { callee := .builtin .append, args, argTypes } => match args.toList, argTypes.toList with
        | [x, y], [t, u] => match opdC x with
          | .mk e1 => match opdC y with
            | .mk e2=> .mk fun cl Γ S K=>e1 Γ fun a=>e2 Γ fun b=>appendS τ t u a b S fun _ s S'=>K (put s Γ) S'
        | _,_=> .mk fun cl Γ S K=>stepU ⟨τ,cl,mth⟩ n o Γ S fun _ Γ' S'=>K Γ' S'
      | .call { callee := .builtin .len, args, argTypes } => match args.toList, argTypes.toList with
        | [x], [t] => match opdC x with
          | .mk e=> .mk fun cl Γ S K=>e Γ fun a=>lenS τ t a S fun _ s S'=>K (put s Γ) S'
        | _,_=> .mk fun cl Γ S K=>stepU ⟨τ,cl,mth⟩ n o Γ S fun _ Γ' S'=>K Γ' S'
      | .call { callee := .value (.tmp x), args, argTypes := _ } => match opdC (.tmp x) with
        | .mk e => match opdsC args.toList with
          | .mk g=> .mk fun cl Γ S K=>e Γ fun a=>g Γ fun as=>callVS ⟨τ,cl,mth⟩ a as S fun _ s S'=>K (put s Γ) S'
      | .index t x y => match opdC x with
        | .mk e1 => match opdC y with
          | .mk e2=> .mk fun cl Γ S K=>e1 Γ fun a=>e2 Γ fun b=>indexS τ t a b S fun _ s S'=>K (put s Γ) S'
      | .box t x => match opdC x with
        | .mk e=> .mk fun cl Γ S K=>e Γ fun a=>boxS t a S fun _ s S'=>K (put s Γ) S'
      | .unOp u t x => match opdC x with
        | .mk e=> .mk fun cl Γ S K=>e Γ fun a=>unS u a S fun _ s S'=>K (put s Γ) S'
      | .convert s d x => bif readsConv τ (.convert s d x) then (match opdC x with
        | .mk e=> .mk fun cl Γ S K=>e Γ fun a=>convS τ s d a S fun _ s S'=>K (put s Γ) S') else (match opdC x with
        | .mk e=> .mk fun cl Γ S K=>e Γ fun a=>markS τ s d a S fun _ s S'=>K (put s Γ) S')
      | .pick c x y => match opdC c with
        | .mk e0 => match opdC x with
          | .mk e1 => match opdC y with
            | .mk e2=> .mk fun cl Γ S K=>e0 Γ fun c=>e1 Γ fun a=>e2 Γ fun b=>pickS c a b S fun _ s S'=>K (put s Γ) S'
      | .buildSlice t m ps => match opdsC (ps.toList.map (·.2)) with
        | .mk g=> .mk fun cl Γ S K=>g Γ fun as=>buildSliceS τ t m ((ps.toList.map (·.1)).zip as) S fun _ s S'=>K (put s Γ) S'
      | .slice t x lo hi none => match opdC x with
        | .mk e => match opdsC (lo.toList ++ hi.toList) with
          | .mk g=> .mk fun cl Γ S K=>e Γ fun a=>g Γ fun _=>sliceS τ t a (loS Γ lo) (hi.map (evS Γ)) none S fun _ s S'=>K (put s Γ) S'
      | _=> .mk fun cl Γ S K=>stepU ⟨τ,cl,mth⟩ n o Γ S fun _ Γ' S'=>K Γ' S'
  else .mk fun _ _ _ _=>False
theorem stepC_ok {n : Nat} {o : Oper} (hn : n < 1048575) {f : Stp} (h : stepC C.τ C.mth n o = .mk f) {K : Tr SV → SH → Prop} (H : f C.call Γ S K) : stepU C n o Γ S fun _ Γ' S' => K Γ' S' := by
  unfold stepC at h
  cases hd:dstOk n o.dst with
  | false=>rw [hd] at h; simp only [cond_false,Fst.mk.injEq] at h; subst h; exact H.elim
  | true =>
    rw [hd] at h
    simp only [cond_true] at h
    cases hp:dstC n o.dst with
    | mk put =>
      rw [hp] at h
      simp only at h
      have hput: ∀ s Γ,put s Γ=putS o.dst s Γ:=fun s Γ=>dstC_ok hn hd hp s Γ
      have fin: ∀ {X:Prop},o.op.operands.toList.all (presS Γ)=true→opXS C o.op Γ S (fun g s S'=>K (putS o.dst s Γ) S')→stepU C n o Γ S fun _ Γ' S'=>K Γ' S':=by
        intro X h1 h2
        unfold stepU opsOkS
        rw [hd,h1]
        exact h2
      split at h
      · rename_i x heq
        cases hx:opdC x with
        | mk e =>
          rw [hx] at h
          simp only [Fst.mk.injEq] at h
          subst h
          obtain ⟨p,H⟩:=opdC_ok _ hx _ _ H
          simp only [hput] at H
          exact fin (X:=True) (by rw [heq]; simp [Op.operands,p]) (by rw [heq]; exact H)
      · rename_i x heq
        cases hx:opdC x with
        | mk e =>
          rw [hx] at h
          simp only [Fst.mk.injEq] at h
          subst h
          obtain ⟨p,H⟩:=opdC_ok _ hx _ _ H
          simp only [hput] at H
          exact fin (X:=True) (by rw [heq]; simp [Op.operands,p]) (by rw [heq]; exact H)
      · rename_i op t x y u heq
        cases hx:opdC x with
        | mk e1 =>
          cases hy:opdC y with
          | mk e2 =>
            cases hb:binC C.τ op t with
            | mk f =>
              rw [hx,hy,hb] at h
              simp only [Fst.mk.injEq] at h
              subst h
              obtain ⟨p,H⟩:=opdC_ok _ hx _ _ H
              obtain ⟨q,H⟩:=opdC_ok _ hy _ _ H
              simp only [hput] at H
              exact fin (X:=True) (by rw [heq]; simp [Op.operands,p,q]) (by rw [heq]; exact binC_ok hb H)
      · rename_i t x heq
        cases hx:opdC x with
        | mk e =>
          rw [hx] at h
          simp only [Fst.mk.injEq] at h
          subst h
          obtain ⟨p,H⟩:=opdC_ok _ hx _ _ H
          simp only [hput] at H
          exact fin (X:=True) (by rw [heq]; simp [Op.operands,p]) (by rw [heq]; exact H)
      · rename_i x heq
        cases hx:opdC x with
        | mk e =>
          rw [hx] at h
          simp only [Fst.mk.injEq] at h
          subst h
          obtain ⟨p,H⟩:=opdC_ok _ hx _ _ H
          simp only [hput] at H
          exact fin (X:=True) (by rw [heq]; simp [Op.operands,p]) (by rw [heq]; exact H)
      · rename_i t x i heq
        cases hx:opdC x with
        | mk e =>
          rw [hx] at h
          simp only [Fst.mk.injEq] at h
          subst h
          obtain ⟨p,H⟩:=opdC_ok _ hx _ _ H
          simp only [hput] at H
          exact fin (X:=True) (by rw [heq]; simp [Op.operands,p]) (by rw [heq]; exact H)
      · rename_i x i heq
        cases hx:opdC x with
        | mk e =>
          rw [hx] at h
          simp only [Fst.mk.injEq] at h
          subst h
          obtain ⟨p,H⟩:=opdC_ok _ hx _ _ H
          simp only [hput] at H
          exact fin (X:=True) (by rw [heq]; simp [Op.operands,p]) (by rw [heq]; exact H)
      · rename_i t x y heq
        cases hx:opdC x with
        | mk e1 =>
          cases hy:opdC y with
          | mk e2 =>
            rw [hx,hy] at h
            simp only [Fst.mk.injEq] at h
            subst h
            obtain ⟨p,H⟩:=opdC_ok _ hx _ _ H
            obtain ⟨q,H⟩:=opdC_ok _ hy _ _ H
            simp only [hput] at H
            exact fin (X:=True) (by rw [heq]; simp [Op.operands,p,q]) (by rw [heq]; exact H)
      · rename_i t x y heq
        cases hx:opdC x with
        | mk e1 =>
          cases hy:opdC y with
          | mk e2 =>
            rw [hx,hy] at h
            simp only [Fst.mk.injEq] at h
            subst h
            obtain ⟨p,H⟩:=opdC_ok _ hx _ _ H
            obtain ⟨q,H⟩:=opdC_ok _ hy _ _ H
            simp only [hput] at H
            exact fin (X:=True) (by rw [heq]; simp [Op.operands,p,q]) (by rw [heq]; exact H)
      · rename_i t heq
        simp only [Fst.mk.injEq] at h
        subst h
        simp only [hput] at H
        exact fin (X:=True) (by rw [heq]; simp [Op.operands]) (by rw [heq]; exact H)
      · rename_i fid args ats heq
        cases hx:opdsC args.toList with
        | mk g =>
          rw [hx] at h
          simp only [Fst.mk.injEq] at h
          subst h
          obtain ⟨p,H⟩:=opdsC_ok _ hx _ _ H
          simp only [hput] at H
          exact fin (X:=True) (by rw [heq]; simp only [Op.operands,Call.operands,Array.toList_append,List.all_append,p,Bool.and_true]; rfl) (by rw [heq]; exact H)
      · rename_i args ats heq
        split at h
        · rename_i x y t u ea eb
          have a1:=Array.eq2 ea
          have a2:=Array.eq2 eb
          subst a1 a2
          cases hx:opdC x with
          | mk e1 =>
            cases hy:opdC y with
            | mk e2 =>
              rw [hx,hy] at h
              simp only [Fst.mk.injEq] at h
              subst h
              obtain ⟨p,H⟩:=opdC_ok _ hx _ _ H
              obtain ⟨q,H⟩:=opdC_ok _ hy _ _ H
              simp only [hput] at H
              exact fin (X:=True) (by rw [heq]; simp [Op.operands,Call.operands,p,q]) (by rw [heq]; exact H)
        · simp only [Fst.mk.injEq] at h
          subst h
          exact H
      · rename_i args ats heq
        split at h
        · rename_i x t ea eb
          have a1:args= #[x]:=by apply Array.ext'; simpa using ea
          have a2:ats= #[t]:=by apply Array.ext'; simpa using eb
          subst a1 a2
          cases hx:opdC x with
          | mk e =>
            rw [hx] at h
            simp only [Fst.mk.injEq] at h
            subst h
            obtain ⟨p,H⟩:=opdC_ok _ hx _ _ H
            simp only [hput] at H
            exact fin (X:=True) (by rw [heq]; simp [Op.operands,Call.operands,p]) (by rw [heq]; exact H)
        · simp only [Fst.mk.injEq] at h
          subst h
          exact H
      · rename_i x args ats heq
        cases hx:opdC (.tmp x) with
        | mk e =>
          cases hg:opdsC args.toList with
          | mk g =>
            rw [hx,hg] at h
            simp only [Fst.mk.injEq] at h
            subst h
            obtain ⟨p,H⟩:=opdC_ok _ hx _ _ H
            obtain ⟨q,H⟩:=opdsC_ok _ hg _ _ H
            simp only [hput] at H
            exact fin (X:=True) (by rw [heq]; simp only [Op.operands,Call.operands,Array.toList_append,List.all_append,q,Bool.and_true]; simp [p]) (by rw [heq]; exact H)
      · rename_i t x y heq
        cases hx:opdC x with
        | mk e1 =>
          cases hy:opdC y with
          | mk e2 =>
            rw [hx,hy] at h
            simp only [Fst.mk.injEq] at h
            subst h
            obtain ⟨p,H⟩:=opdC_ok _ hx _ _ H
            obtain ⟨q,H⟩:=opdC_ok _ hy _ _ H
            simp only [hput] at H
            exact fin (X:=True) (by rw [heq]; simp [Op.operands,p,q]) (by rw [heq]; exact H)
      · rename_i t x heq
        cases hx:opdC x with
        | mk e =>
          rw [hx] at h
          simp only [Fst.mk.injEq] at h
          subst h
          obtain ⟨p,H⟩:=opdC_ok _ hx _ _ H
          simp only [hput] at H
          exact fin (X:=True) (by rw [heq]; simp [Op.operands,p]) (by rw [heq]; exact H)
      · rename_i u t x heq
        cases hx:opdC x with
        | mk e =>
          rw [hx] at h
          simp only [Fst.mk.injEq] at h
          subst h
          obtain ⟨p,H⟩:=opdC_ok _ hx _ _ H
          simp only [hput] at H
          exact fin (X:=True) (by rw [heq]; simp [Op.operands,p]) (by rw [heq]; exact H)
      · rename_i s d x heq
        cases hx:opdC x with
        | mk e =>
          rw [hx] at h
          have ir:isR (.convert s d x)=false:=rfl
          cases hr:readsConv C.τ (.convert s d x) with
          | true =>
            rw [hr] at h
            simp only [cond_true,Fst.mk.injEq] at h
            subst h
            obtain ⟨p,H⟩:=opdC_ok _ hx _ _ H
            simp only [hput] at H
            exact fin (X:=True) (by rw [heq]; simp [Op.operands,p]) (by rw [heq]; unfold opXS; rw [ir,hr]; exact H)
          | false =>
            rw [hr] at h
            simp only [cond_false,Fst.mk.injEq] at h
            subst h
            obtain ⟨p,H⟩:=opdC_ok _ hx _ _ H
            simp only [hput] at H
            exact fin (X:=True) (by rw [heq]; simp [Op.operands,p]) (by rw [heq]; unfold opXS; rw [ir,hr]; exact H)
      · rename_i c x y heq
        cases hc:opdC c with
        | mk e0 =>
          cases hx:opdC x with
          | mk e1 =>
            cases hy:opdC y with
            | mk e2 =>
              rw [hc,hx,hy] at h
              simp only [Fst.mk.injEq] at h
              subst h
              obtain ⟨p0,H⟩:=opdC_ok _ hc _ _ H
              obtain ⟨p,H⟩:=opdC_ok _ hx _ _ H
              obtain ⟨q,H⟩:=opdC_ok _ hy _ _ H
              simp only [hput] at H
              exact fin (X:=True) (by rw [heq]; simp [Op.operands,p0,p,q]) (by rw [heq]; exact H)
      · rename_i t m ps heq
        cases hg:opdsC (ps.toList.map (·.2)) with
        | mk g =>
          rw [hg] at h
          simp only [Fst.mk.injEq] at h
          subst h
          obtain ⟨q,H⟩:=opdsC_ok _ hg _ _ H
          simp only [hput] at H
          have hz:(ps.toList.map (·.1)).zip ((ps.toList.map (·.2)).map (evS Γ))=ps.toList.map fun p=>(p.1,evS Γ p.2):=by
            generalize ps.toList=L
            induction L with
            | nil=>rfl
            | cons a L ih=>simp only [List.map_cons,List.zip_cons_cons,ih]
          rw [hz] at H
          exact fin (X:=True) (by rw [heq]; simpa [Op.operands] using q) (by rw [heq]; exact H)
      · rename_i t x lo hi heq
        cases hx:opdC x with
        | mk e =>
          cases hg:opdsC (lo.toList++hi.toList) with
          | mk g =>
            rw [hx,hg] at h
            simp only [Fst.mk.injEq] at h
            subst h
            obtain ⟨p,H⟩:=opdC_ok _ hx _ _ H
            obtain ⟨q,H⟩:=opdsC_ok _ hg _ _ H
            simp only [hput] at H
            refine fin (X:=True) ?_ ?_
            · rw [heq]
              simp only [List.all_append,Bool.and_eq_true] at q
              cases lo <;> cases hi <;> simp_all [Op.operands]
            · rw [heq]
              cases hi <;> exact H
      · simp only [Fst.mk.injEq] at h
        subst h
        exact H
end Go.Ey
namespace Go.Ey
open Go Go.Wc
variable {P:Program} {ν:Nu} {S:SH} {F:Fr} {h:Hp} {τ:Tys} {Γ:Tr SV} {Γr:Env} {C:Ctx}
structure LD where
  T:Nat
  op:Bool
  l:List SV
  val:Nat→SV
noncomputable def LD.obj (D:LD):SO:= .blk D.T D.l.length D.op .undef (wrC .e D.l 0)
noncomputable def lateD (τ:Tys) (o:Op) (Γ:Tr SV):Option LD:=
  match o with
  | .convert s d x => match τ.get s, τ.get d with
    | some ts, some td => match ts.kd, td.kd, evS Γ x with
      | .str, .slice e, .str b => match τ.get e with
        | some te => match te.kd with
          | .int .u8=>some ⟨e,true,bytesL b,fun nm=> .so nm 0 b.size 1 0⟩
          | _=>none
        | none=>none
      | _,_,_=>none
    | _,_=>none
  | .alloc e => match τ.get e with
    | some te=>some ⟨e,false,zeroL te,fun nm=> .ad nm 0⟩
    | none=>none
  | _=>none
def isLate:Op→Bool
  | .convert .. =>true
  | .alloc _=>true
  | _=>false
def LOk (D:LD) (ν:Nu) (b m:Nat) (v:Value) (ob:Obj):Prop:=
  ∀ ν' nm,NLe ν ν'→ν' nm=some (b,m)→VR ν' (D.val nm) v∧(D.l.length<1048576→OB ν' m D.obj ob)
theorem ob_row {ν':Nu} {l:List SV} {vs:List Value} (hv:VRL ν' l vs) {cs:Array Value} {z:Nat × Nat} {T m:Nat} {op:Bool} (hl:l.length<1048576) (hcs: ∀ i,i<vs.length→cs[i]? =vs[i]?)
    (hm:cs.size=m) (hle:vs.length≤cs.size) (hop:op=false→cs.size=vs.length) (hz:Zok cs.size z):OB ν' m (.blk T l.length op .undef (wrC .e l 0)) (.cells cs T z):=by
  have hlen:=hv.len
  subst hm
  refine ⟨cs,z,rfl,rfl,by omega,fun e=>by rw [hop e,hlen],hz,fun i hi=> ?_⟩
  obtain ⟨s,hs⟩: ∃ s,l[i]? =some s:=⟨l[i],List.getElem?_eq_getElem hi⟩
  obtain ⟨v,h1,h2⟩:=hv.get hs
  refine ⟨v,by rw [hcs i (by omega),h1], ?_⟩
  rw [wrC_cell _ _ _ _ _ (by omega),if_pos (by omega)]
  simpa only [Nat.sub_zero,List.getD_eq_getElem?_getD,hs,Option.getD_some] using h2
theorem lateD_opC {o : Op} {D : LD} (H : lateD τ o Γ = some D) (hv : ∀ x ∈ o.operands.toList, VR ν (evS Γ x) (ev Γr x)) {rt : Nat} :
    opC τ [] [] rt o Γr h fun v h'=> ∃ ob m,h'=h.push ob∧LOk D ν h.size m v ob:=by
  unfold lateD at H
  split at H
  · rename_i s d x
    have hx:=hv x (by simp [Op.operands])
    simp only [opC]
    split at H
    · rename_i ts td h1 h2
      rw [h1,h2]
      simp only
      split at H
      · rename_i e b e1 e2 e3
        rw [e3] at hx; simp only [VR] at hx; rw [hx,e1,e2]
        simp only
        split at H
        · rename_i te hte
          rw [hte]
          simp only
          split at H
          · rename_i hk
            cases H
            rw [hk]
            intro c hc
            have hbl:(byteVals b).length=b.size:=by unfold byteVals; rw [List.length_map]; rfl
            have hsz:(byteVals b++List.replicate (c - b.size) (Value.int .u8 0)).toArray.size=c:=by simp [hbl]; omega
            refine ⟨_,c,rfl,fun ν' nm hL hn=>⟨?_,fun hl=> ?_⟩⟩
            · simp only [VR]
              exact ⟨_,hn,by simp⟩
            · exact ob_row (bytesL_ok b) hl (fun i hi=>by simp [List.getElem?_append_left hi]) hsz (by rw [hsz,hbl]; exact hc) (fun e=>by cases e) (.inr (by rw [hsz]; exact Nat.le_refl _))
          · cases H
        · cases H
      · cases H
    · cases H
  · rename_i e
    simp only [opC]
    split at H
    · rename_i te hte
      cases H
      rw [hte]
      refine ⟨_,te.zero.cells.size,rfl,fun ν' nm hL hn=>⟨?_,fun hl=> ?_⟩⟩
      · simp only [VR]; exact ⟨_,hn,rfl⟩
      · exact ob_row (zeroL_ok te) hl (fun i hi=>by simp) rfl (by simp) (fun _=>by simp) (.inl rfl)
    · cases H
  · cases H
end Go.Ey
namespace Go.Ey
open Go Go.Wc
variable {ds:List Deferred} {P:Program} {ν:Nu} {S:SH} {F:Fr} {h:Hp} {τ:Tys} {Γ:Tr SV} {Γr:Env} {C:Ctx}
noncomputable def Tr.del {α:Type}:Tr α→Nat→Tr α:=
  Tr.rec (motive:=fun _=>Nat→Tr α) (fun _=> .e) (fun l u r sl sr=>Nat.rec (motive:=fun _=>Tr α) (.n l none r) (fun j _=>Bool.rec (motive:=fun _=>Tr α) (.n l u (sr (Nat.div j 2))) (.n (sl (Nat.div j 2)) u r) (Nat.beq (Nat.mod j 2) 0)))
theorem Tr.get_del {α : Type} : ∀ (t : Tr α) (i j : Nat), (t.del i).get j = if i = j then none else t.get j
  | .e,i,j=>by show (Tr.e:Tr α).get j=_; simp
  | .n l u r,0,0=>rfl
  | .n l u r,0,j+1=>by show (Tr.n l none r).get (j+1)=_; rw [Tr.get_n,Tr.get_n]; simp
  | .n l u r, i + 1, j => by
    have e:(Tr.n l u r).del (i+1)=if i % 2=0 then .n (l.del (i / 2)) u r else .n l u (r.del (i / 2)):=by
      show Bool.rec (motive:=fun _=>Tr α) (.n l u (r.del (i / 2))) (.n (l.del (i / 2)) u r) (Nat.beq (i % 2) 0)=_
      rw [beq_mod]
      by_cases e:i % 2=0
      · rw [if_pos e,decide_eq_true e]
      · rw [if_neg e,decide_eq_false e]
    rw [e]
    cases j with
    | zero=>split <;> (rw [Tr.get_n0,if_neg (by omega)]; rfl)
    | succ j =>
      split
      · rw [Tr.get_n, Tr.get_n]
        split
        · rw [Tr.get_del l _ _]
          by_cases hij:i=j
          · subst hij; simp
          · rw [if_neg (by omega),if_neg (by omega)]
        · rw [if_neg (by omega)]
      · rw [Tr.get_n, Tr.get_n]
        split
        · rw [if_neg (by omega)]
        · rw [Tr.get_del r _ _]
          by_cases hij:i=j
          · subst hij; simp
          · rw [if_neg (by omega),if_neg (by omega)]
noncomputable def delS (dst:Option Nat) (Γ:Tr SV):Tr SV:=match dst with
  | some d=>Γ.del d
  | none=>Γ
theorem FitsU.del {n:Nat} {a:Act} (hf:FitsU ds n ν Γ a) (d:Option Nat):FitsU ds n ν (delS d Γ) a:=by
  cases d with
  | none=>exact hf
  | some d =>
    refine ⟨hf.1,hf.2.1,fun t s hs=> ?_⟩
    simp only [delS,Tr.get_del] at hs
    split at hs
    · cases hs
    · exact hf.2.2 t s hs
inductive Plan2 where
  | done
  | take (i:Nat) (D:List Nat) (p:Plan2)
  | prep (p:Plan2)
  | late (p:Plan2)
  | one (i:Nat) (p:Plan2)
def apart2 (ops : Array Oper) (i j : Nat) : Bool := match ops[i]?, ops[j]? with
  | some a, some b => match a.dst with
    | none=>true
    | some d=>b.op.operands.toList.all (fun x=>match x with | .tmp t=> !Nat.beq t d | _=>true) && (match b.dst with | some e=> !Nat.beq e d | none=>true)
  | _,_=>false
def ok2 (ops : Array Oper) (j : Nat) : Nat → Plan2 → Nat → Array Bool → Nat → Bool → List Nat → Bool
  | 0,_,_,_,_,_,_=>false
  | _+1, .done,_,l,m,_,_=>(Region.ready .any ops l).isEmpty && Nat.beq m 2
  | g + 1, .take i D p, f, l, m, e, Ds => match f with
    | 0=>false
    | f+1=>Region.free .any ops l i && (Region.ready .any ops l).contains i && !memN i Ds && !memN i D && D.all (fun d=>descB ops ops.size i d) && (!Nat.beq m 1 || apart2 ops i j) && ok2 ops j g p f (l.setIfInBounds i true) m e (D++Ds)
  | g+1, .prep p,f,l,m,e,Ds=>Nat.beq m 0 && !e && ok2 ops j g p f l 1 false Ds
  | g + 1, .late p, f, l, m, e, Ds => Nat.beq m 1 && (bif e then ok2 ops j g p f l 2 true Ds else match f with
    | 0=>false
    | f+1=>(Region.ready .any ops l==[j]) && ok2 ops j g (.late p) f (l.setIfInBounds j true) 1 true Ds)
  | g + 1, .one i p, f, l, m, e, Ds => match f with
    | 0=>false
    | f + 1 => !(Region.ready .any ops l).isEmpty && (Region.ready .any ops l).all fun k => bif Nat.beq k i then (!Nat.beq m 1 || apart2 ops i j) && ok2 ops j g p f (l.setIfInBounds i true) m e Ds
        else Nat.beq k j && Nat.beq m 1 && !e && ok2 ops j g (.one i p) f (l.setIfInBounds j true) 1 true Ds
noncomputable def WPl2 (C:Ctx) (n:Nat) (ops:List Oper) (j:Nat):Plan2→Tr SV→SH→FactsU→Option LD→(Tr SV→SH→Prop)→Prop
  | .done,Γ,S,_,_,K=>K Γ S
  | .take i D p, Γ, S, Fs, L, K => match ops[i]? with
    | none=>False
    | some o=>gdU ops o Γ (bif opsOkS n Γ o then opRS C.τ o.op Γ S fun g s S'=>bif g S' then WPl2 C n ops j p (putS o.dst s Γ) S' ((D,g)::Fs) L K else False else False)
        (bif dstOk n o.dst then WPl2 C n ops j p (putS o.dst .undef Γ) S Fs L K else False)
  | .prep p, Γ, S, Fs, _, K => match ops[j]? with
    | none=>False
    | some o => match o.guard with
      | some _=>False
      | none => bif opsOkS n (delS o.dst Γ) o then match lateD C.τ o.op (delS o.dst Γ) with
        | some D=>bif Nat.blt D.l.length 1048576 then WPl2 C n ops j p (delS o.dst Γ) S Fs (some D) K else False
        | none=>False
        else False
  | .late p, Γ, S, Fs, L, K => match ops[j]?, L with
    | some o,some D=>bif Nat.blt (S.next+1) 1048576 && allU Fs (S.new D.obj) then WPl2 C n ops j p (putS o.dst (D.val S.next) Γ) (S.new D.obj) Fs L K else False
    | _,_=>False
  | .one i p, Γ, S, Fs, L, K => match ops[i]? with
    | none=>False
    | some o=>gdU ops o Γ (stepU C n o Γ S fun _ Γ' S'=>bif allU Fs S' then WPl2 C n ops j p Γ' S' Fs L K else False)
        (bif dstOk n o.dst then WPl2 C n ops j p (putS o.dst .undef Γ) S Fs L K else False)
theorem opRS_same {o:Op} {K:KS}:True:=trivial
theorem stepU_wp2 {n:Nat} {o:Oper} {KU:(SH→Bool)→Tr SV→SH→Prop} {a:Act} {w:World} {next:Act→World→Prop} {Q:Exit→Act→World→Prop}
    (hA:Agree P C.τ) (hC:CallOk P C.call) (hM:MthOk P C.mth) (hn:n<1048575) (hf:FitsU ds n ν Γ a) (R:Rel ν S F w.heap)
    (k: ∀ a' w' v s S' ν',a'=a.put o.dst v→FitsU ds n ν' (putS o.dst s Γ) a'→Same w w'→NLe ν ν'→SLe S S'→Rel ν' S' F w'.heap→(∃ g,KU g (putS o.dst s Γ) S')→next a' w') (H:stepU C n o Γ S KU):o.wp P a w next Q:=by
  unfold stepU at H
  cases hok:opsOkS n Γ o with
  | false=>rw [hok] at H; exact H.elim
  | true =>
    rw [hok] at H; simp only [cond_true] at H
    simp only [opsOkS,Bool.and_eq_true] at hok
    have hsel: ∀ cs b,o.op ≠ .select cs b:=fun cs b e=>by rw [e] at H; exact not_select (rt:=[]) H
    obtain ⟨hv,hp⟩:=ops_ok hf hok.2
    have hout:=opXS_out (P:=P) hA hC hM R hv H
    unfold Oper.wp
    rw [exec_env hf.1 hsel hp]
    generalize (execOp (ev (envOf a)) o).run P w=r at hout
    have go: ∀ {v:Value} {w':World},Same w w'→PC (fun g s S'=>KU g (putS o.dst s Γ) S') ν S F v w'.heap→next (a.put o.dst v) w':=by
      rintro v w' hs ⟨ν',s,g,S',k1,k2,k3,k4,k5⟩
      exact k _ _ v s S' ν' rfl ((hf.mono k3).put hn hok.1 k2) hs k3 k4 k5 ⟨g,k1⟩
    unfold Out at hout
    split at hout
    · exact go hout.1 hout.2
    · exact go hout.1 hout.2
    · obtain ⟨h1, h2⟩ := hout
      refine Calls.mono h2 fun e w'' ⟨v,he,hs,hk⟩=> ?_
      subst he
      exact go (h1.trans hs) hk
    · exact hout.elim
theorem evS_put {n d:Nat} {s:SV} {x:Operand} (hd:d<1048575) (hx: ∀ t,x= .tmp t→t ≠ d):evS (putS (some d) s Γ) x=evS Γ x:=by
  cases x with
  | tmp t =>
    simp only [evS,putS]
    rw [Tr.get_set _ _ _ _ (by omega),if_neg fun e=>hx t rfl e.symm]
  | _=>rfl
theorem lateD_put {n:Nat} {o:Op} {d:Option Nat} {s:SV} (hd:dstOk n d=true) (hn:n<1048575) (hx: ∀ t e, .tmp t ∈ o.operands.toList→d=some e→t ≠ e):lateD τ o (putS d s Γ)=lateD τ o Γ:=by
  cases d with
  | none=>rfl
  | some d =>
    have hlt:d<n:=by simpa [dstOk,Nat.blt_eq] using hd
    unfold lateD
    cases o with
    | convert a b x =>
      simp only
      rw [evS_put (n:=n) (by omega) fun t e=>hx t d (by subst e; simp [Op.operands]) rfl]
    | _=>rfl
theorem pres_put {n:Nat} {d:Option Nat} {s:SV} (hd:dstOk n d=true) (hn:n<1048575) {x:Operand} (h:presS Γ x=true):presS (putS d s Γ) x=true:=by
  cases d with
  | none=>exact h
  | some d =>
    have hlt:d<n:=by simpa [dstOk,Nat.blt_eq] using hd
    cases x with
    | tmp t =>
      simp only [presS,putS] at h ⊢
      rw [Tr.get_set _ _ _ _ (by omega)]
      split
      · rfl
      · exact h
    | _=>rfl
structure PdOk (n:Nat) (D:LD) (oj:Oper) (F0:Fr) (ν:Nu) (a:Act) (b m:Nat) (v:Value) (ob:Obj):Prop where
  ok:LOk D ν b m v ob
  f0:F0 b=none
  tm: ∀ d,oj.dst=some d→a.tmps[d]? =some v
def withB (F0:Fr) (b:Nat) (ob:Obj):Fr:=fun x=>if x=b then some ob else F0 x
theorem LOk.mono {D:LD} {ν ν':Nu} {b m:Nat} {v:Value} {ob:Obj} (h:LOk D ν b m v ob) (hL:NLe ν ν'):LOk D ν' b m v ob:=fun ν2 nm h1 h2=>h ν2 nm (hL.trans h1) h2
theorem rel_less {F0:Fr} {b:Nat} {ob:Obj} (h0:F0 b=none) (R:Rel ν S (withB F0 b ob) h):Rel ν S F0 h∧h[b]? =some ob∧ ∀ nm o v x,S.t.get nm=some (o,v)→o.live=true→ν nm=some x→x.1 ≠ b:=by
  have hb:=R.fr b ob (by simp [withB])
  refine ⟨⟨R.obj,R.lt,R.lt2,R.sep,fun b' ob' hF=>R.fr b' ob' ?_⟩,hb.1,hb.2⟩
  unfold withB
  by_cases e:b'=b
  · subst e; rw [h0] at hF; cases hF
  · rw [if_neg e]; exact hF
theorem rel_more {F0:Fr} (R:Rel ν S F0 h) (ob:Obj):Rel ν S (withB F0 h.size ob) (h.push ob)∧F0 h.size=none:=by
  have hn:F0 h.size=none:=by
    cases hF:F0 h.size with
    | none=>rfl
    | some o=>have:=lt_of_get (R.fr _ _ hF).1; omega
  refine ⟨⟨fun nm o v hg hl=> ?_,R.lt,R.lt2,R.sep,fun b' ob' hF=> ?_⟩,hn⟩
  · obtain ⟨x, ob', g1, g2, g3⟩ := R.obj nm o v hg hl
    exact ⟨x,ob',g1,push_get_lt g2,g3⟩
  · unfold withB at hF
    by_cases e:b'=h.size
    · subst e
      rw [if_pos rfl] at hF; cases hF
      refine ⟨push_get _ _,fun nm o v x hg hl hx e=> ?_⟩
      obtain ⟨x',ob'',g1,g2,_⟩:=R.obj nm o v hg hl
      rw [hx] at g1; cases g1
      have:=lt_of_get g2
      omega
    · rw [if_neg e] at hF
      exact ⟨push_get_lt (R.fr _ _ hF).1,(R.fr _ _ hF).2⟩
theorem put_tmps {a:Act} {d e:Nat} {v u:Value} (h:a.tmps[e]? =some v) (hne:e ≠ d):(a.put (some d) u).tmps[e]? =some v:=by
  simp only [Act.put]
  rw [Array.getElem?_setIfInBounds_ne (Ne.symm hne)]
  exact h
theorem put_same {a:Act} {d:Nat} {v:Value} (h:a.tmps[d]? =some v):a.put (some d) v=a:=by
  obtain ⟨tmps,df⟩:=a
  simp only [Act.put,Act.mk.injEq,and_true] at h ⊢
  apply Array.ext_getElem?
  intro i
  by_cases e:d=i
  · subst e
    rw [Array.getElem?_setIfInBounds_self,h]
    have:d<tmps.size:=by rw [Array.getElem?_eq_some_iff] at h; exact h.1
    simp [this]
  · rw [Array.getElem?_setIfInBounds_ne e]
theorem fits_late {n:Nat} {a:Act} {o:Oper} {v:Value} (hf:FitsU ds n ν Γ a) (h: ∀ d,o.dst=some d→Γ.get d=none):FitsU ds n ν Γ (a.put o.dst v):=by
  cases hd:o.dst with
  | none=>exact hf
  | some d =>
    refine ⟨by simp [Act.put,hf.1],hf.2.1,fun t s hs=> ?_⟩
    obtain ⟨u,h1,h2⟩:=hf.2.2 t s hs
    refine ⟨u,put_tmps h1 ?_,h2⟩
    rintro rfl
    rw [h _ hd] at hs; cases hs
theorem apart2_spec {ops:Array Oper} {i j:Nat} {oi oj:Oper} (hi:ops[i]? =some oi) (hj:ops[j]? =some oj) (h:apart2 ops i j=true):(∀ t e, .tmp t ∈ oj.op.operands.toList→oi.dst=some e→t ≠ e)∧ ∀ d e,oi.dst=some d→oj.dst=some e→e ≠ d:=by
  unfold apart2 at h
  rw [hi,hj] at h
  simp only at h
  split at h
  · rename_i hd; exact ⟨fun t e _ he=>(by rw [hd] at he; cases he),fun d e he _=>(by rw [hd] at he; cases he)⟩
  · rename_i d hd
    simp only [Bool.and_eq_true,List.all_eq_true] at h
    refine ⟨fun t e ht he=> ?_,fun d' e he hj'=> ?_⟩
    · rw [hd] at he; cases he
      have:=h.1 _ ht
      simp only [Bool.not_eq_true'] at this
      rintro rfl; simp at this
    · rw [hd] at he; cases he
      have:=h.2
      rw [hj'] at this
      simp only [Bool.not_eq_true'] at this
      rintro rfl; simp at this
def St2 (P : Program) (τ : Tys) (n j : Nat) (ops : List Oper) (F0 F : Fr) (ν : Nu) (S : SH) (Γ : Tr SV) (a : Act) (L : Option LD) (m : Nat) (e : Bool) : Prop :=
  (m=1→ ∃ o D,ops[j]? =some o∧o.guard=none∧L=some D∧opsOkS n Γ o=true∧lateD τ o.op Γ=some D∧D.l.length<1048576∧(∀ d,o.dst=some d→Γ.get d=none)∧
    (e=true→ ∃ b mm v ob,PdOk n D o F0 ν a b mm v ob∧F=withB F0 b ob))∧
  ((m=1→e=false)→F=F0)
theorem St2.keep {n j i:Nat} {ops:List Oper} {F0 F:Fr} {ν ν':Nu} {S S':SH} {a:Act} {L:Option LD} {m:Nat} {e:Bool} {oi:Oper} {s:SV} {v:Value} (h:St2 P τ n j ops F0 F ν S Γ a L m e) (hn:n<1048575) (hi:ops[i]? =some oi)
    (hd:dstOk n oi.dst=true) (hap:(!Nat.beq m 1 || apart2 ops.toArray i j)=true) (hL:NLe ν ν'):St2 P τ n j ops F0 F ν' S' (putS oi.dst s Γ) (a.put oi.dst v) L m e:=by
  refine ⟨fun hm=> ?_,h.2⟩
  obtain ⟨o,D,h1,h2,h3,h4,h5,h6,h8,h7⟩:=h.1 hm
  subst hm
  have hap':apart2 ops.toArray i j=true:=by simpa using hap
  obtain ⟨ap1,ap2⟩:=apart2_spec (by simpa using hi) (by simpa using h1) hap'
  refine ⟨o,D,h1,h2,h3, ?_,by rw [lateD_put hd hn ap1]; exact h5,h6,fun d hdj=> ?_,fun he=> ?_⟩
  · simp only [opsOkS, Bool.and_eq_true, List.all_eq_true] at h4 ⊢
    exact ⟨h4.1,fun x hx=>pres_put hd hn (h4.2 x hx)⟩
  · cases hdi : oi.dst with
    | none=>exact h8 d hdj
    | some d' =>
      have hne:=ap2 d' d hdi hdj
      have hlt:(d':Nat)<n:=by rw [hdi] at hd; simpa [dstOk,Nat.blt_eq] using hd
      show (Γ.set s d').get d=none
      rw [Tr.get_set _ _ _ _ (Nat.lt_of_le_of_lt (Nat.succ_le_of_lt hlt) (by omega)),if_neg (Ne.symm hne)]
      exact h8 d hdj
  · obtain ⟨b, mm, v', ob, g1, g2⟩ := h7 he
    refine ⟨b,mm,v',ob,⟨g1.ok.mono hL,g1.f0,fun d hdj=> ?_⟩,g2⟩
    cases hdi:oi.dst with
    | none=>exact g1.tm d hdj
    | some d'=>exact put_tmps (g1.tm d hdj) (ap2 d' d hdi hdj)
theorem WPl2_sound {n j : Nat} {ops : List Oper} {Q : Exit → Act → World → Prop} (hA : Agree P C.τ) (hC : CallOk P C.call) (hM : MthOk P C.mth) (hn : n < 1048575)
    (hsel:Region.noSelect ops.toArray=true) (hQ: ∀ c a w,¬ Q (.panic c) a w) {w0:World} {ν0:Nu} {S0:SH} {F0:Fr} {K:Tr SV→SH→Prop}
    (hK: ∀ ν' Γ' S' a' w',FitsU ds n ν' Γ' a'→Same w0 w'→NLe ν0 ν'→SLe S0 S'→Rel ν' S' F0 w'.heap→K Γ' S'→Q .normal a' w'):
    ∀ (g : Nat) (p : Plan2) {Γ : Tr SV} {ν : Nu} {S : SH} {F : Fr} {Fs : FactsU} {Fa : Facts} {L : Option LD} {a : Act} {w : World} {fuel : Nat} {l : Array Bool} {m : Nat} {e : Bool} {Ds : List Nat}, FitsU ds n ν Γ a → Same w0 w → NLe ν0 ν → SLe S0 S →
      Rel ν S F w.heap→FR ν S Fs Fa→allU Fs S=true→Cl ops.toArray l→(∀ q ∈ Fa,∀ d ∈ q.1,d ∈ Ds)→ok2 ops.toArray j g p fuel l m e Ds=true→(∀ q ∈ Fa,q.2 w.heap)→St2 P C.τ n j ops F0 F ν S Γ a L m e→
      WPl2 C n ops j p Γ S Fs L K→wpAnyG P ops.toArray Q (SF Fa) fuel l a w:=by
  intro g
  induction g with
  | zero=>intro p Γ ν S F Fs Fa L a w fuel l m e Ds hf hs hN hL R hFR hall hc hDs hp; simp [ok2] at hp
  | succ g ih =>
    intro p Γ ν S F Fs Fa L a w fuel l m e Ds hf hs hN hL R hFR hall hc hDs hp hS hst H
    have early: ∀ {o:Oper} {D:LD} {fuel:Nat},ops[j]? =some o→o.guard=none→opsOkS n Γ o=true→lateD C.τ o.op Γ=some D→F=F0→j ∈ Region.ready .any ops.toArray l→
        (∀ (v:Value) (w':World) (b mm:Nat) (ob:Obj),Same w w'→PdOk n D o F0 ν (a.put o.dst v) b mm v ob→Rel ν S (withB F0 b ob) w'.heap→(∀ q ∈ Fa,q.2 w'.heap)→wpAnyG P ops.toArray Q (SF Fa) fuel (l.setIfInBounds j true) (a.put o.dst v) w')→
        wpOp P ops.toArray Q j (fun a' w'=>SF Fa (l.setIfInBounds j true) w'∧wpAnyG P ops.toArray Q (SF Fa) fuel (l.setIfInBounds j true) a' w') a w:=by
      intro o D fuel ho hgd hok hD hF hr hk
      subst hF
      unfold wpOp
      have ho':ops.toArray[j]? =some o:=by simpa using ho
      simp only [ho']
      have hw:Region.wanted o (yielded ops.toArray a.tmps)=true:=by simp [Region.wanted,hgd]
      rw [if_pos hw]
      simp only [opsOkS,Bool.and_eq_true] at hok
      obtain ⟨hv,hpp⟩:=ops_ok hf hok.2
      have hsel': ∀ cs b,o.op ≠ .select cs b:=fun cs b=>Region.noSelect_spec hsel j o cs b ho'
      have hout:=opC_sound (P:=P) (w:=w) (o:=o) (rt:=0) hA specsOk_nil specsOk_nil (lateD_opC hD hv)
      left
      unfold Oper.wp
      rw [exec_env hf.1 hsel' hpp]
      generalize (execOp (ev (envOf a)) o).run P w=r at hout
      have fin: ∀ {v:Value} {w':World},Same w w'→(∃ ob mm,w'.heap=w.heap.push ob∧LOk D ν w.heap.size mm v ob)→SF Fa (l.setIfInBounds j true) w'∧wpAnyG P ops.toArray Q (SF Fa) fuel (l.setIfInBounds j true) (a.put o.dst v) w':=by
        rintro v w' hsm ⟨ob,mm,hh,hl⟩
        obtain ⟨R2,hb0⟩:=rel_more R ob
        rw [← hh] at R2
        have hfa:=FR.all (NLe.refl ν) (SLe.refl S) R2 hFR hall
        refine ⟨SF_of hfa,hk v w' _ mm ob hsm ⟨hl,hb0,fun d hd=> ?_⟩ R2 hfa⟩
        have hlt:d<n:=by have:=hok.1; rw [hd] at this; simpa [dstOk,Nat.blt_eq] using this
        rw [hd]
        simp only [Act.put]
        rw [Array.getElem?_setIfInBounds_self_of_lt (by rw [hf.1]; exact hlt)]
      unfold Out at hout
      split at hout
      · exact fin hout.1 hout.2
      · exact fin hout.1 hout.2
      · obtain ⟨h1, h2⟩ := hout
        refine Calls.mono h2 fun ex w'' ⟨v,he,hsm,hk'⟩=> ?_
        subst he
        exact fin (h1.trans hsm) hk'
      · exact hout.elim
    cases p with
    | done =>
      simp only [ok2,Bool.and_eq_true,List.isEmpty_iff,Nat.beq_eq] at hp
      have hF:F=F0:=hst.2 (fun h=>by omega)
      subst hF
      have hq:=hK _ _ _ _ _ hf hs hN hL R H
      cases fuel with
      | zero=>exact ⟨hp.1,hq⟩
      | succ f=>exact ⟨fun _=>hq,fun i hi=>by rw [hp.1] at hi; cases hi⟩
    | prep p =>
      simp only [ok2,Bool.and_eq_true,Nat.beq_eq,Bool.not_eq_true'] at hp
      obtain ⟨⟨hm,he⟩,hp⟩:=hp
      subst hm he
      have hF:F=F0:=hst.2 (fun h=>rfl)
      unfold WPl2 at H
      split at H
      · exact H.elim
      rename_i o ho
      split at H
      · exact H.elim
      rename_i hgd
      cases hok:opsOkS n (delS o.dst Γ) o with
      | false=>rw [hok] at H; exact H.elim
      | true =>
        rw [hok] at H
        simp only [cond_true] at H
        split at H
        · rename_i D hD
          cases hl:Nat.blt D.l.length 1048576 with
          | false=>rw [hl] at H; exact H.elim
          | true =>
            rw [hl] at H
            simp only [Nat.blt_eq] at hl
            exact ih p (hf.del _) hs hN hL R hFR hall hc hDs hp hS ⟨fun _=>⟨o,D,ho,hgd,rfl,hok,hD,hl,fun d hd=>(by rw [hd]; simp [delS,Tr.get_del]),fun h=>(by cases h)⟩,fun _=>hF⟩ H
        · exact H.elim
    | late p =>
      simp only [ok2,Bool.and_eq_true,Nat.beq_eq] at hp
      obtain ⟨hm,hp⟩:=hp
      subst hm
      obtain ⟨o,D,h1,h2,h3,h4,h5,h6,h8,h7⟩:=hst.1 rfl
      subst h3
      cases e with
      | true =>
        simp only [cond_true] at hp
        obtain ⟨b,mm,v,ob,k1,k2⟩:=h7 rfl
        subst k2
        unfold WPl2 at H
        rw [h1] at H
        simp only at H
        cases hq:(Nat.blt (S.next+1) 1048576 && allU Fs (S.new D.obj)) with
        | false=>rw [hq] at H; exact H.elim
        | true =>
          rw [hq] at H
          simp only [cond_true] at H
          simp only [Bool.and_eq_true,Nat.blt_eq] at hq
          obtain ⟨hq,hall2⟩:=hq
          obtain ⟨R1,hb,hne⟩:=rel_less k1.f0 R
          have hbs:bind ν S.next (b,mm) S.next=some (b,mm):=bind_self
          obtain ⟨v1,v2⟩:=k1.ok _ S.next (R1.le_new (b,mm)) hbs
          have R2:Rel (bind ν S.next (b,mm)) (S.new D.obj) F0 w.heap:=R1.name hq hb (v2 h6) hne k1.f0
          have hL2:SLe S (S.new D.obj):=R1.sle_new _ hq
          have hdok:dstOk n o.dst=true:=by simp only [opsOkS,Bool.and_eq_true] at h4; exact h4.1
          have hf2:FitsU ds n (bind ν S.next (b,mm)) (putS o.dst (D.val S.next) Γ) a:=by
            have hm2:=(hf.mono (R1.le_new (b,mm))).put hn hdok v1
            cases hd:o.dst with
            | none=>rw [hd] at hm2; exact hm2
            | some d =>
              rw [hd] at hm2
              have:a.put (some d) v=a:=put_same (k1.tm d hd)
              rw [this] at hm2
              exact hm2
          exact ih p hf2 hs (hN.trans (R1.le_new _)) (hL.trans hL2) R2 (hFR.mono (R1.le_new _) hL2) hall2 hc hDs hp hS ⟨fun h=>(by cases h),fun _=>rfl⟩ H
      | false =>
        simp only [cond_false] at hp
        have hF:F=F0:=hst.2 (fun _=>rfl)
        cases fuel with
        | zero=>simp at hp
        | succ f =>
          simp only [Bool.and_eq_true,beq_iff_eq] at hp
          obtain ⟨hr,hp⟩:=hp
          refine ⟨fun h0=>(by rw [h0] at hr; cases hr),fun i hi=> ?_⟩
          have hij:i=j:=by rw [hr] at hi; simpa using hi
          subst hij
          refine early h1 h2 h4 h5 hF hi fun v w' b mm ob hsm hpd R2 hfa=> ?_
          have hdok:dstOk n o.dst=true:=by simp only [opsOkS,Bool.and_eq_true] at h4; exact h4.1
          refine ih (.late p) ?_ (hs.trans hsm) hN hL R2 hFR hall (hc.set hi) hDs hp hfa ⟨fun _=>⟨o,D,h1,h2,rfl,h4,h5,h6,h8,fun _=>⟨b,mm,v,ob,hpd,rfl⟩⟩,fun h=>(by cases h rfl)⟩ H
          exact fits_late hf h8
    | take i D p =>
      cases fuel with
      | zero=>simp [ok2] at hp
      | succ f =>
        simp only [ok2,Bool.and_eq_true,Bool.not_eq_true'] at hp
        obtain ⟨⟨⟨⟨⟨⟨p1,p2⟩,p3⟩,p4⟩,p5⟩,p6⟩,p7⟩:=hp
        have hiDs:i ∉ Ds:=fun h=>by rw [← memN_iff,p3] at h; cases h
        have hiD:i ∉ D:=fun h=>by rw [← memN_iff,p4] at h; cases h
        have hready:i ∈ Region.ready .any ops.toArray l:=by simpa using p2
        unfold WPl2 at H
        split at H
        · exact H.elim
        rename_i o ho
        have ho':ops.toArray[i]? =some o:=by simpa using ho
        have hcs:=hc.set hready
        have hDd: ∀ d ∈ D,∃ n,descB ops.toArray n i d=true:=fun d hd=>⟨_,by rw [List.all_eq_true] at p5; exact p5 d hd⟩
        have hSi: ∀ l w,SF Fa (l.setIfInBounds i true) w↔SF Fa l w:=fun l w=>by
          have e: ∀ q ∈ Fa,∀ d ∈ q.1,(l.setIfInBounds i true).getD d false=l.getD d false:=fun q hq d hd=>
            getD_set_ne false (fun e=>hiDs (e ▸ hDs q hq d hd))
          constructor
          · intro h q hq hd; exact h q hq fun d hdq=>by rw [e q hq d hdq]; exact hd d hdq
          · intro h q hq hd; exact h q hq fun d hdq=>by rw [← e q hq d hdq]; exact hd d hdq
        have hQ': ∀ (v:Value) (c:List PanicEntry) (a:Act) (w:World),Q (.panic c) (a.put o.dst v) w→Q (.panic c) a w:=fun v c a w h=>absurd h (hQ _ _ _)
        have key: ∀ {fc:Hp→Prop} {v:Value} {s:SV} {Fs':FactsU} {Fa':Facts},dstOk n o.dst=true→YieldsIf P ops.toArray (fun w=>fc w.heap) o v a→fc w.heap→VR ν s v→FR ν S Fs' Fa'→allU Fs' S=true→
            (Fa'=(D,fc)::Fa∨(Fa'=Fa∧ ∀ h,fc h))→WPl2 C n ops j p (putS o.dst s Γ) S Fs' L K→wpAnyG P ops.toArray Q (SF Fa) (f+1) l a w:=by
          intro fc v s Fs' Fa' hd hy hfc hvs hFR' hall' hF' hW
          refine wpAnyG_first (f:=fun w=>fc w.heap) ho' (Region.noSelect_spec hsel) (hQ' v) hiD hDd hSi f l a w hc (Region.free_spec ho' p1) hready hy hfc (SF_of hS) ?_
          have hst':=hst.keep (s:=s) (v:=v) (S':=S) hn ho hd (by simpa using p6) (NLe.refl ν)
          have hf':=hf.put hn hd hvs
          rcases hF' with rfl | ⟨rfl,hfa⟩
          · have := ih p hf' hs hN hL R hFR' hall' hcs (fun q hq => by
              rcases List.mem_cons.1 hq with rfl | hq
              · exact fun d hd=>List.mem_append_left _ hd
              · exact fun d hd=>List.mem_append_right _ (hDs q hq d hd)) p7 (fun q hq=>by
              rcases List.mem_cons.1 hq with rfl | hq
              · exact hfc
              · exact hS q hq) hst' hW
            exact wpAnyG_mono _ _ _ _ (fun l' w' _ h=>⟨fun q hq=>h q (List.mem_cons_of_mem _ hq),fun hd=>h _ List.mem_cons_self hd⟩) this
          · have := ih p hf' hs hN hL R hFR' hall' hcs (fun q hq d hd => List.mem_append_right _ (hDs q hq d hd)) p7 hS hst' hW
            exact wpAnyG_mono _ _ _ _ (fun l' w' _ h=>⟨h,fun _=>hfa _⟩) this
        rcases gdU_elim hf H with ⟨hw,H⟩ | ⟨hw,H⟩
        · cases hok : opsOkS n Γ o with
          | false=>rw [hok] at H; exact H.elim
          | true =>
            rw [hok] at H; simp only [cond_true] at H
            simp only [opsOkS,Bool.and_eq_true] at hok
            have hsel': ∀ cs b,o.op ≠ .select cs b:=fun cs b=>Region.noSelect_spec hsel i o cs b ho'
            obtain ⟨hv,hpp⟩:=ops_ok hf hok.2
            obtain ⟨fc,v,h1,h2,h3⟩:=opR_sound (P:=P) (o:=o) hA (opRS_ok (h:=w.heap) R hv H)
            obtain ⟨s,g',k1,k2,k3⟩:=h1
            cases hg:g' S with
            | false=>rw [hg] at k1; exact k1.elim
            | true =>
              rw [hg] at k1
              exact key (fc:=fc) hok.1 (.inl ⟨hw,fun w' hw'=>by rw [exec_env hf.1 hsel' hpp]; exact h3 w' hw'⟩) h2 k2 (show FR ν S ((D,g')::Fs) ((D,fc)::Fa) from ⟨fc,Fa,rfl,k3,hFR⟩) (by simp only [allU,hg,hall,Bool.and_self]) (.inl rfl) k1
        · cases hd : dstOk n o.dst with
          | false=>rw [hd] at H; exact H.elim
          | true =>
            rw [hd] at H; simp only [cond_true] at H
            exact key (fc:=fun _=>True) hd (.inr ⟨hw,rfl⟩) trivial (by simp only [VR]) hFR hall (.inr ⟨rfl,fun _=>trivial⟩) H
    | one i p =>
      cases fuel with
      | zero=>simp [ok2] at hp
      | succ f =>
        simp only [ok2,Bool.and_eq_true,Bool.not_eq_true',List.isEmpty_eq_false_iff,List.all_eq_true] at hp
        obtain ⟨hne,hp⟩:=hp
        refine ⟨fun h0=>absurd h0 hne,fun k hk=> ?_⟩
        have hpk:=hp k hk
        cases hki:Nat.beq k i with
        | true =>
          have hki':=Nat.eq_of_beq_eq_true hki
          subst hki'
          rw [hki] at hpk
          simp only [cond_true,Bool.and_eq_true] at hpk
          obtain ⟨p6,p7⟩:=hpk
          unfold WPl2 at H
          split at H
          · exact H.elim
          rename_i o ho
          have ho':ops.toArray[k]? =some o:=by simpa using ho
          unfold wpOp
          simp only [ho']
          rcases gdU_elim hf H with ⟨hw,H⟩ | ⟨hw,H⟩
          · rw [if_pos hw]
            have hdk:dstOk n o.dst=true:=by
              unfold stepU opsOkS at H
              cases hd:dstOk n o.dst with
              | true=>rfl
              | false=>rw [hd] at H; exact H.elim
            refine .inl (stepU_wp2 hA hC hM hn hf R (fun a' w' v s S' ν' ea k1 k2 k3 k4 k5 hg=> ?_) H)
            obtain ⟨g',k6⟩:=hg
            cases ha:allU Fs S' with
            | false=>rw [ha] at k6; exact k6.elim
            | true =>
              rw [ha] at k6
              have hfa:=FR.all k3 k4 k5 hFR ha
              subst ea
              exact ⟨SF_of hfa,ih p k1 (hs.trans k2) (hN.trans k3) (hL.trans k4) k5 (hFR.mono k3 k4) ha (hc.set hk) hDs p7 hfa (hst.keep hn ho hdk (by simpa using p6) k3) k6⟩
          · rw [if_neg (by rw [hw]; simp)]
            cases hd:dstOk n o.dst with
            | false=>rw [hd] at H; exact H.elim
            | true =>
              rw [hd] at H
              exact ⟨SF_of hS,ih p (hf.put hn hd (by simp only [VR])) hs hN hL R hFR hall (hc.set hk) hDs p7 hS (hst.keep hn ho hd (by simpa using p6) (NLe.refl ν)) H⟩
        | false =>
          rw [hki] at hpk
          simp only [cond_false,Bool.and_eq_true,Nat.beq_eq,Bool.not_eq_true'] at hpk
          obtain ⟨⟨⟨q1,q2⟩,q3⟩,q4⟩:=hpk
          subst q1 q2 q3
          obtain ⟨o,D,h1,h2,h3,h4,h5,h6,h8,h7⟩:=hst.1 rfl
          subst h3
          refine early h1 h2 h4 h5 (hst.2 fun _=>rfl) hk fun v w' b mm ob hsm hpd R2 hfa=> ?_
          exact ih (.one i p) (fits_late hf h8) (hs.trans hsm) hN hL R2 hFR hall (hc.set hk) hDs q4 hfa ⟨fun _=>⟨o,D,h1,h2,rfl,h4,h5,h6,h8,fun _=>⟨b,mm,v,ob,hpd,rfl⟩⟩,fun h=>(by cases h rfl)⟩ H
def mkPlan2 (τ : Tys) (ops : Array Oper) (j : Nat) : Nat → Array Bool → Nat → Plan2
  | 0,_,_=> .done
  | k + 1, l, m => match Region.ready .any ops l with
    | []=> .done
    | r => match r.find? (fun i => !Nat.beq i j && isTake τ ops i && Region.free .any ops l i) with
      | some i=> .take i ((List.range ops.size).filter fun d=> !isTake τ ops d && descB ops ops.size i d) (mkPlan2 τ ops j k (l.setIfInBounds i true) m)
      | none => bif Nat.beq m 0 && memN j r then .prep (mkPlan2 τ ops j k l 1) else match r.filter (fun i => !Nat.beq i j) with
        | i::_=> .one i (mkPlan2 τ ops j k (l.setIfInBounds i true) m)
        | []=> .late (mkPlan2 τ ops j k (l.setIfInBounds j true) 2)
def plan2For (τ : Tys) (ops : Array Oper) : Option (Nat × Plan2) :=
  bif Region.noSelect ops then
    (((List.range ops.size).filter fun j=>match ops[j]? with | some o=>isLate o.op && o.guard.isNone | none=>false).map fun j=>(j,mkPlan2 τ ops j (2*ops.size+2) (Array.replicate ops.size false) 0)).find? fun x=>
      ok2 ops x.1 (4*ops.size+8) x.2 ops.size (Array.replicate ops.size false) 0 false []
  else none
def single:Plan→Bool
  | .done=>true
  | .take _ _ p=>single p
  | .all r=>single r
  | .alt _ p r=>single p && (match r with | .nil=>true | _=>false)
  | .nil=>true
theorem WPl2_run {n:Nat} (hA:Agree P C.τ) (hC:CallOk P C.call) (hM:MthOk P C.mth) (hn:n<1048575) (hm:P.follows .mixedOrders=true) {ops:Array Oper} {j:Nat} {p:Plan2} (hp:plan2For C.τ ops=some (j,p)) (id:Nat):
    RunOk P n (.region id ops true) (fun Γ S K=>WPl2 C n ops.toList j p Γ S [] none fun Γ' S'=>K .normal Γ' S'):=by
  intro Γ S K H ds ν F a w hf R
  unfold plan2For at hp
  cases hs:Region.noSelect ops with
  | false=>rw [hs] at hp; cases hp
  | true =>
    rw [hs] at hp
    simp only [cond_true] at hp
    have hok:=List.find?_some hp
    simp only at hok
    refine wp_region_any hm (wpAny_of_G (S:=SF []) _ _ _ _ ?_)
    have hcl0:Cl ops (Array.replicate ops.size false):=fun x ox _ hl=>by
      exfalso
      rcases Nat.lt_or_ge x ops.size with hx | hx
      · simp [hx] at hl
      · simp [Nat.not_lt.2 hx] at hl
    have:=WPl2_sound (P:=P) (Q:=dpU ds w n ν S F K) (ops:=ops.toList) (F0:=F) (w0:=w) (ν0:=ν) (S0:=S) (K:=K .normal) (j:=j) hA hC hM hn (by simpa using hs) (fun c a w h=>h)
      (fun ν' Γ' S' a' w' h1 h2 h3 h4 h5 h6=>⟨ν',Γ',S',h1,h2,h3,h4,h5,h6⟩) (4*ops.size+8) p (F:=F) (Fs:=[]) (Fa:=[]) (L:=none) (a:=a) (w:= {w with drawn:=w.drawn+1}) (fuel:=ops.size) (l:=Array.replicate ops.size false) (m:=0) (e:=false) (Ds:=[])
      hf ⟨rfl,rfl,rfl⟩ (NLe.refl ν) (SLe.refl S) R rfl rfl (by simpa using hcl0) (fun q hq=>by cases hq) (by simpa using hok) (fun q hq=>by cases hq) ⟨fun h=>(by cases h),fun _=>rfl⟩ H
    simpa using this
end Go.Ey
namespace Go.Ey
open Go Go.Wc
variable {ds:List Deferred} {P:Program} {ν:Nu} {τ:Tys} {Γ:Tr SV} {S:SH} {F:Fr} {C:Ctx}
noncomputable def seqC (τ:Tys) (mth:Mth) (n:Nat) (ops:List Oper):List Oper→Fst
  | []=> .mk fun _ Γ S K=>K Γ S
  | o :: r => match stepC τ mth n o with
    | .mk f => match seqC τ mth n ops r with
      | .mk g => match o.guard with
        | none=> .mk fun cl Γ S K=>f cl Γ S fun Γ' S'=>g cl Γ' S' K
        | some _=> .mk fun cl Γ S K=>gdU ops o Γ (f cl Γ S fun Γ' S'=>g cl Γ' S' K) (bif dstOk n o.dst then g cl (putS o.dst .undef Γ) S K else False)
theorem seqC_sound {n : Nat} {ops : List Oper} {Q : Exit → Act → World → Prop} (hA : Agree P C.τ) (hC : CallOk P C.call) (hM : MthOk P C.mth) (hn : n < 1048575) :
    ∀ {l : List Oper} {f : Stp} {Γ : Tr SV} {ν : Nu} {S : SH} {K : Tr SV → SH → Prop} {a : Act} {w : World}, seqC C.τ C.mth n ops l = .mk f → FitsU ds n ν Γ a → Rel ν S F w.heap → (∀ a' w', NX ds n ν S F w K a' w' → Q .normal a' w') →
      f C.call Γ S K→wpList P ops.toArray Q l a w
  | [], f, Γ, ν, S, K, a, w, h, hf, R, hQ, H => by
    simp only [seqC,Fst.mk.injEq] at h
    subst h
    exact hQ _ _ ⟨ν,Γ,S,hf,Same.refl w,NLe.refl ν,SLe.refl S,R,H⟩
  | o :: l, f, Γ, ν, S, K, a, w, h, hf, R, hQ, H => by
    simp only [seqC] at h
    cases hs:stepC C.τ C.mth n o with
    | mk f1 =>
      cases hr:seqC C.τ C.mth n ops l with
      | mk g =>
        rw [hs,hr] at h
        simp only at h
        have H2:gdU ops o Γ (f1 C.call Γ S fun Γ' S'=>g C.call Γ' S' K) (bif dstOk n o.dst then g C.call (putS o.dst .undef Γ) S K else False):=by
          split at h
          · rename_i hg
            simp only [Fst.mk.injEq] at h
            subst h
            unfold gdU
            rw [hg]
            exact H
          · simp only [Fst.mk.injEq] at h
            subst h
            exact H
        unfold wpList
        rcases gdU_elim hf H2 with ⟨hw,H⟩ | ⟨hw,H⟩
        · rw [if_pos hw]
          refine .inl (stepU_wp hA hC hM hn hf R (fun a' w' ⟨ν',Γ',S',h1,h2,h3,h4,h5,g',h6⟩=> ?_) (stepC_ok hn hs H))
          exact seqC_sound hA hC hM hn hr h1 h5 (fun a3 w3 ⟨ν3,Γ3,S3,k1,k2,k3,k4,k5,k6⟩=>hQ _ _ ⟨ν3,Γ3,S3,k1,h2.trans k2,h3.trans k3,h4.trans k4,k5,k6⟩) h6
        · rw [if_neg (by rw [hw]; simp)]
          cases hd:dstOk n o.dst with
          | false=>rw [hd] at H; exact H.elim
          | true=>rw [hd] at H; exact seqC_sound hA hC hM hn hr (hf.put hn hd (by simp only [VR])) R hQ H
noncomputable def loopC (body:RunU) (n:Nat):RunU:=
  Nat.rec (motive:=fun _=>RunU) (fun _ _ _=>False) (fun _ ih Γ S K=>body Γ S (thenU (fun Γ' S'=>ih Γ' S' K) K)) n
theorem loopC_eq (body:RunU): ∀ n,loopC body n=loopU body n
  | 0=>rfl
  | n + 1 => by
    funext Γ S K
    show body Γ S (thenU (fun Γ' S'=>loopC body n Γ' S' K) K)=body Γ S (thenU (fun Γ' S'=>loopU body n Γ' S' K) K)
    rw [loopC_eq body n]
def mkD (D:Nat):Deferred:= {target:= .collected D,args:= #[]}
def MG (F:Fr) (ds:List Deferred) (F':Fr) (ds':List Deferred):Prop:=
  ∃ Ds:List Nat,ds'=Ds.map mkD++ds∧(∀ b ob,F b=some ob→F' b=some ob)∧(∀ D ∈ Ds,F' D=some (.deferred (some []))∧F D=none)∧Ds.Nodup
theorem MG.refl (F:Fr) (ds:List Deferred):MG F ds F ds:=⟨[],rfl,fun _ _ h=>h,fun _ h=>absurd h (by simp),List.nodup_nil⟩
theorem MG.trans {F F1 F2:Fr} {ds ds1 ds2:List Deferred} (h1:MG F ds F1 ds1) (h2:MG F1 ds1 F2 ds2):MG F ds F2 ds2:=by
  obtain ⟨A,rfl,a2,a3,a4⟩:=h1
  obtain ⟨B,rfl,b2,b3,b4⟩:=h2
  refine ⟨B++A,by rw [List.map_append,List.append_assoc],fun b ob h=>b2 _ _ (a2 _ _ h),fun D hD=> ?_, ?_⟩
  · rcases List.mem_append.1 hD with h | h
    · refine ⟨(b3 D h).1, ?_⟩
      cases hF:F D with
      | none=>rfl
      | some ob=>have q:=(b3 D h).2; rw [a2 _ _ hF] at q; cases q
    · exact ⟨b2 _ _ (a3 D h).1,(a3 D h).2⟩
  · refine List.nodup_append.2 ⟨b4, a4, fun x hx y hy e => ?_⟩
    subst e
    have q:=(b3 x hx).2
    rw [(a3 x hy).1] at q
    cases q
def dpR (ds:List Deferred) (w0:World) (n:Nat) (ν:Nu) (S:SH) (F:Fr) (K:KontU):Exit→Act→World→Prop:=fun e a w=>match e with
  | .panic _=>False
  | .outgrown=>False
  | .goto _=>False
  | e=> ∃ ds' F',MG F ds F' ds'∧NX ds' n ν S F' w0 (K e) a w
theorem dpR.of {n:Nat} {w0 w:World} {K:KontU} {a:Act} {e:Exit} (h:dpU ds w0 n ν S F K e a w):dpR ds w0 n ν S F K e a w:=by
  cases e <;> first | exact h.elim | exact ⟨ds,F,MG.refl F ds,h⟩
theorem dpR.after {n:Nat} {ν1:Nu} {S1:SH} {F1:Fr} {ds1:List Deferred} {w0 w1 w:World} {K:KontU} {a:Act} {e:Exit} (h1:NLe ν ν1) (h2:SLe S S1) (hs:Same w0 w1) (hm:MG F ds F1 ds1) (h:dpR ds1 w1 n ν1 S1 F1 K e a w):dpR ds w0 n ν S F K e a w:=by
  cases e <;> first
    | exact h.elim
    | (obtain ⟨ds',F',m,h⟩:=h; exact ⟨ds',F',hm.trans m,NX.after h1 h2 hs h⟩)
def RunR (P:Program) (n:Nat) (c:Code) (r:RunU):Prop:= ∀ Γ S K,r Γ S K→ ∀ ⦃ds:List Deferred⦄ (ν:Nu) (F:Fr) a w,FitsU ds n ν Γ a→Rel ν S F w.heap→c.wp P (dpR ds w n ν S F K) a w
theorem RunOk.R {n:Nat} {c:Code} {r:RunU} (h:RunOk P n c r):RunR P n c r:=fun Γ S K H ds ν F a w hf R=>wp_mono (h Γ S K H ν F a w hf R) fun _ _ _ h=>dpR.of h
theorem loopR_ok {n:Nat} {c:Code} {r:RunU} (hr:RunR P n c r): ∀ k Γ S K,loopU r k Γ S K→ ∀ {ds:List Deferred} (ν:Nu) (F:Fr) (a:Act) (w:World),FitsU ds n ν Γ a→Rel ν S F w.heap→AtHead P c (dpR ds w n ν S F K) a w
  | 0,Γ,S,K,H,_,_,_,_,_,_,_=>H.elim
  | k + 1, Γ, S, K, H, ds, ν, F, a, w, hf, R => by
    unfold loopU at H
    refine head_of_wp (wp_mono (hr _ _ _ H ν F a w hf R) fun e a' w' he=> ?_)
    cases e with
    | normal =>
      obtain ⟨ds1,F1,hm,ν',Γ',S',k1,k2,k3,k4,k5,k6⟩:=he
      have:=loopR_ok hr k Γ' S' K k6 ν' F1 a' w' k1 k5
      intro b ks cs
      obtain ⟨e2,a2,w2,q,ar⟩:=this b ks cs
      exact ⟨e2,a2,w2,dpR.after k3 k4 k2 hm q,ar⟩
    | _=>exact he
theorem Rel.loop {h : Hp} (R : Rel ν S F h) (hn : S.next + 1 < 1048576) (oD oL : Obj) :
    Rel (bind ν S.next (h.size+1,0)) (S.new .gone) (fun b=>if b=h.size then some oD else if b=h.size+1 then some oL else F b) ((h.push oD).push oL):=by
  have hne: ∀ j,S.next ≠ j→bind ν S.next (h.size+1,0) j=ν j:=fun j hj=>by simp [bind,hj]
  have old: ∀ nm o1 v,(S.new .gone).t.get nm=some (o1,v)→o1.live=true→S.next ≠ nm∧S.t.get nm=some (o1,v):=by
    intro nm o1 v hg hl
    rw [new_get _ hn] at hg
    by_cases e:S.next=nm
    · rw [if_pos e] at hg; cases hg; simp [SO.live] at hl
    · rw [if_neg e] at hg; exact ⟨e,hg⟩
  have small: ∀ j o v x,S.t.get j=some (o,v)→o.live=true→ν j=some x→x.1<h.size:=fun j o v x hj hl hx=>by
    obtain ⟨x',ob',g1,g2,_⟩:=R.obj j o v hj hl
    rw [hx] at g1; cases g1
    exact lt_of_get g2
  refine ⟨fun nm o' v hg hl=> ?_,fun nm x hx=> ?_,fun nm x hx=> ?_,fun nm nm' o1 v1 o2 v2 x x' g1 l1 g2 l2 e1 e2 e=> ?_,fun b ob' hF=> ?_⟩
  · obtain ⟨e, hg⟩ := old _ _ _ hg hl
    obtain ⟨x,ob',g1,g2,g3⟩:=R.obj nm o' v hg hl
    exact ⟨x,ob',by rw [hne _ e]; exact g1,push_get_lt (push_get_lt g2),OB.mono (R.le_new _) g3⟩
  · by_cases e : S.next = nm
    · subst e; exact Nat.lt_succ_self _
    · rw [hne _ e] at hx; exact Nat.lt_succ_of_lt (R.lt _ _ hx)
  · by_cases e : S.next = nm
    · subst e; exact Nat.lt_succ_self _
    · rw [new_get _ hn,if_neg e] at hx; exact Nat.lt_succ_of_lt (R.lt2 _ _ hx)
  · obtain ⟨a1, g1⟩ := old _ _ _ g1 l1
    obtain ⟨a2,g2⟩:=old _ _ _ g2 l2
    rw [hne _ a1] at e1; rw [hne _ a2] at e2
    exact R.sep _ _ _ _ _ _ _ _ g1 l1 g2 l2 e1 e2 e
  · split at hF
    · rename_i eb
      cases hF
      subst eb
      refine ⟨push_get_lt (by simp),fun nm o v x hg hl hx=> ?_⟩
      obtain ⟨e,hg⟩:=old _ _ _ hg hl
      rw [hne _ e] at hx
      have:=small _ _ _ _ hg hl hx
      omega
    · split at hF
      · rename_i eb
        cases hF
        subst eb
        refine ⟨by rw [show h.size+1=(h.push oD).size by simp]; exact Array.getElem?_push_size,fun nm o v x hg hl hx=> ?_⟩
        obtain ⟨e,hg⟩:=old _ _ _ hg hl
        rw [hne _ e] at hx
        have:=small _ _ _ _ hg hl hx
        omega
      · obtain ⟨g1, g2⟩ := R.fr b ob' hF
        refine ⟨push_get_lt (push_get_lt g1),fun nm o v x hg hl hx=> ?_⟩
        obtain ⟨e,hg⟩:=old _ _ _ hg hl
        rw [hne _ e] at hx
        exact g2 _ _ _ _ hg hl hx
theorem Rel.turn {F':Fr} {h h':Hp} {L:Nat} {ob:Obj} (R:Rel ν S F h) (hL:F L=some ob) (hk: ∀ b,b ≠ L→h'[b]? =h[b]?) (hF: ∀ b ob,F' b=some ob→b ≠ L∧F b=some ob):Rel ν S F' h':=by
  have hne:=(R.fr L ob hL).2
  refine ⟨fun nm o v hg hl=> ?_,R.lt,R.lt2,R.sep,fun b ob' hb=> ?_⟩
  · obtain ⟨x, ob', g1, g2, g3⟩ := R.obj nm o v hg hl
    exact ⟨x,ob',g1,by rw [hk _ (hne _ _ _ _ hg hl g1)]; exact g2,g3⟩
  · obtain ⟨e, hb⟩ := hF b ob' hb
    obtain ⟨g1,g2⟩:=R.fr b ob' hb
    exact ⟨by rw [hk _ e]; exact g1,g2⟩
theorem Rel.less {F':Fr} {h:Hp} (R:Rel ν S F h) (hF: ∀ b ob,F' b=some ob→F b=some ob):Rel ν S F' h:=
  ⟨R.obj,R.lt,R.lt2,R.sep,fun b ob hb=>R.fr b ob (hF b ob hb)⟩
noncomputable def WC (τ:Tys) (mth:Mth) (n lf:Nat):Code→Fz
  | .skip=> .mk fun _ Γ S K=>K .normal Γ S
  | .region _ ops draw=>bif draw then (match planFor τ ops with
      | some p => bif single p then .mk fun cl Γ S K => WPlU ⟨τ, cl, mth⟩ n ops.toList p Γ S [] fun Γ' S' => K .normal Γ' S' else (match plan2For τ ops with
        | some (j,q)=> .mk fun cl Γ S K=>WPl2 ⟨τ,cl,mth⟩ n ops.toList j q Γ S [] none fun Γ' S'=>K .normal Γ' S'
        | none=> .mk fun cl Γ S K=>WPlU ⟨τ,cl,mth⟩ n ops.toList p Γ S [] fun Γ' S'=>K .normal Γ' S')
      | none=> .mk fun _ _ _ _=>False) else (match seqC τ mth n ops.toList ops.toList with
      | .mk f=> .mk fun cl Γ S K=>f cl Γ S fun Γ' S'=>K .normal Γ' S')
  | .seq a b => match WC τ mth n lf a with
    | .mk f => match WC τ mth n lf b with
      | .mk g=> .mk fun cl Γ S K=>f cl Γ S (thenU (fun Γ' S'=>g cl Γ' S' K) K)
  | .cond c x y => match opdC c with
    | .mk e => match WC τ mth n lf x with
      | .mk f => match WC τ mth n lf y with
        | .mk g=> .mk fun cl Γ S K=>e Γ fun s=>condU s (f cl Γ S K) (g cl Γ S K)
  | .block id c => match WC τ mth n lf c with
    | .mk f=> .mk fun cl Γ S K=>f cl Γ S (blockU id K)
  | .loop c => match WC τ mth n lf c with
    | .mk f=> .mk fun cl Γ S K=>loopC (f cl) lf Γ S K
  | .exit id=> .mk fun _ Γ S K=>K (.exit id) Γ S
  | .ret=> .mk fun _ Γ S K=>K .ret Γ S
  | .rangeFunc g _ _ _ => match opdC g with
    | .mk e => .mk fun cl Γ S K => e Γ fun s => match s with
      | .fn f cs=>bif Nat.blt (S.next+1) 1048576 then cl f (.yl S.next::cs) (S.new .gone) (fun _ S'=>K .normal Γ S') else False
      | _=>False
  | _=> .mk fun _ _ _ _=>False
theorem WC_ok {n lf : Nat} (hA : Agree P C.τ) (hC : CallOk P C.call) (hM : MthOk P C.mth) (hn : n < 1048575) (hm : P.follows .mixedOrders = true) : ∀ (c : Code) {r : CallF → RunU}, WC C.τ C.mth n lf c = .mk r → RunR P n c (r C.call) := by
  intro c
  induction c with
  | skip=>intro r h Γ S K H ds ν F a w hf R; simp only [WC,Fz.mk.injEq] at h; subst h; exact wp_skip ⟨ds,F,MG.refl F ds,ν,Γ,S,hf,Same.refl w,NLe.refl ν,SLe.refl S,R,H⟩
  | exit id=>intro r h Γ S K H ds ν F a w hf R; simp only [WC,Fz.mk.injEq] at h; subst h; exact wp_exit ⟨ds,F,MG.refl F ds,ν,Γ,S,hf,Same.refl w,NLe.refl ν,SLe.refl S,R,H⟩
  | ret=>intro r h Γ S K H ds ν F a w hf R; simp only [WC,Fz.mk.injEq] at h; subst h; exact wp_ret ⟨ds,F,MG.refl F ds,ν,Γ,S,hf,Same.refl w,NLe.refl ν,SLe.refl S,R,H⟩
  | region id ops draw =>
    intro r h
    refine RunOk.R ?_
    intro Γ S K H ds ν F a w hf R
    simp only [WC] at h
    cases draw with
    | false =>
      simp only [cond_false] at h
      cases hs:seqC C.τ C.mth n ops.toList ops.toList with
      | mk f =>
        rw [hs] at h
        simp only [Fz.mk.injEq] at h
        subst h
        refine wp_region_list ?_
        have:=seqC_sound (P:=P) (Q:=dpU ds w n ν S F K) (F:=F) hA hC hM hn hs hf R (fun a' w' h=>h) H
        simpa using this
    | true =>
      simp only [cond_true] at h
      split at h
      · rename_i p hp
        have old:(fun cl Γ S (K:KontU)=>WPlU ⟨C.τ,cl,C.mth⟩ n ops.toList p Γ S [] fun Γ' S'=>K .normal Γ' S')=r→(.region id ops true:Code).wp P (dpU ds w n ν S F K) a w:=by
          intro h
          subst h
          refine WU_ok (lf:=lf) hA hC hM hn hm (.region id ops true) Γ S K ?_ ν F a w hf R
          simp only [WU,cond_true,hp]
          exact H
        cases hsg:single p with
        | true =>
          rw [hsg] at h
          simp only [cond_true,Fz.mk.injEq] at h
          exact old h
        | false =>
          rw [hsg] at h
          simp only [cond_false] at h
          split at h
          · rename_i j q hq
            simp only [Fz.mk.injEq] at h
            subst h
            exact WPl2_run hA hC hM hn hm hq id Γ S K H ν F a w hf R
          · simp only [Fz.mk.injEq] at h
            exact old h
      · simp only [Fz.mk.injEq] at h
        subst h
        exact H.elim
  | seq a b iha ihb =>
    intro r h Γ S K H ds ν F f w hf R
    simp only [WC] at h
    cases ha:WC C.τ C.mth n lf a with
    | mk f1 =>
      cases hb:WC C.τ C.mth n lf b with
      | mk g =>
        rw [ha,hb] at h
        simp only [Fz.mk.injEq] at h
        subst h
        refine wp_seq (wp_mono (iha ha _ _ _ H ν F f w hf R) fun e a' w' he=> ?_)
        cases e with
        | normal =>
          obtain ⟨ds1,F1,hm1,ν',Γ',S',k1,k2,k3,k4,k5,k6⟩:=he
          exact wp_mono (ihb hb _ _ _ k6 ν' F1 a' w' k1 k5) fun e2 a2 w2 h2=>dpR.after k3 k4 k2 hm1 h2
        | _=>exact he
  | cond c x y ihx ihy =>
    intro r h Γ S K H ds ν F f w hf R
    simp only [WC] at h
    cases hc:opdC c with
    | mk e =>
      cases hx:WC C.τ C.mth n lf x with
      | mk f1 =>
        cases hy:WC C.τ C.mth n lf y with
        | mk g =>
          rw [hc,hx,hy] at h
          simp only [Fz.mk.injEq] at h
          subst h
          obtain ⟨hp,H⟩:=opdC_ok c hc _ _ H
          unfold condU at H
          split at H
          · rename_i b hb
            have hv:=evS_ok hf.env hp
            rw [hb] at hv
            simp only [VR] at hv
            have he:f.eval c= .bool b:=by rw [eval_env hf.1 (presS_ok hf.env hp),hv]
            cases b with
            | true=>exact wp_cond_true he (ihx hx _ _ _ H ν F f w hf R)
            | false=>exact wp_cond_false he (ihy hy _ _ _ H ν F f w hf R)
          · exact H.elim
  | block id c ih =>
    intro r h Γ S K H ds ν F f w hf R
    simp only [WC] at h
    cases hc:WC C.τ C.mth n lf c with
    | mk f1 =>
      rw [hc] at h
      simp only [Fz.mk.injEq] at h
      subst h
      refine wp_block (wp_mono (ih hc _ _ _ H ν F f w hf R) fun e a' w' he=> ?_)
      cases e with
      | exit id' =>
        obtain ⟨ds1,F1,hm1,ν',Γ',S',k1,k2,k3,k4,k5,k6⟩:=he
        simp only [blockU] at k6
        simp only [Exit.inBlock]
        by_cases hid:id'=id
        · subst hid
          rw [if_pos rfl]
          simp at k6
          exact ⟨ds1,F1,hm1,ν',Γ',S',k1,k2,k3,k4,k5,k6⟩
        · rw [if_neg hid]
          have:Nat.beq id' id=false:=by cases hb:Nat.beq id' id with
            | false=>rfl
            | true=>exact absurd (by simpa using hb) hid
          rw [this] at k6
          exact ⟨ds1,F1,hm1,ν',Γ',S',k1,k2,k3,k4,k5,k6⟩
      | _=>exact he
  | loop c ih =>
    intro r h Γ S K H ds ν F f w hf R
    simp only [WC] at h
    cases hc:WC C.τ C.mth n lf c with
    | mk f1 =>
      rw [hc] at h
      simp only [Fz.mk.injEq] at h
      subst h
      rw [loopC_eq] at H
      exact wp_of_head (loopR_ok (ih hc) _ _ _ _ H ν F f w hf R)
  | rangeFunc g ps assign body _ _ =>
    intro r h Γ S K H ds ν F a w hf R
    simp only [WC] at h
    cases hc:opdC g with
    | mk e =>
      rw [hc] at h
      simp only [Fz.mk.injEq] at h
      subst h
      obtain ⟨hp,H⟩:=opdC_ok g hc _ _ H
      split at H
      case h_2=>exact H.elim
      rename_i f cs hs
      cases hq:Nat.blt (S.next+1) 1048576 with
      | false=>rw [hq] at H; exact H.elim
      | true =>
        rw [hq] at H
        simp only [cond_true] at H
        have hn2:S.next+1<1048576:=by simpa [Nat.blt_eq] using hq
        have hv:=evS_ok hf.env hp
        rw [hs] at hv
        simp only [VR] at hv
        obtain ⟨vs,hvs,hv⟩:=hv
        have he:a.eval g= .func (.func f) #[] vs.toArray:=by rw [eval_env hf.1 (presS_ok hf.env hp),hv]
        refine wpIn_wide.1 (wpIn_rangeFunc (n:=1) (F:=Fence.wide) fun fn _=> ?_)
        obtain ⟨rec,hrec⟩: ∃ rec:Loop,rec= {state:= .ready,pending:=none,fn,tmps:=a.tmps,params:=ps,assign,body,defers:=w.heap.size}:=⟨_,rfl⟩
        have hcall:=hC f (.yl S.next::cs) (S.new .gone) (fun _ S'=>K .normal Γ S') H
        obtain ⟨⟨fn1,h1,h2,h3⟩,h4⟩:=hcall
        have R2:=R.loop hn2 (.deferred (some [])) (.loop rec)
        let W1:=(w.alloc (.deferred (some []))).alloc (.loop rec)
        have hW:W1.heap=(w.heap.push (.deferred (some []))).push (.loop rec):=rfl
        refine ⟨w.heap.size+1,[mkD w.heap.size],W1,{target:= .fn (.func f) vs.toArray,args:= #[.func (.yield (w.heap.size+1)) #[] #[]]},W1,f,(Value.func (.yield (w.heap.size+1)) #[] #[]::vs).toArray,W1, ?_, ?_,fun _ _=>trivial, ?_,fun _=>Nat.le_refl _,callsIn_wide.2 ?_⟩
        · simp only [W1,hrec]; exact run_enterLoop_outer _ _ _ _ _
        · simp only [resolve, rangeCall, he]
          simp [go_sem,W1]
        · simp only [invoke, Sem.run_bind, Sem.run_pure, Result.andThen_ok, callFunc, run_program, h1, h2, h3, Bool.false_eq_true, if_false]
          simp [go_sem,W1]
        · refine (h4 (Value.func (.yield (w.heap.size + 1)) #[] #[] :: vs) (fun v h' => PV (fun _ S' => K .normal Γ S') (bind ν S.next (w.heap.size + 1, 0)) (S.new .gone) (fun b => if b = w.heap.size then some (.deferred (some [])) else if b = w.heap.size + 1 then some (.loop rec) else F b) v h') W1
            ⟨bind ν S.next (w.heap.size+1,0),_,S.new .gone,_,_,VRL.cons (by simp only [VR]; exact ⟨_,bind_self,rfl⟩) (VRL.mono (R.le_new _) _ hvs),by rw [hW]; exact R2,H,fun _ _ h=>h⟩).mono ?_
          rintro e3 w3 ⟨v,rfl,hsame,ν',s',S',hK,_,hN,hS,R3⟩
          have hl3:w3.heap[w.heap.size+1]? =some (.loop rec):=(R3.fr (w.heap.size+1) (.loop rec) (by simp)).1
          refine ⟨none,w3.putObj (w.heap.size+1) (.loop {rec with state:= .exhausted}), ?_, ?_⟩
          · have := run_endLoop (P := P) hl3 (by rw [hrec]; simp)
            rw [this,hrec]
          · have hF1 : MG F ds (fun b => if b = w.heap.size then some (.deferred (some [])) else F b) (mkD w.heap.size :: ds) := by
              have hfresh:F w.heap.size=none:=by
                cases hF:F w.heap.size with
                | none=>rfl
                | some ob=>have:=lt_of_get (R.fr _ _ hF).1; omega
              refine ⟨[w.heap.size],rfl,fun b ob hb=> ?_,fun D hD=> ?_,by simp⟩
              · have : b ≠ w.heap.size := by rintro rfl; rw [hfresh] at hb; cases hb
                simp [this,hb]
              · simp only [List.mem_singleton] at hD
                subst hD
                exact ⟨by simp,hfresh⟩
            refine ⟨mkD w.heap.size::ds,_,hF1,ν',Γ,S',⟨hf.1,by show [mkD w.heap.size]++a.defers=_; rw [hf.2.1]; rfl,fun t s ht=> ?_⟩, ?_,(R.le_new _).trans hN, ?_, ?_,hK⟩
            · obtain ⟨u, u1, u2⟩ := hf.2.2 t s ht
              exact ⟨u,u1,VR.mono ((R.le_new _).trans hN) _ u2⟩
            · exact (show Same w W1 from ⟨rfl,rfl,rfl⟩).trans (hsame.trans ⟨rfl,rfl,rfl⟩)
            · refine SLe.trans (fun nm o v hg => ⟨o, v, ?_, Nat.le_refl _, fun _ => rfl⟩) hS
              have:=R.lt2 _ _ hg
              rw [new_get _ hn2,if_neg (by omega)]; exact hg
            · refine R3.turn (L := w.heap.size + 1) (ob := .loop rec) (by simp) (fun b hb => World.putObj_heap_other hb) fun b ob hb => ?_
              split at hb
              · rename_i e; subst e; exact ⟨by omega,by simpa using hb⟩
              · rename_i e
                have:=lt_of_get (R.fr _ _ hb).1
                exact ⟨by omega,by simp [e,show b ≠ w.heap.size+1 by omega,hb]⟩
  | _=>intro r h Γ S K H; simp only [WC,Fz.mk.injEq] at h; subst h; exact H.elim
noncomputable def runC (τ:Tys) (mth:Mth) (lf:Nat) (fn:Func):Fz:=
  match fn.body with
  | none=> .mk fun _ _ _ _=>False
  | some c=>bif Nat.blt fn.ntmps 1048575 then WC τ mth fn.ntmps lf c else .mk fun _ _ _ _=>False
noncomputable def callC (τ:Tys) (mth:Mth) (lf:Nat) (ext:CallF) (ft:FT) (d:Nat):CallF:=
  Nat.rec (motive:=fun _=>CallF) (fun _ _ _ _=>False) (fun _ ih f as S K=>match ft.get f with
    | none=>ext f as S K
    | some fn => match runC τ mth lf fn with
      | .mk r=>bif Nat.ble as.length fn.ntmps then r ih (argT 0 as) S (retU τ fn.results.toList K) else False) d
theorem callC_ok {mth : Mth} {lf : Nat} {ext : CallF} {ft : FT} (hA : Agree P τ) (hM : MthOk P mth) (hF : FOk P ft) (hE : CallOk P ext) (hm : P.follows .mixedOrders = true) : ∀ d, CallOk P (callC τ mth lf ext ft d)
  | 0=>fun f as S K H=>H.elim
  | d + 1 => by
    intro f as S K H
    have ih:=callC_ok (lf:=lf) hA hM hF hE hm d
    have un: ∀ f as S K,callC τ mth lf ext ft (d+1) f as S K=(match ft.get f with
      | none=>ext f as S K
      | some fn => match runC τ mth lf fn with
        | .mk r=>bif Nat.ble as.length fn.ntmps then r (callC τ mth lf ext ft d) (argT 0 as) S (retU τ fn.results.toList K) else False):=fun f as S K=>rfl
    have key: ∀ fn,ft.get f=some fn→fn.body.isSome=true→SpecOk P f (specOf (callC τ mth lf ext ft (d+1)) f):=by
      intro fn hfn hbody
      obtain ⟨h1,h2⟩:=hF f fn hfn
      obtain ⟨c,hb⟩:=Option.isSome_iff_exists.1 hbody
      refine ⟨⟨fn,h1,h2,by rw [hb]; rfl⟩,fun args Kr w ⟨ν,F,S,as,K,hv,R,hc,hk⟩=> ?_⟩
      rw [un,hfn] at hc
      simp only at hc
      unfold runC at hc
      rw [hb] at hc
      simp only at hc
      cases hq2:Nat.blt fn.ntmps 1048575 with
      | false =>
        rw [hq2] at hc
        simp only [cond_false] at hc
        cases hq1:Nat.ble as.length fn.ntmps <;> rw [hq1] at hc <;> exact hc.elim
      | true =>
        rw [hq2] at hc
        simp only [cond_true] at hc
        cases hr:WC τ mth fn.ntmps lf c with
        | mk r =>
          rw [hr] at hc
          simp only at hc
          cases hq1:Nat.ble as.length fn.ntmps with
          | false=>rw [hq1] at hc; exact hc.elim
          | true =>
            rw [hq1] at hc
            simp only [cond_true] at hc
            simp only [Nat.ble_eq,Nat.blt_eq] at hq1 hq2
            have hlen:=hv.len
            refine callsIn_wide.1 (callsIn_of_wp_marks (n:=1) (F:=Fence.wide) h1 hb trivial (wpIn_wide.2 ?_))
            have hfit:FitsU [] fn.ntmps ν (argT 0 as) {tmps:=args.toArray++Array.replicate (fn.ntmps - args.toArray.size) Go.undef,defers:=[]}:=by
              refine ⟨by simp; omega,rfl,fun t s hs=> ?_⟩
              rw [argT_get _ _ _ (by omega),if_pos (Nat.zero_le _),Nat.sub_zero] at hs
              obtain ⟨v,e1,e2⟩:=hv.get hs
              refine ⟨v, ?_,e2⟩
              have hlt:t<args.length:=by
                rw [List.getElem?_eq_some_iff] at e1; exact e1.1
              rw [Array.getElem?_append_left (by simpa using hlt)]
              simpa using e1
            refine wp_mono (WC_ok (C:=⟨τ,callC τ mth lf ext ft d,mth⟩) (lf:=lf) hA ih hM hq2 hm c hr _ _ _ hc ν F _ w hfit R) fun e a w' he=> ?_
            have fin: ∀ {a:Act} {e:Exit},(∀ Γ S',retU τ fn.results.toList K e Γ S'=resU τ Γ S' fn.results.toList fun l=>K (oneS l) S')→ ∀ {ν':Nu} {Γ':Tr SV} {S':SH},a.tmps.size=fn.ntmps→(∀ t s,Γ'.get t=some s→ ∃ v,a.tmps[t]? =some v∧VR ν' s v)→NLe ν ν'→SLe S S'→retU τ fn.results.toList K e Γ' S'→
                ∀ (Ds:List Nat) (F':Fr) (w':World),Rel ν' S' F' w'.heap→Same w w'→(∀ b ob,F b=some ob→F' b=some ob)→(∀ D ∈ Ds,F' D=some (.deferred (some []))∧F D=none)→Ds.Nodup→
                LeavesInM Fence.wide 1 P fn a.tmps (fun e w'=> ∃ v,e= .returned v∧Same w w'∧Kr v w'.heap) (Ds.map mkD) .returning w':=by
              intro a e he ν' Γ' S' k1 k2 k3 k4 k6 Ds
              induction Ds with
              | nil =>
                intro F' w' R' hs hF _ _
                rw [he] at k6
                obtain ⟨s,v,g1,g2,g3⟩:=resU_run (K:=fun s=>K s S') (ds:=a.defers) hA ⟨k1,rfl,k2⟩ (R'.less hF) k6
                exact ⟨v,g1,v,rfl,hs,hk _ _ ⟨ν',s,S',g3,g2,k3,k4,R'.less hF⟩⟩
              | cons D Ds ih =>
                intro F' w' R' hs hF hD hN
                obtain ⟨d1,d2⟩:=hD D (by simp)
                refine ⟨by simp, .inl ⟨D,w'.putObj D (.deferred none),rfl,run_takeDeferred (R'.fr _ _ d1).1, ?_⟩⟩
                refine ih (fun b=>if b=D then none else F' b) _ (R'.turn d1 (fun b hb=>World.putObj_heap_other hb) fun b ob hb=> ?_) (hs.trans ⟨rfl,rfl,rfl⟩) (fun b ob hb=> ?_) (fun D' hD'=> ?_) (List.nodup_cons.1 hN).2
                · split at hb
                  · cases hb
                  · rename_i e; exact ⟨e,hb⟩
                · have : b ≠ D := by rintro rfl; rw [d2] at hb; cases hb
                  simp [this,hF b ob hb]
                · have : D' ≠ D := by rintro rfl; exact (List.nodup_cons.1 hN).1 hD'
                  simp [this,hD D' (by simp [hD'])]
            cases e with
            | normal =>
              obtain ⟨ds',F',⟨Ds,rfl,m2,m3,m4⟩,ν',Γ',S',k1,k2,k3,k4,k5,k6⟩:=he
              show LeavesInM _ _ _ _ _ _ a.defers .returning w'
              rw [k1.2.1,List.append_nil]
              exact fin (e:= .normal) (fun _ _=>rfl) k1.1 k1.2.2 k3 k4 k6 Ds F' w' k5 k2 m2 m3 m4
            | ret =>
              obtain ⟨ds',F',⟨Ds,rfl,m2,m3,m4⟩,ν',Γ',S',k1,k2,k3,k4,k5,k6⟩:=he
              show LeavesInM _ _ _ _ _ _ a.defers .returning w'
              rw [k1.2.1,List.append_nil]
              exact fin (e:= .ret) (fun _ _=>rfl) k1.1 k1.2.2 k3 k4 k6 Ds F' w' k5 k2 m2 m3 m4
            | exit id=>obtain ⟨ds',F',_,ν',Γ',S',k1,k2,k3,k4,k5,k6⟩:=he; exact k6.elim
            | _=>exact he.elim
    cases hg:ft.get f with
    | some fn =>
      have hb:fn.body.isSome=true:=by
        rw [un,hg] at H
        simp only at H
        unfold runC at H
        cases hb:fn.body with
        | none =>
          rw [hb] at H
          simp only at H
          cases hq1:Nat.ble as.length fn.ntmps <;> rw [hq1] at H <;> exact H.elim
        | some c=>rfl
      exact key fn hg hb
    | none =>
      rw [un,hg] at H
      obtain ⟨h1,h2⟩:=hE f as S K H
      refine ⟨h1,fun args Kr w ⟨ν,F,S,as,K,hv,R,hc,hk⟩=> ?_⟩
      rw [un,hg] at hc
      exact h2 args Kr w ⟨ν,F,S,as,K,hv,R,hc,hk⟩
end Go.Ey
namespace Go.Ey
open Go Go.Wc
variable {P:Program} {ν:Nu} {S:SH} {F:Fr} {h:Hp}
theorem Rel.grow (R:Rel ν S F h) {h':Hp} (hk: ∀ (b:Nat) (ob:Obj),h[b]? =some ob→h'[b]? =some ob):Rel ν S F h':=
  ⟨fun nm o v hg hl=>let ⟨x,ob,h1,h2,h3⟩:=R.obj nm o v hg hl; ⟨x,ob,h1,hk _ _ h2,h3⟩,R.lt,R.lt2,R.sep,
    fun b ob hb=>⟨hk _ _ (R.fr b ob hb).1,(R.fr b ob hb).2⟩⟩
def frz (h0:Hp):Pu.At where
  P:=fun h F M=>F=[]∧h0.size≤h.size∧ ∀ b,b<h0.size→b ∉ M∧h[b]? =h0[b]?
  mono:=fun {h F M h' M'} _ hL ⟨e,hs,H⟩=>⟨e,Nat.le_trans hs hL.1.1,fun b hb=>⟨fun hm=>(hL.2 b hm).elim (H b hb).1 fun h=>by omega,by rw [hL.1.2 b (by omega) (H b hb).1,(H b hb).2]⟩⟩
  lt:=fun {h F M} ⟨e,_⟩ b hb=>by subst e; cases hb
theorem inv_frz (h0:Hp):Pu.Inv h0 [frz h0]:=⟨[[]],⟨⟨rfl,Nat.le_refl _,fun b hb=>⟨by simp,rfl⟩⟩,trivial⟩,by simp⟩
theorem frz_keep {h0 h':Hp} {F M:List Nat} (H:(frz h0).P h' F M): ∀ (b:Nat) (ob:Obj),h0[b]? =some ob→h'[b]? =some ob:=fun b ob hb=>by
  have hlt:b<h0.size:=by
    rcases Nat.lt_or_ge b h0.size with h | h
    · exact h
    · rw [Array.getElem?_eq_none h] at hb; cases hb
  rw [(H.2.2 b hlt).2]; exact hb
theorem Rel.frz (R:Rel ν S F h) {h':Hp} {G M:List Nat} (H:(frz h).P h' G M):Rel ν S F h':=R.grow (frz_keep H)
theorem PV.pure {K:SV→SH→Prop} {s:SV} {v:Value} {h':Hp} {G M:List Nat} (R:Rel ν S F h) (H:(Ey.frz h).P h' G M) (hK:K s S) (hv:VR ν s v):PV K ν S F v h':=
  ⟨ν,s,S,hK,hv,NLe.refl ν,SLe.refl S,R.frz H⟩
theorem specOk_of {f:Nat} {A B:Wc.Spec} (H:SpecOk P f A) (himp: ∀ args h K,B args h K→A args h K):SpecOk P f B:=⟨H.1,fun vs K w hb=>H.2 vs K w (himp _ _ _ hb)⟩
noncomputable def bytesAt (S:SH) (nm off len:Nat):Option (List Int):=match S.get nm with
  | some (.blk _ n _ d c)=>bif Nat.ble (off+len) n then go d c len off else none
  | _=>none
where
  go (d:SV) (c:Tr SV):Nat→Nat→Option (List Int)
  | 0,_=>some []
  | n + 1, i => match cell d c i with
    | .int .u8 x=>(go d c n (i+1)).map (x:: ·)
    | _=>none
end Go.Ey
namespace Go.Ey
open Go Go.Wc
variable {P:Program} {ν:Nu} {S:SH} {F:Fr} {h:Hp}
theorem go_ok {d : SV} {c : Tr SV} : ∀ {n i : Nat} {b : List Int}, bytesAt.go d c n i = some b → b.length = n ∧ ∀ j, j < n → cell d c (i + j) = .int .u8 (b.getD j 0)
  | 0,i,b,H=>by simp only [bytesAt.go,Option.some.injEq] at H; subst H; exact ⟨rfl,fun j hj=>by omega⟩
  | n + 1, i, b, H => by
    simp only [bytesAt.go] at H
    split at H
    · rename_i x hx
      cases hg:bytesAt.go d c n (i+1) with
      | none=>rw [hg] at H; cases H
      | some r =>
        rw [hg] at H
        simp only [Option.map_some,Option.some.injEq] at H
        subst H
        obtain ⟨h1,h2⟩:=go_ok hg
        refine ⟨by simp [h1],fun j hj=> ?_⟩
        cases j with
        | zero=>simpa using hx
        | succ j=>rw [show i+(j+1)=i+1+j from by omega,h2 j (by omega)]; simp
    · cases H
theorem els_int (k:IntKind) (h:Hp) (M:List Nat): ∀ b:List Int,Pu.Els (Pu.rI k) h M (b.map (Value.int k)) b
  | []=>rfl
  | x::b=>⟨[.int k x],b.map (Value.int k),rfl,rfl,els_int k h M b⟩
theorem sle_bytes (R:Rel ν S F h) {nm off len cap:Nat} {b:List Int} {p:Nat × Nat} (hb:bytesAt S nm off len=some b) (hp:ν nm=some p) (hc:len≤cap):
    b.length=len∧Pu.SlE (Pu.rI .u8) h [] (some ⟨p.1,off,none⟩) cap b:=by
  unfold bytesAt at hb
  split at hb
  · rename_i T n op d c hg
    cases hq:Nat.ble (off+len) n with
    | false=>rw [hq] at hb; cases hb
    | true =>
      rw [hq] at hb
      simp only [cond_true] at hb
      have hle:=Nat.le_of_ble_eq_true hq
      obtain ⟨h1,h2⟩:=go_ok hb
      obtain ⟨y,cs,z,hy,hblk,g1,g2,g3,g4,g5⟩:=R.blk hg
      rw [hp] at hy; cases hy
      refine ⟨h1,b.map (Value.int .u8),⟨by simp,fun _=>rfl,fun i hi=> ?_⟩,by omega,fun _ _ _=>by simp,els_int _ _ _ _⟩
      have hi':i<len:=by simpa [h1] using hi
      obtain ⟨v,k1,k2⟩:=g5 (off+i) (by omega)
      rw [h2 i hi'] at k2
      simp only [VR] at k2
      rw [hcell_of hblk]
      simp only [k1,k2,List.getElem_map,Option.some.injEq,Value.int.injEq,true_and]
      rw [List.getD_eq_getElem?_getD,List.getElem?_eq_getElem (by omega),Option.getD_some]
  · cases hb
end Go.Ey
