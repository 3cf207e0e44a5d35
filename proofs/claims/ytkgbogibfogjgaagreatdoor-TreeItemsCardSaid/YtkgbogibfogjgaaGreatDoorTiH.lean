import Derived.Test.YtkgbogibfogjgaaGreatDoorTiA
import Derived.Test.YtkgbogibfogjgaaGreatDoorTiB
import Derived.Test.YtkgbogibfogjgaaGreatDoorTiG
import Derived.RangeFuncLeaves
import Derived.RangeFuncKeeps
import Derived.OrdersIn
import Derived.TacticsIn
import Derived.LoopNIn
import Derived.RangeFuncIn
import Derived.RangeFuncRecord
set_option linter.unusedVariables false
set_option linter.unusedSimpArgs false
set_option maxHeartbeats 4000000
set_option maxRecDepth 100000
namespace Go.Ey
open Go Go.Wc
variable {ds:List Deferred} {P:Program} {ν:Nu} {τ:Tys} {Γ:Tr SV} {S:SH} {F:Fr} {C:Ctx}
noncomputable def seqC (τ:Tys) (dF:Mth) (n:Nat) (ops:List Oper):List Oper->Fst
 | []=> .mk fun _ Γ S K=>K Γ S
 | o::r=>match stepC τ dF n o with
  | .mk f=>match seqC τ dF n ops r with
   | .mk g=>match o.guard with
    | none=> .mk fun cl Γ S K=>f cl Γ S fun Γ' S'=>g cl Γ' S' K
    | some _=> .mk fun cl Γ S K=>gdU ops o Γ (f cl Γ S fun Γ' S'=>g cl Γ' S' K) (bif dstOk n o.dst then g cl (putS o.dst .undef Γ) S K else False)
theorem kC {n:Nat} {ops:List Oper} {Q:Exit->Act->World->Prop} (hA:Agree P C.τ) (hC:CallOk P C.call) (hM:MthOk P C.dF) (hn:n<1048575):
    ∀ {l:List Oper} {f:Stp} {Γ:Tr SV} {ν:Nu} {S:SH} {K:Tr SV->SH->Prop} {a:Act} {w:World},seqC C.τ C.dF n ops l= .mk f->FitsU ds n ν Γ a->Rel ν S F w.heap->(∀ a' w',NX ds n ν S F w K a' w'->Q .normal a' w')->
      f C.call Γ S K->wpList P ops.toArray Q l a w
  | [],f,Γ,ν,S,K,a,w,h,hf,R,hQ,H=>by
    simp only [seqC,Fst.mk.injEq] at h;subst h
    exact hQ _ _ ⟨ν,Γ,S,hf,Same.refl w,NLe.refl ν,SLe.refl S,R,H⟩
  | o :: l, f, Γ, ν, S, K, a, w, h, hf, R, hQ, H => by
    simp only [seqC] at h
    cases hs:stepC C.τ C.dF n o with
    | mk f1=>
      cases hr:seqC C.τ C.dF n ops l with
      | mk g=>
        rw [hs,hr] at h;simp only at h
        have H2:gdU ops o Γ (f1 C.call Γ S fun Γ' S'=>g C.call Γ' S' K) (bif dstOk n o.dst then g C.call (putS o.dst .undef Γ) S K else False):=by
          split at h
          . rename_i hg;simp only [Fst.mk.injEq] at h;subst h;unfold gdU;rw [hg];exact H
          . simp only [Fst.mk.injEq] at h;subst h;exact H
        unfold wpList;rcases lF hf H2 with ⟨hw,H⟩ | ⟨hw,H⟩
        . rw [if_pos hw];refine .inl (n6 hA hC hM hn hf R (fun a' w' ⟨ν',Γ',S',h1,h2,h3,h4,h5,g',h6⟩=> ?_) (HU hn hs H));exact kC hA hC hM hn hr h1 h5 (fun a3 w3 ⟨ν3,Γ3,S3,k1,k2,k3,k4,k5,k6⟩=>hQ _ _ ⟨ν3,Γ3,S3,k1,h2.trans k2,h3.trans k3,h4.trans k4,k5,k6⟩) h6
        . rw [if_neg (by rw [hw]; simp)]
          cases hd:dstOk n o.dst with
          | false=>rw [hd] at H; exact H.elim
          | true=>rw [hd] at H; exact kC hA hC hM hn hr (hf.put hn hd (by simp only [VR])) R hQ H
noncomputable def loopC (body:RunU) (n:Nat):RunU:=
 Nat.rec (motive:=fun _=>RunU) (fun _ _ _=>False) (fun _ ih Γ S K=>body Γ S (thenU (fun Γ' S'=>ih Γ' S' K) K)) n
theorem sV (body:RunU): ∀ n,loopC body n=loopU body n
 | 0=>rfl
 | n+1=>by funext Γ S K;show body Γ S (thenU (fun Γ' S'=>loopC body n Γ' S' K) K)=body Γ S (thenU (fun Γ' S'=>loopU body n Γ' S' K) K);rw [sV body n]
def mkD (D:Nat):Deferred:= {target:= .collected D,args:= #[]}
def MG (F:Fr) (ds:List Deferred) (F':Fr) (ds':List Deferred):Prop:=
 ∃ Ds:List Nat,ds'=Ds.map mkD++ds/\(∀ b ob,F b=some ob->F' b=some ob)/\(∀ D ∈ Ds,F' D=some (.deferred (some []))/\F D=none)/\Ds.Nodup
theorem MG.refl (F:Fr) (ds:List Deferred):MG F ds F ds:=⟨[],rfl,fun _ _ h=>h,fun _ h=>absurd h (by simp),List.nodup_nil⟩
theorem MG.trans {F F1 F2:Fr} {ds HY ds2:List Deferred} (h1:MG F ds F1 HY) (h2:MG F1 HY F2 ds2):MG F ds F2 ds2:=by
 obtain ⟨A,rfl,a2,a3,a4⟩:=h1;obtain ⟨B,rfl,b2,b3,b4⟩:=h2;refine ⟨B++A,by rw [List.map_append,List.append_assoc],fun b ob h=>b2 _ _ (a2 _ _ h),fun D hD=> ?_, ?_⟩
 ·rcases List.mem_append.1 hD with h | h
  ·refine ⟨(b3 D h).1, ?_⟩
   cases hF:F D with
   | none=>rfl
   | some ob=>have q:=(b3 D h).2; rw [a2 _ _ hF] at q; cases q
  ·exact ⟨b2 _ _ (a3 D h).1,(a3 D h).2⟩
 ·refine List.nodup_append.2 ⟨b4,a4,fun x hx y hy e=> ?_⟩
  subst e;have q:=(b3 x hx).2;rw [(a3 x hy).1] at q;cases q
def dpR (ds:List Deferred) (w0:World) (n:Nat) (ν:Nu) (S:SH) (F:Fr) (K:KontU):Exit->Act->World->Prop:=fun e a w=>match e with
 | .panic _=>False
 | .outgrown=>False
 | .goto _=>False
 | e=> ∃ ds' F',MG F ds F' ds'/\NX ds' n ν S F' w0 (K e) a w
theorem dpR.of {n:Nat} {w0 w:World} {K:KontU} {a:Act} {e:Exit} (h:dpU ds w0 n ν S F K e a w):dpR ds w0 n ν S F K e a w:=by cases e <;> first | exact h.elim | exact ⟨ds,F,MG.refl F ds,h⟩
theorem dpR.after {n:Nat} {ν1:Nu} {S1:SH} {F1:Fr} {HY:List Deferred} {w0 w1 w:World} {K:KontU} {a:Act} {e:Exit} (h1:NLe ν ν1) (h2:SLe S S1) (hs:Same w0 w1) (hm:MG F ds F1 HY) (h:dpR HY w1 n ν1 S1 F1 K e a w):dpR ds w0 n ν S F K e a w:=by
 cases e <;> first
  | exact h.elim
  | (obtain ⟨ds',F',m,h⟩:=h; exact ⟨ds',F',hm.trans m,NX.after h1 h2 hs h⟩)
def RunR (P:Program) (n:Nat) (c:Code) (r:RunU):Prop:= ∀ Γ S K,r Γ S K-> ∀ ⦃ds:List Deferred⦄ (ν:Nu) (F:Fr) a w,FitsU ds n ν Γ a->Rel ν S F w.heap->c.wp P (dpR ds w n ν S F K) a w
theorem RunOk.R {n:Nat} {c:Code} {r:RunU} (h:RunOk P n c r):RunR P n c r:=fun Γ S K H ds ν F a w hf R=>wp_mono (h Γ S K H ν F a w hf R) fun _ _ _ h=>dpR.of h
theorem zo {n:Nat} {c:Code} {r:RunU} (hr:RunR P n c r): ∀ k Γ S K,loopU r k Γ S K-> ∀ {ds:List Deferred} (ν:Nu) (F:Fr) (a:Act) (w:World),FitsU ds n ν Γ a->Rel ν S F w.heap->AtHead P c (dpR ds w n ν S F K) a w
 | 0,Γ,S,K,H,_,_,_,_,_,_,_=>H.elim
 | k+1,Γ,S,K,H,ds,ν,F,a,w,hf,R=>by
  unfold loopU at H;refine mD (wp_mono (hr _ _ _ H ν F a w hf R) fun e a' w' he=> ?_)
  cases e with
  | normal=>
   obtain ⟨HY,F1,hm,ν',Γ',S',k1,k2,k3,k4,k5,k6⟩:=he;have:=zo hr k Γ' S' K k6 ν' F1 a' w' k1 k5;intro b ks cs;obtain ⟨e2,a2,w2,q,ar⟩:=this b ks cs
   exact ⟨e2,a2,w2,dpR.after k3 k4 k2 hm q,ar⟩
  | _=>exact he
theorem Rel.loop {h:Hp} (R:Rel ν S F h) (hn:S.next+1<1048576) (oD oL:Obj):
  Rel (bind ν S.next (h.size+1,0)) (S.new .gone) (fun b=>if b=h.size then some oD else if b=h.size+1 then some oL else F b) ((h.push oD).push oL):=by
 have hne: ∀ j,S.next ≠ j->bind ν S.next (h.size+1,0) j=ν j:=fun j hj=>by simp [bind,hj]
 have old: ∀ nm o1 v,(S.new .gone).t.get nm=some (o1,v)->o1.live=true->S.next ≠ nm/\S.t.get nm=some (o1,v):=by
  intro nm o1 v hg hl;rw [iA _ hn] at hg
  by_cases e:S.next=nm
  ·rw [if_pos e] at hg; cases hg; simp [SO.live] at hl
  ·rw [if_neg e] at hg; exact ⟨e,hg⟩
 have small: ∀ j o v x,S.t.get j=some (o,v)->o.live=true->ν j=some x->x.1<h.size:=fun j o v x hj hl hx=>by obtain ⟨x',ob',g1,g2,_⟩:=R.obj j o v hj hl;rw [hx] at g1; cases g1;exact dc g2
 refine ⟨fun nm o' v hg hl=> ?_,fun nm x hx=> ?_,fun nm x hx=> ?_,fun nm nm' o1 v1 o2 v2 x x' g1 l1 g2 l2 e1 e2 e=> ?_,fun b ob' hF=> ?_⟩
 ·obtain ⟨e,hg⟩:=old _ _ _ hg hl
  obtain ⟨x,ob',g1,g2,g3⟩:=R.obj nm o' v hg hl;exact ⟨x,ob',by rw [hne _ e]; exact g1,fI (fI g2),OB.mono (R.fE _) g3⟩
 ·by_cases e:S.next=nm
  ·subst e; exact Nat.lt_succ_self _
  ·rw [hne _ e] at hx; exact Nat.lt_succ_of_lt (R.lt _ _ hx)
 ·by_cases e:S.next=nm
  ·subst e; exact Nat.lt_succ_self _
  ·rw [iA _ hn,if_neg e] at hx; exact Nat.lt_succ_of_lt (R.y9 _ _ hx)
 ·obtain ⟨a1,g1⟩:=old _ _ _ g1 l1
  obtain ⟨a2,g2⟩:=old _ _ _ g2 l2;rw [hne _ a1] at e1; rw [hne _ a2] at e2;exact R.sep _ _ _ _ _ _ _ _ g1 l1 g2 l2 e1 e2 e
 ·split at hF
  ·rename_i eb
   cases hF;subst eb;refine ⟨fI (by simp),fun nm o v x hg hl hx=> ?_⟩;obtain ⟨e,hg⟩:=old _ _ _ hg hl;rw [hne _ e] at hx;have:=small _ _ _ _ hg hl hx;omega
  ·split at hF
   ·rename_i eb
    cases hF;subst eb;refine ⟨by rw [show h.size+1=(h.push oD).size by simp]; exact Array.getElem?_push_size,fun nm o v x hg hl hx=> ?_⟩;obtain ⟨e,hg⟩:=old _ _ _ hg hl;rw [hne _ e] at hx;have:=small _ _ _ _ hg hl hx;omega
   ·obtain ⟨g1,g2⟩:=R.fr b ob' hF
    refine ⟨fI (fI g1),fun nm o v x hg hl hx=> ?_⟩;obtain ⟨e,hg⟩:=old _ _ _ hg hl;rw [hne _ e] at hx;exact g2 _ _ _ _ hg hl hx
theorem Rel.turn {F':Fr} {h h':Hp} {L:Nat} {ob:Obj} (R:Rel ν S F h) (hL:F L=some ob) (hk: ∀ b,b ≠ L->h'[b]? =h[b]?) (hF: ∀ b ob,F' b=some ob->b ≠ L/\F b=some ob):Rel ν S F' h':=by
 have hne:=(R.fr L ob hL).2;refine ⟨fun nm o v hg hl=> ?_,R.lt,R.y9,R.sep,fun b ob' hb=> ?_⟩
 ·obtain ⟨x,ob',g1,g2,g3⟩:=R.obj nm o v hg hl
  exact ⟨x,ob',g1,by rw [hk _ (hne _ _ _ _ hg hl g1)]; exact g2,g3⟩
 ·obtain ⟨e,hb⟩:=hF b ob' hb
  obtain ⟨g1,g2⟩:=R.fr b ob' hb;exact ⟨by rw [hk _ e]; exact g1,g2⟩
theorem Rel.less {F':Fr} {h:Hp} (R:Rel ν S F h) (hF: ∀ b ob,F' b=some ob->F b=some ob):Rel ν S F' h:=
 ⟨R.obj,R.lt,R.y9,R.sep,fun b ob hb=>R.fr b ob (hF b ob hb)⟩
end Go.Ey
namespace Go.Ey
open Go Go.Wc
variable {P:Program} {ν:Nu} {S:SH} {F:Fr} {h:Hp}
theorem Rel.grow (R:Rel ν S F h) {h':Hp} (hk: ∀ (b:Nat) (ob:Obj),h[b]? =some ob->h'[b]? =some ob):Rel ν S F h':=
 ⟨fun nm o v hg hl=>let ⟨x,ob,h1,h2,h3⟩:=R.obj nm o v hg hl; ⟨x,ob,h1,hk _ _ h2,h3⟩,R.lt,R.y9,R.sep,
  fun b ob hb=>⟨hk _ _ (R.fr b ob hb).1,(R.fr b ob hb).2⟩⟩
def frz (h0:Hp):Pu.At where
 P:=fun h F M=>F=[]/\h0.size<=h.size/\ ∀ b,b<h0.size->b ∉ M/\h[b]? =h0[b]?
 mono:=fun {h F M h' M'} _ hL ⟨e,hs,H⟩=>⟨e,Nat.le_trans hs hL.1.1,fun b hb=>⟨fun hm=>(hL.2 b hm).elim (H b hb).1 fun h=>by omega,by rw [hL.1.2 b (by omega) (H b hb).1,(H b hb).2]⟩⟩
 lt:=fun {h F M} ⟨e,_⟩ b hb=>by subst e; cases hb
theorem KF (h0:Hp):Pu.Inv h0 [frz h0]:=⟨[[]],⟨⟨rfl,Nat.le_refl _,fun b hb=>⟨by simp,rfl⟩⟩,trivial⟩,by simp⟩
theorem HZ {h0 h':Hp} {F M:List Nat} (H:(frz h0).P h' F M): ∀ (b:Nat) (ob:Obj),h0[b]? =some ob->h'[b]? =some ob:=fun b ob hb=>by
 have hlt:b<h0.size:=by
  rcases Nat.lt_or_ge b h0.size with h | h
  ·exact h
  ·rw [Array.getElem?_eq_none h] at hb; cases hb
 rw [(H.2.2 b hlt).2]; exact hb
theorem Rel.frz (R:Rel ν S F h) {h':Hp} {G M:List Nat} (H:(frz h).P h' G M):Rel ν S F h':=R.grow (HZ H)
theorem PV.pure {K:SV->SH->Prop} {s:SV} {v:Value} {h':Hp} {G M:List Nat} (R:Rel ν S F h) (H:(Ey.frz h).P h' G M) (hK:K s S) (hv:VR ν s v):PV K ν S F v h':=
 ⟨ν,s,S,hK,hv,NLe.refl ν,SLe.refl S,R.frz H⟩
theorem ja {f:Nat} {A B:Wc.Spec} (H:SpecOk P f A) (himp: ∀ args h K,B args h K->A args h K):SpecOk P f B:=⟨H.1,fun vs K w hb=>H.2 vs K w (himp _ _ _ hb)⟩
noncomputable def bytesAt (S:SH) (nm off len:Nat):Option (List Int):=match S.get nm with
 | some (.blk _ n _ d c)=>bif Nat.ble (off+len) n then go d c len off else none
 | _=>none
where
 go (d:SV) (c:Tr SV):Nat->Nat->Option (List Int)
 | 0,_=>some []
 | n+1,i=>match cell d c i with
  | .int .u8 x=>(go d c n (i+1)).map (x:: ·)
  | _=>none
theorem LQ {d:SV} {c:Tr SV}: ∀ {n i:Nat} {b:List Int},bytesAt.go d c n i=some b->b.length=n/\ ∀ j,j<n->cell d c (i+j)= .int .u8 (b.getD j 0)
 | 0,i,b,H=>by simp only [bytesAt.go,Option.some.injEq] at H; subst H; exact ⟨rfl,fun j hj=>by omega⟩
 | n+1,i,b,H=>by
  simp only [bytesAt.go] at H;split at H
  ·rename_i x hx
   cases hg:bytesAt.go d c n (i+1) with
   | none=>rw [hg] at H; cases H
   | some r=>
    rw [hg] at H;simp only [Option.map_some,Option.some.injEq] at H;subst H;obtain ⟨h1,h2⟩:=LQ hg;refine ⟨by simp [h1],fun j hj=> ?_⟩
    cases j with
    | zero=>simpa using hx
    | succ j=>rw [show i+(j+1)=i+1+j from by omega,h2 j (by omega)]; simp
  ·cases H
theorem Ct (k:IntKind) (h:Hp) (M:List Nat): ∀ b:List Int,Pu.Els (Pu.rI k) h M (b.map (Value.int k)) b
 | []=>rfl
 | x::b=>⟨[.int k x],b.map (Value.int k),rfl,rfl,Ct k h M b⟩
theorem u5 (R:Rel ν S F h) {nm off len cap:Nat} {b:List Int} {p:Nat × Nat} (hb:bytesAt S nm off len=some b) (hp:ν nm=some p) (hc:len<=cap):
  b.length=len/\Pu.SlE (Pu.rI .u8) h [] (some ⟨p.1,off,none⟩) cap b:=by
 unfold bytesAt at hb;split at hb
 ·rename_i T n op d c hg
  cases hq:Nat.ble (off+len) n with
  | false=>rw [hq] at hb; cases hb
  | true=>
   rw [hq] at hb;simp only [cond_true] at hb;have hle:=Nat.le_of_ble_eq_true hq;obtain ⟨h1,h2⟩:=LQ hb;obtain ⟨y,cs,z,hy,hblk,g1,g2,g3,g4,g5⟩:=R.blk hg;rw [hp] at hy; cases hy;refine ⟨h1,b.map (Value.int .u8),⟨by simp,fun _=>rfl,fun i hi=> ?_⟩,by omega,fun _ _ _=>by simp,Ct _ _ _ _⟩;have hi':i<len:=by simpa [h1] using hi
   obtain ⟨v,k1,k2⟩:=g5 (off+i) (by omega);rw [h2 i hi'] at k2;simp only [VR] at k2;rw [dQ hblk];simp only [k1,k2,List.getElem_map,Option.some.injEq,Value.int.injEq,true_and];rw [List.getD_eq_getElem?_getD,List.getElem?_eq_getElem (by omega),Option.getD_some]
 ·cases hb
end Go.Ey
namespace Go.Ey
open Go Go.Wc
structure Wd (F:Fence):Prop where
 fn: ∀ f,F.fn f
 depth:F.depth=none
 fenced: ∀ P,Machine.fenced P F=Machine.fenced P Fence.wide
theorem Wd.wide:Wd Fence.wide:=⟨fun _=>trivial,rfl,fun _=>rfl⟩
theorem Wd.inRound (l:Nat):Wd (Fence.wide.inRound l):=⟨fun _=>trivial,rfl,fun _=>rfl⟩
section
variable {Fn:Fence} {n:Nat} {P:Program} {Q:Exit->Act->World->Prop}
theorem Wd.comes (h:Wd Fn) {m m':Machine} {e:Ending} (H:Comes P m m' e):ComesIn (Machine.fenced P Fn) P m m' e:=by rw [h.fenced]; exact comesIn_wide.2 H
theorem Wd.calls (h:Wd Fn) {f:FuncId} {args:Array Value} {w:World} {R:Ending->World->Prop} (H:Calls P f args w R):CallsIn Fn n P f args w R:=
 ⟨h.fn f,fun cs _=>let ⟨e,w',fr,r,s,x⟩:=H cs; ⟨e,w',fr,r,h.comes s,x⟩⟩
theorem Wd.rows (h:Wd Fn) {row:String} {args:Array Value} {w:World} {R:Value->World->Prop} (H:Rows P row args w R):RowsIn Fn n P row args w R:=
 fun c cs _=>let ⟨v,w',r,s⟩:=H c cs; ⟨v,w',r,by rw [h.fenced]; exact stepsIn_wide.2 s⟩
theorem Wd.op (h:Wd Fn) {o:Oper} {a:Act} {w:World} {next next':Act->World->Prop} (hn: ∀ a w,next a w->next' a w) (hd:Oper.semAt Fn.round a.eval o=execOp a.eval o) (H:o.wp P a w next Q):o.wpIn Fn n P a w next' Q:=by
 refine ⟨fun f _=>h.fn f, ?_⟩;rw [hd];unfold Oper.wp at H;generalize (execOp a.eval o).run P w=r at H;unfold Oper.upon at H;unfold Oper.uponIn;split at H
 ·exact hn _ _ H
 ·exact hn _ _ H
 ·exact hn _ _ H
 ·refine ⟨fun hs=>(by rw [h.depth] at hs; cases hs),h.calls (Calls.mono H fun e w'' he=> ?_)⟩
  cases e with
  | returned v=>exact hn _ _ he
  | panicked chain=>exact he
  | outgrown=>exact he
 ·exact ⟨fun hs=>(by rw [h.depth] at hs; cases hs),h.rows (Rows.mono H fun v w'' he=>hn _ _ he)⟩
 ·exact H
 ·exact H.elim
def noDefer (ops:List Oper):Bool:=ops.all fun o=>match o.op with
 | .defer _=>false
 | _=>true
theorem Bk {ops:List Oper} (h:noDefer ops=true): ∀ o ∈ ops,∀ c,o.op ≠ .defer c:=fun o ho c e=>by have:=List.all_eq_true.1 h o ho;rw [e] at this;cases this
theorem Wd.list (h:Wd Fn) (hQ: ¬ LetsOut Q) {ops:Array Oper}: ∀ {l:List Oper} {a:Act} {w:World},(∀ o ∈ l,∀ c,o.op ≠ .defer c)->wpList P ops Q l a w->wpListIn Fn n P ops Q l a w
 | [],a,w,_,H=>H
 | o::l,a,w,hd,H=>by
  unfold wpList at H;unfold wpListIn;have ih: ∀ a w,wpList P ops Q l a w->wpListIn Fn n P ops Q l a w:=fun a w H=>h.list hQ (fun o ho=>hd o (List.mem_cons_of_mem _ ho)) H;split at H
  ·rename_i hw
   rw [if_pos hw];rcases H with H | H
   ·exact h.op ih (Oper.semAt_eq _ _ _ (hd o List.mem_cons_self)) H
   ·exact absurd H.2 hQ
  ·rename_i hw
   rw [if_neg hw];exact ⟨fun f _=>h.fn f,ih _ _ H⟩
theorem Wd.any (h:Wd Fn) (hQ: ¬ LetsOut Q) {md:Region.Mode} {ops:Array Oper} (hd: ∀ o ∈ ops.toList,∀ c,o.op ≠ .defer c): ∀ {fuel:Nat} {l:Array Bool} {a:Act} {w:World},wpAny P md ops Q fuel l a w->wpAnyIn Fn n P md ops Q fuel l a w
 | 0,l,a,w,H=>H
 | fuel+1,l,a,w,H=>by
  refine ⟨H.1,fun i hi=> ?_⟩;have H2:=H.2 i hi;unfold wpOp at H2;unfold wpOpIn;have ih: ∀ a w,wpAny P md ops Q fuel (l.setIfInBounds i true) a w->wpAnyIn Fn n P md ops Q fuel (l.setIfInBounds i true) a w:=fun a w H=>h.any hQ hd H
  cases ho:ops[i]? with
  | none=>
   rw [ho] at H2
   exact ih _ _ H2
  | some o=>
   rw [ho] at H2;simp only at H2 |-
   split at H2
   ·rename_i hw
    rw [if_pos hw];rcases H2 with H2 | H2
    ·exact h.op ih (Oper.semAt_eq _ _ _ (hd o (by rw [Array.getElem?_eq_some_iff] at ho; obtain ⟨h1,rfl⟩:=ho; simp))) H2
    ·exact absurd H2.2 hQ
   ·rename_i hw
    rw [if_neg hw];exact ⟨fun f _=>h.fn f,ih _ _ H2⟩
end
end Go.Ey
namespace Go.Ey
open Go Go.Wc
variable {ds:List Deferred} {P:Program} {ν:Nu} {τ:Tys} {Γ:Tr SV} {S:SH} {F:Fr} {C:Ctx}
theorem sX {n:Nat} {w0:World} {K:KontU}: ¬ LetsOut (dpU ds w0 n ν S F K):=fun ⟨_,_,h⟩=>h
theorem Ib {n:Nat} (hA:Agree P C.τ) (hC:CallOk P C.call) (hM:MthOk P C.dF) (hn:n<1048575) {ops:Array Oper} {p:Plan} (hp:planFor C.τ ops=some p) {K:KontU} {a:Act} {w:World}
  (H:WPlU C n ops.toList p Γ S [] fun Γ' S'=>K .normal Γ' S') (hf:FitsU ds n ν Γ a) (R:Rel ν S F w.heap):
  wpAny P .any ops (dpU ds w n ν S F K) ops.size (Array.replicate ops.size false) a {w with drawn:=w.drawn+1}:=by
 unfold planFor at hp;simp only at hp
 cases hok:(Region.noSelect ops && shutP (mkPlan C.τ ops ops.size (Array.replicate ops.size false)) && planOk ops (mkPlan C.τ ops ops.size (Array.replicate ops.size false)) ops.size (Array.replicate ops.size false) []) with
 | false=>rw [hok] at hp; cases hp
 | true=>
  rw [hok] at hp;simp only [cond_true,Option.some.injEq] at hp;rw [hp] at hok;simp only [Bool.and_eq_true] at hok;refine jY (S:=SF []) _ _ _ _ ?_
  have D0:Cl ops (Array.replicate ops.size false):=fun x ox _ hl=>by
   exfalso;rcases Nat.lt_or_ge x ops.size with hx | hx
   ·simp [hx] at hl
   ·simp [Nat.not_lt.2 hx] at hl
  have:=(gw (P:=P) (Q:=dpU ds w n ν S F K) (ops:=ops.toList) (F:=F) (w0:=w) (ν0:=ν) (S0:=S) (K:=K .normal) hA hC hM hn (by simpa using hok.1.1) (fun c a w h=>h)
   (fun ν' Γ' S' a' w' h1 h2 h3 h4 h5 h6=>⟨ν',Γ',S',h1,h2,h3,h4,h5,h6⟩) p (Fs:=[]) (Fa:=[]) (a:=a) (w:= {w with drawn:=w.drawn+1}) (fuel:=ops.size) (l:=Array.replicate ops.size false) (Ds:=[])
   hf ⟨rfl,rfl,rfl⟩ (NLe.refl ν) (SLe.refl S) R rfl (by simpa using D0) (fun q hq=>by cases hq) (by simpa using hok.2) (fun q hq=>by cases hq) H).1 hok.1.2
  simpa using this
theorem Ic {n:Nat} (hA:Agree P C.τ) (hC:CallOk P C.call) (hM:MthOk P C.dF) (hn:n<1048575) {ops:Array Oper} {j:Nat} {p:pW} (hp:jT C.τ ops=some (j,p)) {K:KontU} {a:Act} {w:World}
  (H:tD C n ops.toList j p Γ S [] none fun Γ' S'=>K .normal Γ' S') (hf:FitsU ds n ν Γ a) (R:Rel ν S F w.heap):
  wpAny P .any ops (dpU ds w n ν S F K) ops.size (Array.replicate ops.size false) a {w with drawn:=w.drawn+1}:=(by unfold jT at hp; cases hp)
noncomputable def WB (τ:Tys) (dF:Mth) (n lf:Nat):Code->Fz
 | .skip=> .mk fun _ Γ S K=>K .normal Γ S
 | .region _ ops draw=>bif noDefer ops.toList then (bif draw then (match planFor τ ops with
   | some p=>bif single p then .mk fun cl Γ S K=>WPlU ⟨τ,cl,dF⟩ n ops.toList p Γ S [] fun Γ' S'=>K .normal Γ' S' else (match jT τ ops with
    | some (j,q)=> .mk fun cl Γ S K=>tD ⟨τ,cl,dF⟩ n ops.toList j q Γ S [] none fun Γ' S'=>K .normal Γ' S'
    | none=> .mk fun cl Γ S K=>WPlU ⟨τ,cl,dF⟩ n ops.toList p Γ S [] fun Γ' S'=>K .normal Γ' S')
   | none=> .mk fun _ _ _ _=>False) else (match seqC τ dF n ops.toList ops.toList with
   | .mk f=> .mk fun cl Γ S K=>f cl Γ S fun Γ' S'=>K .normal Γ' S')) else .mk fun _ _ _ _=>False
 | .seq a b=>match WB τ dF n lf a with
  | .mk f=>match WB τ dF n lf b with
   | .mk g=> .mk fun cl Γ S K=>f cl Γ S (thenU (fun Γ' S'=>g cl Γ' S' K) K)
 | .cond c x y=>match opdC c with
  | .mk e=>match WB τ dF n lf x with
   | .mk f=>match WB τ dF n lf y with
    | .mk g=> .mk fun cl Γ S K=>e Γ fun s=>condU s (f cl Γ S K) (g cl Γ S K)
 | .block id c=>match WB τ dF n lf c with
  | .mk f=> .mk fun cl Γ S K=>f cl Γ S (blockU id K)
 | .loop c=>match WB τ dF n lf c with
  | .mk f=> .mk fun cl Γ S K=>loopC (f cl) lf Γ S K
 | .exit id=> .mk fun _ Γ S K=>K (.exit id) Γ S
 | .ret=> .mk fun _ Γ S K=>K .ret Γ S
 | _=> .mk fun _ _ _ _=>False
def RunB (P:Program) (m l n:Nat) (c:Code) (r:RunU):Prop:= ∀ Γ S K,r Γ S K-> ∀ ⦃ds:List Deferred⦄ (ν:Nu) (F:Fr) a w,FitsU ds n ν Γ a->Rel ν S F w.heap->c.wpIn (Fence.wide.inRound l) m P (dpU ds w n ν S F K) a w
theorem zq {m l n:Nat} {c:Code} {r:RunU} (hr:RunB P m l n c r): ∀ k Γ S K,loopU r k Γ S K-> ∀ {ds:List Deferred} (ν:Nu) (F:Fr) (a:Act) (w:World),FitsU ds n ν Γ a->Rel ν S F w.heap->Code.roundsIn (Fence.wide.inRound l) m P c (dpU ds w n ν S F K) k a w
 | 0,Γ,S,K,H,_,_,_,_,_,_,_=>H.elim
 | k+1,Γ,S,K,H,ds,ν,F,a,w,hf,R=>by
  unfold loopU at H;refine wpIn_mono (hr _ _ _ H ν F a w hf R) fun e a' w' he=> ?_
  cases e with
  | normal=>
   obtain ⟨ν',Γ',S',k1,k2,k3,k4,k5,k6⟩:=he;have ih:=zq hr k Γ' S' K k6 ν' F a' w' k1 k5
   exact pX k ih fun e2 a2 w2 h=>dpU.after k3 k4 k2 h
  | _=>exact he
where
 pX {m l:Nat} {c:Code} {Q Q':Exit->Act->World->Prop}: ∀ (k:Nat) {a:Act} {w:World},Code.roundsIn (Fence.wide.inRound l) m P c Q k a w->(∀ e a w,Q e a w->Q' e a w)->Code.roundsIn (Fence.wide.inRound l) m P c Q' k a w
 | 0,_,_,H,_=>H
 | k+1,a,w,H,hq=>wpIn_mono H fun e a' w' he=>by
  cases e with
  | normal=>exact pX k he hq
  | _=>exact hq _ _ _ he
theorem LR {m l n lf:Nat} (hA:Agree P C.τ) (hC:CallOk P C.call) (hM:MthOk P C.dF) (hn:n<1048575) (hm:P.follows .mixedOrders=true): ∀ (c:Code) {r:CallF->RunU},WB C.τ C.dF n lf c= .mk r->RunB P m l n c (r C.call):=by
 intro c;have hW:=Wd.inRound l
 induction c with
 | skip=>intro r h Γ S K H ds ν F a w hf R; simp only [WB,Fz.mk.injEq] at h; subst h; exact wpIn_skip ⟨ν,Γ,S,hf,Same.refl w,NLe.refl ν,SLe.refl S,R,H⟩
 | exit id=>intro r h Γ S K H ds ν F a w hf R; simp only [WB,Fz.mk.injEq] at h; subst h; exact wpIn_exit ⟨ν,Γ,S,hf,Same.refl w,NLe.refl ν,SLe.refl S,R,H⟩
 | ret=>intro r h Γ S K H ds ν F a w hf R; simp only [WB,Fz.mk.injEq] at h; subst h; exact wpIn_ret ⟨ν,Γ,S,hf,Same.refl w,NLe.refl ν,SLe.refl S,R,H⟩
 | region id ops draw=>
  intro r h Γ S K H ds ν F a w hf R;simp only [WB] at h
  cases hd:noDefer ops.toList with
  | false=>rw [hd] at h; simp only [cond_false,Fz.mk.injEq] at h; subst h; exact H.elim
  | true=>
   rw [hd] at h;simp only [cond_true] at h;have hd:=Bk hd
   cases draw with
   | false=>
    simp only [cond_false] at h
    cases hs:seqC C.τ C.dF n ops.toList ops.toList with
    | mk f=>
     rw [hs] at h;simp only [Fz.mk.injEq] at h;subst h;refine wpIn_region_list (hW.list sX hd ?_);have:=kC (P:=P) (Q:=dpU ds w n ν S F K) (F:=F) hA hC hM hn hs hf R (fun a' w' h=>h) H
     simpa using this
   | true=>
    simp only [cond_true] at h;split at h
    ·rename_i p hp
     have old:(fun cl Γ S (K:KontU)=>WPlU ⟨C.τ,cl,C.dF⟩ n ops.toList p Γ S [] fun Γ' S'=>K .normal Γ' S')=r->(.region id ops true:Code).wpIn (Fence.wide.inRound l) m P (dpU ds w n ν S F K) a w:=by intro h;subst h;exact wpIn_region_any hm (hW.any sX hd (Ib hA hC hM hn hp H hf R))
     cases hsg:single p with
     | true=>
      rw [hsg] at h;simp only [cond_true,Fz.mk.injEq] at h
      exact old h
     | false=>
      rw [hsg] at h;simp only [cond_false] at h;split at h
      ·rename_i j q hq
       simp only [Fz.mk.injEq] at h;subst h;exact wpIn_region_any hm (hW.any sX hd (Ic hA hC hM hn hq H hf R))
      ·simp only [Fz.mk.injEq] at h
       exact old h
    ·simp only [Fz.mk.injEq] at h
     subst h
     exact H.elim
 | seq a b iha ihb=>
  intro r h Γ S K H ds ν F f w hf R;simp only [WB] at h
  cases ha:WB C.τ C.dF n lf a with
  | mk f1=>
   cases hb:WB C.τ C.dF n lf b with
   | mk g=>
    rw [ha,hb] at h;simp only [Fz.mk.injEq] at h;subst h;refine wpIn_seq (wpIn_mono (iha ha _ _ _ H ν F f w hf R) fun e a' w' he=> ?_)
    cases e with
    | normal=>
     obtain ⟨ν',Γ',S',k1,k2,k3,k4,k5,k6⟩:=he
     exact wpIn_mono (ihb hb _ _ _ k6 ν' F a' w' k1 k5) fun e2 a2 w2 h2=>dpU.after k3 k4 k2 h2
    | _=>exact he
 | cond c x y ihx ihy=>
  intro r h Γ S K H ds ν F f w hf R;simp only [WB] at h
  cases hc:opdC c with
  | mk e=>
   cases hx:WB C.τ C.dF n lf x with
   | mk f1=>
    cases hy:WB C.τ C.dF n lf y with
    | mk g=>
     rw [hc,hx,hy] at h;simp only [Fz.mk.injEq] at h;subst h;obtain ⟨hp,H⟩:=cH c hc _ _ H;unfold condU at H;split at H
     ·rename_i b hb
      have hv:=iO hf.env hp;rw [hb] at hv;simp only [VR] at hv;have he:f.eval c= .bool b:=by rw [jm hf.1 (jl hf.env hp),hv]
      cases b with
      | true=>exact wpIn_cond_true he (ihx hx _ _ _ H ν F f w hf R)
      | false=>exact wpIn_cond_false he (ihy hy _ _ _ H ν F f w hf R)
     ·exact H.elim
 | block id c ih=>
  intro r h Γ S K H ds ν F f w hf R;simp only [WB] at h
  cases hc:WB C.τ C.dF n lf c with
  | mk f1=>
   rw [hc] at h;simp only [Fz.mk.injEq] at h;subst h;refine wpIn_block (wpIn_mono (ih hc _ _ _ H ν F f w hf R) fun e a' w' he=> ?_)
   cases e with
   | exit id'=>
    obtain ⟨ν',Γ',S',k1,k2,k3,k4,k5,k6⟩:=he;simp only [blockU] at k6;simp only [Exit.inBlock]
    by_cases hid:id'=id
    ·subst hid
     rw [if_pos rfl];simp at k6;exact ⟨ν',Γ',S',k1,k2,k3,k4,k5,k6⟩
    ·rw [if_neg hid]
     have:Nat.beq id' id=false:=by cases hb:Nat.beq id' id with
      | false=>rfl
      | true=>exact absurd (by simpa using hb) hid
     rw [this] at k6
     exact ⟨ν',Γ',S',k1,k2,k3,k4,k5,k6⟩
   | _=>exact he
 | loop c ih=>
  intro r h Γ S K H ds ν F f w hf R;simp only [WB] at h
  cases hc:WB C.τ C.dF n lf c with
  | mk f1=>
   rw [hc] at h;simp only [Fz.mk.injEq] at h;subst h;rw [sV] at H
   exact wpIn_loop_rounds lf (zq (ih hc) _ _ _ _ H ν F f w hf R)
 | _=>intro r h Γ S K H; simp only [WB,Fz.mk.injEq] at h; subst h; exact H.elim
abbrev Pd:=Option (Option Nat)
abbrev KontI:=Exit->Pd->Tr SV->SH->Prop
abbrev RunI:=Pd->Tr SV->SH->KontI->Prop
abbrev YH:=List SV->SH->(Pd->SH->Prop)->Prop
noncomputable def ylArgs (nm:Nat) (Γ:Tr SV) (o:Oper):Option (List SV):=match o.op with
 | .call {callee:= .value x,args,argTypes:=_}=>match evS Γ x with
  | .yl nm'=>bif Nat.beq nm' nm then some (args.toList.map (evS Γ)) else none
  | _=>none
 | _=>none
noncomputable def WSI (C:Ctx) (n nm:Nat) (yd:YH) (ops:List Oper):List Oper->Pd->Tr SV->SH->(Pd->Tr SV->SH->Prop)->Prop
 | [],pd,Γ,S,K=>K pd Γ S
 | o::r,pd,Γ,S,K=>match ylArgs nm Γ o with
  | some xs=>match pd,o.guard with
   | none,none=>bif opsOkS n Γ o then yd xs S fun pd' S'=>WSI C n nm yd ops r pd' (putS o.dst (.bool pd'.isNone) Γ) S' K else False
   | _,_=>False
  | none=>gdU ops o Γ (stepU C n o Γ S fun _ Γ' S'=>WSI C n nm yd ops r pd Γ' S' K) (bif dstOk n o.dst then WSI C n nm yd ops r pd (putS o.dst .undef Γ) S K else False)
noncomputable def loopI (body:RunI) (n:Nat):RunI:=
 Nat.rec (motive:=fun _=>RunI) (fun _ _ _ _=>False) (fun _ ih pd Γ S K=>body pd Γ S fun e pd' Γ' S'=>match e with
  | .normal=>ih pd' Γ' S' K
  | e=>K e pd' Γ' S') n
noncomputable def WI (C:Ctx) (n lf nm:Nat) (yd:YH):Code->RunI
 | .skip,pd,Γ,S,K=>K .normal pd Γ S
 | .region _ ops draw,pd,Γ,S,K=>bif draw then False else WSI C n nm yd ops.toList ops.toList pd Γ S fun pd' Γ' S'=>K .normal pd' Γ' S'
 | .seq a b,pd,Γ,S,K=>WI C n lf nm yd a pd Γ S fun e pd' Γ' S'=>match e with
  | .normal=>WI C n lf nm yd b pd' Γ' S' K
  | e=>K e pd' Γ' S'
 | .cond c x y,pd,Γ,S,K=>bif presS Γ c then condU (evS Γ c) (WI C n lf nm yd x pd Γ S K) (WI C n lf nm yd y pd Γ S K) else False
 | .block id c,pd,Γ,S,K=>WI C n lf nm yd c pd Γ S fun e pd' Γ' S'=>match e with
  | .exit id'=>bif Nat.beq id' id then K .normal pd' Γ' S' else K (.exit id') pd' Γ' S'
  | e=>K e pd' Γ' S'
 | .loop c,pd,Γ,S,K=>loopI (WI C n lf nm yd c) lf pd Γ S K
 | .exit id,pd,Γ,S,K=>K (.exit id) pd Γ S
 | .ret,pd,Γ,S,K=>K .ret pd Γ S
 | _,_,_,_,_=>False
def FI (D L:Nat) (rc:Pd->Loop) (F0:Fr) (pd:Pd):Fr:=fun b=>if b=D then some (.deferred (some [])) else if b=L then some (.loop (rc pd)) else F0 b
def NI (D L:Nat) (rc:Pd->Loop) (F0:Fr) (w0:World) (n:Nat) (ν:Nu) (S:SH) (K:Pd->Tr SV->SH->Prop) (a:Act) (w:World):Prop:=
 ∃ pd ν' Γ' S',FitsU [] n ν' Γ' a/\Same w0 w/\NLe ν ν'/\SLe S S'/\Rel ν' S' (FI D L rc F0 pd) w.heap/\K pd Γ' S'
def dpI (D L:Nat) (rc:Pd->Loop) (F0:Fr) (w0:World) (n:Nat) (ν:Nu) (S:SH) (K:KontI):Exit->Act->World->Prop:=fun e a w=>match e with
 | .panic _=>False
 | .outgrown=>False
 | .goto _=>False
 | e=>NI D L rc F0 w0 n ν S (K e) a w
section
variable {D L:Nat} {rc:Pd->Loop} {F0:Fr}
theorem NI.after {n:Nat} {ν1:Nu} {S1:SH} {w0 w1 w:World} {K:Pd->Tr SV->SH->Prop} {a:Act} (h1:NLe ν ν1) (h2:SLe S S1) (hs:Same w0 w1) (h:NI D L rc F0 w1 n ν1 S1 K a w):NI D L rc F0 w0 n ν S K a w:=by obtain ⟨pd,ν',Γ',S',k1,k2,k3,k4,k5,k6⟩:=h;exact ⟨pd,ν',Γ',S',k1,hs.trans k2,h1.trans k3,h2.trans k4,k5,k6⟩
theorem dpI.after {n:Nat} {ν1:Nu} {S1:SH} {w0 w1 w:World} {K:KontI} {a:Act} {e:Exit} (h1:NLe ν ν1) (h2:SLe S S1) (hs:Same w0 w1) (h:dpI D L rc F0 w1 n ν1 S1 K e a w):dpI D L rc F0 w0 n ν S K e a w:=by cases e <;> first | exact h.elim | exact NI.after h1 h2 hs h
def YOk (P:Program) (D L:Nat) (rc:Pd->Loop) (F0:Fr) (nm:Nat) (yd:YH) (ν0:Nu):Prop:=
 ∀ xs S K,yd xs S K-> ∀ (m:Nat) (ν:Nu) (w:World) (vs:List Value),NLe ν0 ν->VRL ν xs vs->Rel ν S (FI D L rc F0 none) w.heap->
  ∃ fn tm as bd,(Instr.yield L vs.toArray).run P w= .ok (.round L fn tm as bd) w/\RoundIn Fence.wide m P L fn tm as bd w fun e w'=>
   ∃ pd ν' S',e= .returned (.bool pd.isNone)/\Same w w'/\NLe ν ν'/\SLe S S'/\Rel ν' S' (FI D L rc F0 pd) w'.heap/\K pd S'
theorem Bl {n nm:Nat} {o:Oper} {xs:List SV} {a:Act} {w:World} (hf:FitsU ds n ν Γ a) (h:ylArgs nm Γ o=some xs) (hnm:ν nm=some (L,0)) (hok:o.op.operands.toList.all (presS Γ)=true):
  ∃ vs,VRL ν xs vs/\(execOp a.eval o).run P w=(Instr.yield L vs.toArray).run P w:=by
 obtain ⟨hv,hp⟩:=mR hf hok;unfold ylArgs at h;split at h
 case h_2=>cases h
 rename_i x args tys ho;have hsel: ∀ cs b,o.op ≠ .select cs b:=fun cs b e=>by rw [e] at ho; cases ho
 rw [sS hf.1 hsel hp];split at h
 case h_2=>cases h
 rename_i nm' hx
 cases hb:Nat.beq nm' nm with
 | false=>rw [hb] at h; cases h
 | true=>
  rw [hb] at h;simp only [cond_true,Option.some.injEq] at h;subst h;have e:=Nat.eq_of_beq_eq_true hb;subst e;rw [ho] at hv;have Ac:VR ν (evS Γ x) (ev (envOf a) x):=hv x (by simp [Op.operands,Call.operands]);rw [hx] at Ac;simp only [VR] at Ac;obtain ⟨p,hp2,Ac⟩:=Ac;rw [hnm] at hp2;cases hp2;refine ⟨args.toList.map (ev (envOf a)),VRL.map fun y hy=>hv y (by simp [Op.operands,Call.operands]; exact .inr (by simpa using hy)), ?_⟩
  cases x with
  | func f=>simp only [evS] at hx; cases hx
  | _=>
   simp only [execOp,ho,resolve,Ac,Deferred.ofValue,invoke,Sem.run_bind,Sem.run_pure,Result.andThen_ok];have e:(#[]++Array.map (ev (envOf a)) args)=(args.toList.map (ev (envOf a))).toArray:=by apply Array.ext'; simp
   rw [e]
theorem l5 {m n nm:Nat} {yd:YH} {ν0:Nu} {ops:List Oper} {Q:Exit->Act->World->Prop} (hA:Agree P C.τ) (hC:CallOk P C.call) (hM:MthOk P C.dF) (hn:n<1048575) (hY:YOk P D L rc F0 nm yd ν0) (hnm:ν0 nm=some (L,0)):
  ∀ {l:List Oper} {pd:Pd} {Γ:Tr SV} {ν:Nu} {S:SH} {K:Pd->Tr SV->SH->Prop} {a:Act} {w:World},FitsU [] n ν Γ a->NLe ν0 ν->Rel ν S (FI D L rc F0 pd) w.heap->(∀ a' w',NI D L rc F0 w n ν S K a' w'->Q .normal a' w')->
   WSI C n nm yd ops l pd Γ S K->wpListIn Fence.wide m P ops.toArray Q l a w
 | [],pd,Γ,ν,S,K,a,w,hf,hN,R,hQ,H=>hQ _ _ ⟨pd,ν,Γ,S,hf,Same.refl w,NLe.refl ν,SLe.refl S,R,H⟩
 | o::l,pd,Γ,ν,S,K,a,w,hf,hN,R,hQ,H=>by
  unfold WSI at H;unfold wpListIn;split at H
  ·rename_i xs hxs
   split at H
   ·rename_i hg
    rw [if_pos (by simp [Region.wanted,hg])]
    cases hok:opsOkS n Γ o with
    | false=>rw [hok] at H; exact H.elim
    | true=> rw [hok] at H;simp only [cond_true] at H;simp only [opsOkS,Bool.and_eq_true] at hok;obtain ⟨vs,hvs,hrun⟩:=Bl hf hxs (hN _ _ hnm) hok.2;obtain ⟨fn,tm,as,bd,h1,h2⟩:=hY xs S _ H (m - 1) ν w vs hN hvs R;refine ⟨fun _ _=>trivial, ?_⟩;rw [show Fence.wide.round=none from rfl,Oper.semAt_none,hrun,h1];refine ⟨fun hs=>(by cases hs),RoundIn.mono h2 fun e w' ⟨pd',ν',S',he,k2,k3,k4,k5,k6⟩=> ?_⟩;subst he;exact l5 hA hC hM hn hY hnm ((hf.mono k3).put hn hok.1 (by simp only [VR])) (hN.trans k3) k5 (fun a3 w3 h3=>hQ _ _ (NI.after k3 k4 k2 h3)) k6
   ·exact H.elim
  ·rcases lF hf H with ⟨hw,H⟩ | ⟨hw,H⟩
   ·rw [if_pos hw]
    refine Wd.wide.op (next:=fun a' w'=>NX [] n ν S (FI D L rc F0 pd) w (fun Γ' S'=> ∃ g:SH->Bool,WSI C n nm yd ops l pd Γ' S' K) a' w') (fun a' w' ⟨ν',Γ',S',h1,h2,h3,h4,h5,g',h6⟩=> ?_) (Oper.semAt_none _ _) (n6 hA hC hM hn hf R (fun a' w' h=>h) H);exact l5 hA hC hM hn hY hnm h1 (hN.trans h3) h5 (fun a3 w3 h7=>hQ _ _ (NI.after h3 h4 h2 h7)) h6
   ·rw [if_neg (by rw [hw]; simp)]
    cases hd:dstOk n o.dst with
    | false=>rw [hd] at H; exact H.elim
    | true=>rw [hd] at H; exact ⟨fun _ _=>trivial,l5 hA hC hM hn hY hnm (hf.put hn hd (by simp only [VR])) hN R hQ H⟩
def RunIo (P:Program) (m n:Nat) (D L:Nat) (rc:Pd->Loop) (F0:Fr) (ν0:Nu) (c:Code) (r:RunI):Prop:=
 ∀ pd Γ S K,r pd Γ S K-> ∀ (ν:Nu) a w,FitsU [] n ν Γ a->NLe ν0 ν->Rel ν S (FI D L rc F0 pd) w.heap->c.wpIn Fence.wide m P (dpI D L rc F0 w n ν S K) a w
theorem zu {m n:Nat} {ν0:Nu} {c:Code} {r:RunI} (hr:RunIo P m n D L rc F0 ν0 c r): ∀ k pd Γ S K,loopI r k pd Γ S K-> ∀ (ν:Nu) (a:Act) (w:World),FitsU [] n ν Γ a->NLe ν0 ν->Rel ν S (FI D L rc F0 pd) w.heap->Code.roundsIn Fence.wide m P c (dpI D L rc F0 w n ν S K) k a w
 | 0,pd,Γ,S,K,H,_,_,_,_,_,_=>H.elim
 | k+1,pd,Γ,S,K,H,ν,a,w,hf,hN,R=>by
  have H:r pd Γ S (fun e pd' Γ' S'=>match e with
   | .normal=>loopI r k pd' Γ' S' K
   | e=>K e pd' Γ' S'):=H
  refine wpIn_mono (hr _ _ _ _ H ν a w hf hN R) fun e a' w' he=> ?_
  cases e with
  | normal=>
   obtain ⟨pd',ν',Γ',S',k1,k2,k3,k4,k5,k6⟩:=he;have ih:=zu hr k pd' Γ' S' K k6 ν' a' w' k1 (hN.trans k3) k5
   exact rmono k ih fun e2 a2 w2 h=>dpI.after k3 k4 k2 h
  | _=>exact he
where
 rmono {m:Nat} {c:Code} {Q Q':Exit->Act->World->Prop}: ∀ (k:Nat) {a:Act} {w:World},Code.roundsIn Fence.wide m P c Q k a w->(∀ e a w,Q e a w->Q' e a w)->Code.roundsIn Fence.wide m P c Q' k a w
 | 0,_,_,H,_=>H
 | k+1,a,w,H,hq=>wpIn_mono H fun e a' w' he=>by
  cases e with
  | normal=>exact rmono k he hq
  | _=>exact hq _ _ _ he
theorem U7 {m n lf nm:Nat} {yd:YH} {ν0:Nu} (hA:Agree P C.τ) (hC:CallOk P C.call) (hM:MthOk P C.dF) (hn:n<1048575) (hY:YOk P D L rc F0 nm yd ν0) (hnm:ν0 nm=some (L,0)):
  ∀ c:Code,RunIo P m n D L rc F0 ν0 c (WI C n lf nm yd c):=by
 intro c
 induction c with
 | skip=>intro pd Γ S K H ν a w hf hN R; exact wpIn_skip ⟨pd,ν,Γ,S,hf,Same.refl w,NLe.refl ν,SLe.refl S,R,H⟩
 | exit id=>intro pd Γ S K H ν a w hf hN R; exact wpIn_exit ⟨pd,ν,Γ,S,hf,Same.refl w,NLe.refl ν,SLe.refl S,R,H⟩
 | ret=>intro pd Γ S K H ν a w hf hN R; exact wpIn_ret ⟨pd,ν,Γ,S,hf,Same.refl w,NLe.refl ν,SLe.refl S,R,H⟩
 | region id ops draw=>
  intro pd Γ S K H ν a w hf hN R;simp only [WI] at H
  cases draw with
  | true=>exact H.elim
  | false=>
   simp only [cond_false] at H;refine wpIn_region_list ?_;have:=l5 (m:=m) (Q:=dpI D L rc F0 w n ν S K) hA hC hM hn hY hnm hf hN R (fun a' w' h=>h) H
   simpa using this
 | seq a b iha ihb=>
  intro pd Γ S K H ν f w hf hN R;simp only [WI] at H;refine wpIn_seq (wpIn_mono (iha _ _ _ _ H ν f w hf hN R) fun e a' w' he=> ?_)
  cases e with
  | normal=>
   obtain ⟨pd',ν',Γ',S',k1,k2,k3,k4,k5,k6⟩:=he
   exact wpIn_mono (ihb _ _ _ _ k6 ν' a' w' k1 (hN.trans k3) k5) fun e2 a2 w2 h2=>dpI.after k3 k4 k2 h2
  | _=>exact he
 | cond c x y ihx ihy=>
  intro pd Γ S K H ν f w hf hN R;simp only [WI] at H
  cases hp:presS Γ c with
  | false=>rw [hp] at H; exact H.elim
  | true=>
   rw [hp] at H;simp only [cond_true] at H;unfold condU at H;split at H
   ·rename_i b hb
    have hv:=iO hf.env hp;rw [hb] at hv;simp only [VR] at hv;have he:f.eval c= .bool b:=by rw [jm hf.1 (jl hf.env hp),hv]
    cases b with
    | true=>exact wpIn_cond_true he (ihx _ _ _ _ H ν f w hf hN R)
    | false=>exact wpIn_cond_false he (ihy _ _ _ _ H ν f w hf hN R)
   ·exact H.elim
 | block id c ih=>
  intro pd Γ S K H ν f w hf hN R;simp only [WI] at H;refine wpIn_block (wpIn_mono (ih _ _ _ _ H ν f w hf hN R) fun e a' w' he=> ?_)
  cases e with
  | exit id'=>
   obtain ⟨pd',ν',Γ',S',k1,k2,k3,k4,k5,k6⟩:=he;simp only [Exit.inBlock]
   by_cases hid:id'=id
   ·subst hid
    rw [if_pos rfl];simp at k6;exact ⟨pd',ν',Γ',S',k1,k2,k3,k4,k5,k6⟩
   ·rw [if_neg hid]
    have:Nat.beq id' id=false:=by cases hb:Nat.beq id' id with
     | false=>rfl
     | true=>exact absurd (by simpa using hb) hid
    simp only [this,cond_false] at k6
    exact ⟨pd',ν',Γ',S',k1,k2,k3,k4,k5,k6⟩
  | _=>exact he
 | loop c ih=>
  intro pd Γ S K H ν f w hf hN R;simp only [WI] at H
  exact wpIn_loop_rounds lf (zu ih _ _ _ _ _ H ν f w hf hN R)
 | _=>intro pd Γ S K H; simp only [WI] at H
end
end Go.Ey
namespace Go.Ey
open Go Go.Wc
variable {ds:List Deferred} {P:Program} {ν:Nu} {τ:Tys} {Γ:Tr SV} {S:SH} {F:Fr} {C:Ctx}
theorem Rel.setF {F':Fr} {h h':Hp} {L:Nat} {ob ob':Obj} (R:Rel ν S F h) (hL:F L=some ob) (hk: ∀ b,b ≠ L->h'[b]? =h[b]?) (hL':h'[L]? =some ob') (hF: ∀ b x,F' b=some x->(b=L/\x=ob')\/(b ≠ L/\F b=some x)):Rel ν S F' h':=by
 have hne:=(R.fr L ob hL).2;refine ⟨fun nm o v hg hl=> ?_,R.lt,R.y9,R.sep,fun b x hb=> ?_⟩
 ·obtain ⟨y,o',g1,g2,g3⟩:=R.obj nm o v hg hl
  exact ⟨y,o',g1,by rw [hk _ (hne _ _ _ _ hg hl g1)]; exact g2,g3⟩
 ·rcases hF b x hb with ⟨rfl,rfl⟩ | ⟨e,hb⟩
  ·exact ⟨hL',hne⟩
  ·obtain ⟨g1,g2⟩:=R.fr b x hb
   exact ⟨by rw [hk _ e]; exact g1,g2⟩
noncomputable def setPs:List Nat->List SV->Tr SV->Tr SV
 | t::ts,x::xs,Γ=>setPs ts xs (Γ.set x t)
 | _,_,Γ=>Γ
noncomputable def ydOf (fa fb:RunU) (n:Nat) (ps:List Nat) (Γ:Tr SV):YH:=fun xs S K=>
 bif Nat.beq xs.length ps.length && ps.all (fun t=>Nat.blt t n) then fa (setPs ps xs Γ) S fun e Γ1 S1=>match e with
  | .normal=>fb Γ1 S1 fun e2 _ S2=>match e2 with
   | .normal=>K none S2
   | .ret=>K (some none) S2
   | .exit id=>K (some (some id)) S2
   | _=>False
  | _=>False else False
def rcI (fn:FuncId) (tm:Array Value) (ps:Array Tmp) (assign body:Code) (D:Nat):Pd->Loop
 | none=> {state:= .ready,pending:=none,fn,tmps:=tm,params:=ps,assign,body,defers:=D}
 | some none=> {state:= .done,pending:=some .ret,fn,tmps:=tm,params:=ps,assign,body,defers:=D}
 | some (some id)=> {state:= .done,pending:=some (.exit id),fn,tmps:=tm,params:=ps,assign,body,defers:=D}
theorem Cu {n:Nat} (hn:n<1048575): ∀ {ps:List Nat} {xs:List SV} {vs:List Value} {Γ:Tr SV} {tm:Array Value},FitsU [] n ν Γ {tmps:=tm,defers:=[]}->ps.all (fun t=>Nat.blt t n)=true->VRL ν xs vs->xs.length=ps.length->
  FitsU [] n ν (setPs ps xs Γ) {tmps:=(ps.zip vs).foldl (fun tmps (t,a)=>tmps.setIfInBounds t a) tm,defers:=[]}
 | [],xs,vs,Γ,tm,hf,_,hv,hl=>by
  have:xs=[]:=List.length_eq_zero_iff.1 hl;subst this
  simpa [setPs] using hf
 | t::ts,[],vs,Γ,tm,hf,_,hv,hl=>by simp at hl
 | t::ts,x::xs,vs,Γ,tm,hf,hp,hv,hl=>by simp only [VRL] at hv;obtain ⟨v,ws,h1,h2,rfl⟩:=hv;simp only [List.all_cons,Bool.and_eq_true] at hp;have WW:=hf.put (d:=some t) hn (by simpa [dstOk] using hp.1) h1;simp only [setPs,List.zip_cons_cons,List.foldl_cons];exact Cu hn WW hp.2 h2 (by simpa using hl)
theorem U8 {n lf nm fn D L:Nat} {F0:Fr} {assign body:Code} {fa fb:CallF->RunU} {ps:Array Tmp} {tm:Array Value} {ν0:Nu} (hA:Agree P C.τ) (hC:CallOk P C.call) (hM:MthOk P C.dF) (hn:n<1048575) (hm:P.follows .mixedOrders=true)
  (ha:WB C.τ C.dF n lf assign= .mk fa) (hb:WB C.τ C.dF n lf body= .mk fb) (hDL:L ≠ D) (hft:FitsU [] n ν0 Γ {tmps:=tm,defers:=[]}):
  YOk P D L (rcI fn tm ps assign body D) F0 nm (ydOf (fa C.call) (fb C.call) n ps.toList Γ) ν0:=by
 intro xs S K H m ν w vs hN hvs R;unfold ydOf at H
 cases hq:(Nat.beq xs.length ps.toList.length && ps.toList.all fun t=>Nat.blt t n) with
 | false=>rw [hq] at H; exact H.elim
 | true=>
  rw [hq] at H;simp only [cond_true] at H;simp only [Bool.and_eq_true] at hq;have hlen:=Nat.eq_of_beq_eq_true hq.1;have hL0:w.heap[L]? =some (.loop (rcI fn tm ps assign body D none)):=(R.fr L _ (by simp [FI,hDL])).1;refine ⟨fn,_,assign,body,run_yield hL0 (by have:=hvs.len; simp [rcI]; simp at hlen; omega),roundIn_of_wpIn (F:=Fence.wide) trivial ?_⟩;have f0:=Cu hn (hft.mono hN) hq.2 hvs hlen
  have f0:FitsU [] n ν (setPs ps.toList xs Γ) {tmps:=(ps.zip vs.toArray).foldl (fun tmps (t,a)=>tmps.setIfInBounds t a) tm,defers:=[]}:=by
   have e:(ps.zip vs.toArray)=(ps.toList.zip vs).toArray:=by apply Array.ext'; simp
   rw [e]; simpa using f0
  refine wpIn_mono (LR (m:=m) (l:=L) hA hC hM hn hm assign ha _ _ _ H ν _ _ w f0 R) fun e a1 w1 he=> ?_
  cases e with
  | normal=>
   obtain ⟨ν1,Γ1,S1,f1,s1,n1,l1,R1,H1⟩:=he;have hL1:=(R1.fr L _ (by simp [FI,hDL]; rfl)).1;refine ⟨_,run_beginRound hL1 rfl, ?_⟩
   have R2:Rel ν1 S1 (fun b=>if b=D then some (.deferred (some [])) else if b=L then some (.loop {rcI fn tm ps assign body D none with state:= .busy}) else F0 b) (w1.putObj L (.loop {rcI fn tm ps assign body D none with state:= .busy})).heap:=by
    refine R1.setF (L:=L) (ob:= .loop (rcI fn tm ps assign body D none)) (by simp [FI,hDL]) (fun b hb=>World.putObj_heap_other hb) (World.putObj_heap_same (dc hL1)) fun b x hb=> ?_
    by_cases e:b=L
    ·subst e; simp [hDL] at hb; exact .inl ⟨rfl,hb.symm⟩
    ·right; refine ⟨e, ?_⟩; simpa [FI,e] using hb
   refine wpIn_mono (LR (m:=m) (l:=L) hA hC hM hn hm body hb _ _ _ H1 ν1 _ a1 _ f1 R2) fun e2 a2 w3 V4=> ?_
   have fin: ∀ (pd:Pd) (jump:Option Code) {ν3:Nu} {S3:SH},(Obj.loop {{rcI fn tm ps assign body D none with state:= .busy} with state:=if jump.isNone then .ready else .done,pending:=jump}=Obj.loop (rcI fn tm ps assign body D pd))->(jump.isNone=pd.isNone)->
     Same (w1.putObj L (.loop {rcI fn tm ps assign body D none with state:= .busy})) w3->NLe ν1 ν3->SLe S1 S3->Rel ν3 S3 (fun b=>if b=D then some (.deferred (some [])) else if b=L then some (.loop {rcI fn tm ps assign body D none with state:= .busy}) else F0 b) w3.heap->K pd S3->
     ∃ v w',(Instr.endRound L jump).run P w3= .ok v w'/\ ∃ pd ν' S',Ending.returned v= .returned (.bool pd.isNone)/\Same w w'/\NLe ν ν'/\SLe S S'/\Rel ν' S' (FI D L (rcI fn tm ps assign body D) F0 pd) w'.heap/\K pd S':=by
    intro pd jump ν3 S3 hrec hj s3 n3 l3 R3 H3;have hL3:=(R3.fr L _ (by simp [hDL]; rfl)).1;refine ⟨_,_,run_endRound jump hL3,pd,ν3,S3,by rw [hj],(s1.trans (show Same w1 (w1.putObj L _) from ⟨rfl,rfl,rfl⟩)).trans (s3.trans ⟨rfl,rfl,rfl⟩),n1.trans n3,l1.trans l3, ?_,H3⟩;rw [hrec];refine R3.setF (L:=L) (ob:= .loop {rcI fn tm ps assign body D none with state:= .busy}) (by simp [hDL]) (fun b hb=>World.putObj_heap_other hb) (World.putObj_heap_same (dc hL3)) fun b x hb=> ?_
    by_cases e:b=L
    ·subst e; simp [FI,hDL] at hb; exact .inl ⟨rfl,hb.symm⟩
    ·right; refine ⟨e, ?_⟩; simpa [FI,e] using hb
   cases e2 with
   | normal=>
    obtain ⟨ν3,Γ3,S3,f3,s3,n3,l3,R3,H3⟩:=V4
    exact fin none none rfl rfl s3 n3 l3 R3 H3
   | ret=>
    obtain ⟨ν3,Γ3,S3,f3,s3,n3,l3,R3,H3⟩:=V4
    exact fin (some none) (some .ret) rfl rfl s3 n3 l3 R3 H3
   | exit id=>
    obtain ⟨ν3,Γ3,S3,f3,s3,n3,l3,R3,H3⟩:=V4
    exact fin (some (some id)) (some (.exit id)) rfl rfl s3 n3 l3 R3 H3
   | _=>exact V4.elim
  | ret=>obtain ⟨ν1,Γ1,S1,f1,s1,n1,l1,R1,H1⟩:=he; exact H1.elim
  | exit id=>obtain ⟨ν1,Γ1,S1,f1,s1,n1,l1,R1,H1⟩:=he; exact H1.elim
  | _=>exact he.elim
def endI (pd:Pd) (Γ:Tr SV) (S:SH) (K:KontU):Prop:=match pd with
 | none=>K .normal Γ S
 | some none=>K .ret Γ S
 | some (some id)=>K (.exit id) Γ S
theorem O9 {n:Nat} {g:Operand} {ps:Array Tmp} {assign body:Code} {K:KontU} {a:Act} {w:World} {f:Nat} {cs:List SV} (hC:CallOk P C.call) (EC:S.next+1<1048576) (hf:FitsU ds n ν Γ a) (R:Rel ν S F w.heap) (hp:presS Γ g=true) (hs:evS Γ g= .fn f cs)
  (H:C.call f (.yl S.next::cs) (S.new .gone) (fun _ S'=>K .normal Γ S')):(Code.rangeFunc g ps assign body).wp P (dpR ds w n ν S F K) a w:=by
 have hv:=iO hf.env hp;rw [hs] at hv;simp only [VR] at hv;obtain ⟨vs,hvs,hv⟩:=hv;have he:a.eval g= .func (.func f) #[] vs.toArray:=by rw [jm hf.1 (jl hf.env hp),hv]
 refine wpIn_wide.1 (wpIn_rangeFunc (n:=1) (F:=Fence.wide) fun fn _=> ?_)
 obtain ⟨rec,hrec⟩: ∃ rec:Loop,rec= {state:= .ready,pending:=none,fn,tmps:=a.tmps,params:=ps,assign,body,defers:=w.heap.size}:=⟨_,rfl⟩
 have hcall:=hC f (.yl S.next::cs) (S.new .gone) (fun _ S'=>K .normal Γ S') H;obtain ⟨⟨fn1,h1,h2,h3⟩,h4⟩:=hcall;have R2:=R.loop EC (.deferred (some [])) (.loop rec)
 let W1:=(w.alloc (.deferred (some []))).alloc (.loop rec)
 have hW:W1.heap=(w.heap.push (.deferred (some []))).push (.loop rec):=rfl;refine ⟨w.heap.size+1,[mkD w.heap.size],W1,{target:= .fn (.func f) vs.toArray,args:= #[.func (.yield (w.heap.size+1)) #[] #[]]},W1,f,(Value.func (.yield (w.heap.size+1)) #[] #[]::vs).toArray,W1, ?_, ?_,fun _ _=>trivial, ?_,fun _=>Nat.le_refl _,callsIn_wide.2 ?_⟩
 ·simp only [W1,hrec]; exact run_enterLoop_outer _ _ _ _ _
 ·simp only [resolve,rangeCall,he]
  simp [go_sem,W1]
 ·simp only [invoke,Sem.run_bind,Sem.run_pure,Result.andThen_ok,callFunc,run_program,h1,h2,h3,Bool.false_eq_true,if_false]
  simp [go_sem,W1]
 ·refine (h4 (Value.func (.yield (w.heap.size+1)) #[] #[]::vs) (fun v h'=>PV (fun _ S'=>K .normal Γ S') (bind ν S.next (w.heap.size+1,0)) (S.new .gone) (fun b=>if b=w.heap.size then some (.deferred (some [])) else if b=w.heap.size+1 then some (.loop rec) else F b) v h') W1
   ⟨bind ν S.next (w.heap.size+1,0),_,S.new .gone,_,_,VRL.cons (by simp only [VR]; exact ⟨_,dY,rfl⟩) (VRL.mono (R.fE _) _ hvs),by rw [hW]; exact R2,H,fun _ _ h=>h⟩).mono ?_
  rintro e3 w3 ⟨v,rfl,hsame,ν',s',S',hK,_,hN,hS,R3⟩;have PJ:w3.heap[w.heap.size+1]? =some (.loop rec):=(R3.fr (w.heap.size+1) (.loop rec) (by simp)).1;refine ⟨none,w3.putObj (w.heap.size+1) (.loop {rec with state:= .exhausted}), ?_, ?_⟩
  ·have:=run_endLoop (P:=P) PJ (by rw [hrec]; simp)
   rw [this,hrec]
  ·have JP:MG F ds (fun b=>if b=w.heap.size then some (.deferred (some [])) else F b) (mkD w.heap.size::ds):=by
    have hfresh:F w.heap.size=none:=by
     cases hF:F w.heap.size with
     | none=>rfl
     | some ob=>have:=dc (R.fr _ _ hF).1; omega
    refine ⟨[w.heap.size],rfl,fun b ob hb=> ?_,fun D hD=> ?_,by simp⟩
    ·have:b ≠ w.heap.size:=by rintro rfl; rw [hfresh] at hb; cases hb
     simp [this,hb]
    ·simp only [List.mem_singleton] at hD
     subst hD;exact ⟨by simp,hfresh⟩
   refine ⟨mkD w.heap.size::ds,_,JP,ν',Γ,S',⟨hf.1,by show [mkD w.heap.size]++a.defers=_; rw [hf.2.1]; rfl,fun t s ht=> ?_⟩, ?_,(R.fE _).trans hN, ?_, ?_,hK⟩
   ·obtain ⟨u,u1,u2⟩:=hf.2.2 t s ht
    exact ⟨u,u1,VR.mono ((R.fE _).trans hN) _ u2⟩
   ·exact (show Same w W1 from ⟨rfl,rfl,rfl⟩).trans (hsame.trans ⟨rfl,rfl,rfl⟩)
   ·refine SLe.trans (fun nm o v hg=>⟨o,v, ?_,Nat.le_refl _,fun _=>rfl⟩) hS
    have:=R.y9 _ _ hg;rw [iA _ EC,if_neg (by omega)]; exact hg
   ·refine R3.turn (L:=w.heap.size+1) (ob:= .loop rec) (by simp) (fun b hb=>World.putObj_heap_other hb) fun b ob hb=> ?_
    split at hb
    ·rename_i e; subst e; exact ⟨by omega,by simpa using hb⟩
    ·rename_i e
     have:=dc (R.fr _ _ hb).1;exact ⟨by omega,by simp [e,show b ≠ w.heap.size+1 by omega,hb]⟩
theorem Pa {n lf:Nat} {bk:FT} {g:Operand} {ps:Array Tmp} {assign body:Code} {fa fb:CallF->RunU} {K:KontU} {a:Act} {w:World} {f:Nat} {cs:List SV} {gn:Func} (hB:FOk P bk) (hA:Agree P C.τ) (hC:CallOk P C.call) (hM:MthOk P C.dF) (hn:n<1048575) (hm:P.follows .mixedOrders=true)
  (hwa:WB C.τ C.dF n lf assign= .mk fa) (hwb:WB C.τ C.dF n lf body= .mk fb) (EC:S.next+1<1048576) (hf:FitsU ds n ν Γ a) (R:Rel ν S F w.heap) (hp:presS Γ g=true) (hs:evS Γ g= .fn f cs) (hbk:bk.get f=some gn)
  (H:match gn.body with
   | none=>False
   | some c=>bif gn.results.isEmpty && Nat.blt gn.ntmps 1048575 && Nat.ble (cs.length+1) gn.ntmps then
     WI C gn.ntmps lf S.next (ydOf (fa C.call) (fb C.call) n ps.toList Γ) c none (argT 0 (.yl S.next::cs)) (S.new .gone) fun e pd _ S'=>match e with
      | .normal=>endI pd Γ S' K
      | .ret=>endI pd Γ S' K
      | _=>False
    else False):(Code.rangeFunc g ps assign body).wp P (dpR ds w n ν S F K) a w:=by
 obtain ⟨h1,h2⟩:=hB f gn hbk
 cases hbody:gn.body with
 | none=>rw [hbody] at H; exact H.elim
 | some c=>
 rw [hbody] at H;simp only at H
 cases hq:(gn.results.isEmpty && Nat.blt gn.ntmps 1048575 && Nat.ble (cs.length+1) gn.ntmps) with
 | false=>rw [hq] at H; exact H.elim
 | true=>
 rw [hq] at H;simp only [cond_true] at H;simp only [Bool.and_eq_true,Nat.blt_eq,Nat.ble_eq] at hq;obtain ⟨⟨hres,hgn⟩,hcl⟩:=hq;have hv:=iO hf.env hp;rw [hs] at hv;simp only [VR] at hv;obtain ⟨vs,hvs,hv⟩:=hv;have he:a.eval g= .func (.func f) #[] vs.toArray:=by rw [jm hf.1 (jl hf.env hp),hv]
 have h3:gn.body.isNone=false:=by rw [hbody]; rfl
 refine wpIn_wide.1 (wpIn_rangeFunc (n:=1) (F:=Fence.wide) fun fn _=> ?_)
 obtain ⟨rc,hrc⟩: ∃ rc:Pd->Loop,rc=rcI fn a.tmps ps assign body w.heap.size:=⟨_,rfl⟩
 have R2:Rel (bind ν S.next (w.heap.size+1,0)) (S.new .gone) (FI w.heap.size (w.heap.size+1) rc F none) ((w.heap.push (.deferred (some []))).push (.loop (rc none))):=R.loop EC (.deferred (some [])) (.loop (rc none))
 let W1:=(w.alloc (.deferred (some []))).alloc (.loop (rc none))
 have hW:W1.heap=(w.heap.push (.deferred (some []))).push (.loop (rc none)):=rfl;have hall:VRL (bind ν S.next (w.heap.size+1,0)) (.yl S.next::cs) (Value.func (.yield (w.heap.size+1)) #[] #[]::vs):=VRL.cons (by simp only [VR]; exact ⟨_,dY,rfl⟩) (VRL.mono (R.fE _) _ hvs);refine ⟨w.heap.size+1,[mkD w.heap.size],W1,{target:= .fn (.func f) vs.toArray,args:= #[.func (.yield (w.heap.size+1)) #[] #[]]},W1,f,(Value.func (.yield (w.heap.size+1)) #[] #[]::vs).toArray,W1, ?_, ?_,fun _ _=>trivial, ?_,fun _=>Nat.le_refl _, ?_⟩
 ·simp only [W1,hrc]; exact run_enterLoop_outer _ _ _ _ _
 ·simp only [resolve,rangeCall,he]
  simp [go_sem,W1]
 ·simp only [invoke,Sem.run_bind,Sem.run_pure,Result.andThen_ok,callFunc,run_program,h1,h2,h3,Bool.false_eq_true,if_false]
  simp [go_sem,W1]
 ·have hlen:=hall.len
  have hfit:FitsU [] gn.ntmps (bind ν S.next (w.heap.size+1,0)) (argT 0 (.yl S.next::cs)) {tmps:=(Value.func (.yield (w.heap.size+1)) #[] #[]::vs).toArray++Array.replicate (gn.ntmps - (Value.func (.yield (w.heap.size+1)) #[] #[]::vs).toArray.size) Go.undef,defers:=[]}:=by
   refine ⟨by simp at hlen |-; omega,rfl,fun t s hs=> ?_⟩;rw [sU _ _ _ (by simp; omega),if_pos (Nat.zero_le _),Nat.sub_zero] at hs;obtain ⟨v,e1,e2⟩:=hall.get hs;refine ⟨v, ?_,e2⟩
   have hlt:t<(Value.func (.yield (w.heap.size+1)) #[] #[]::vs).length:=by rw [List.getElem?_eq_some_iff] at e1; exact e1.1
   rw [Array.getElem?_append_left (by simpa using hlt)];simpa using e1
  have hft:FitsU [] n (bind ν S.next (w.heap.size+1,0)) Γ {tmps:=a.tmps,defers:=[]}:=⟨hf.1,rfl,fun t s ht=>by
   obtain ⟨u,u1,u2⟩:=hf.2.2 t s ht
   exact ⟨u,u1,VR.mono (R.fE _) _ u2⟩⟩
  refine callsIn_of_wp h1 hbody trivial ?_;subst hrc;refine wpIn_mono (U7 (m:=0) (D:=w.heap.size) (L:=w.heap.size+1) (rc:=rcI fn a.tmps ps assign body w.heap.size) (F0:=F) (C:=C) (lf:=lf) hA hC hM hgn (U8 (nm:=S.next) hA hC hM hn hm hwa hwb (by omega) hft) dY c none _ _ _ H _ _ W1 hfit (NLe.refl _) R2) fun e a' w' he=> ?_
  have go:(NI w.heap.size (w.heap.size+1) (rcI fn a.tmps ps assign body w.heap.size) F W1 gn.ntmps (bind ν S.next (w.heap.size+1,0)) (S.new .gone) (fun pd _ S'=>endI pd Γ S' K) a' w')->bodyPost P gn (rangePost Fence.wide 1 P (w.heap.size+1) (dpR ds w n ν S F K) {a with defers:=[mkD w.heap.size]++a.defers}) .normal a' w':=by
   rintro ⟨pd,ν',Γ',S',k1,k2,k3,k4,k5,k6⟩;refine ⟨k1.2.1, ?_⟩;obtain ⟨s,v,g1,g2,g3⟩:=zn (fn:=gn) (K:=fun _=>True) hA k1 k5 (by rw [show gn.results.toList=[] by simpa using hres]; trivial);refine ⟨v,g1, ?_⟩;have PJ:w'.heap[w.heap.size+1]? =some (.loop (rcI fn a.tmps ps assign body w.heap.size pd)):=(k5.fr (w.heap.size+1) _ (by simp [FI])).1;refine ⟨_,_,run_endLoop PJ (by rcases pd with _ | _ | _ <;> simp [rcI]), ?_⟩
   have fin: ∀ K1:Tr SV->SH->Prop,K1 Γ S'-> ∃ ds' F',MG F ds F' ds'/\NX ds' n ν S F' w K1 {a with defers:=[mkD w.heap.size]++a.defers} (w'.putObj (w.heap.size+1) (.loop {rcI fn a.tmps ps assign body w.heap.size pd with state:= .exhausted})):=by
    intro K1 hK
    have JP:MG F ds (fun b=>if b=w.heap.size then some (.deferred (some [])) else F b) (mkD w.heap.size::ds):=by
     have hfresh:F w.heap.size=none:=by
      cases hF:F w.heap.size with
      | none=>rfl
      | some ob=>have:=dc (R.fr _ _ hF).1; omega
     refine ⟨[w.heap.size],rfl,fun b ob hb=> ?_,fun D hD=> ?_,by simp⟩
     ·have:b ≠ w.heap.size:=by rintro rfl; rw [hfresh] at hb; cases hb
      simp [this,hb]
     ·simp only [List.mem_singleton] at hD
      subst hD;exact ⟨by simp,hfresh⟩
    refine ⟨mkD w.heap.size::ds,_,JP,ν',Γ,S',⟨hf.1,by show [mkD w.heap.size]++a.defers=_; rw [hf.2.1]; rfl,fun t s ht=> ?_⟩, ?_,(R.fE _).trans k3, ?_, ?_,hK⟩
    ·obtain ⟨u,u1,u2⟩:=hf.2.2 t s ht
     exact ⟨u,u1,VR.mono ((R.fE _).trans k3) _ u2⟩
    ·exact (show Same w W1 from ⟨rfl,rfl,rfl⟩).trans (k2.trans ⟨rfl,rfl,rfl⟩)
    ·refine SLe.trans (fun nm o v hg=>⟨o,v, ?_,Nat.le_refl _,fun _=>rfl⟩) k4
     have:=R.y9 _ _ hg;rw [iA _ EC,if_neg (by omega)]; exact hg
    ·refine k5.turn (L:=w.heap.size+1) (ob:= .loop (rcI fn a.tmps ps assign body w.heap.size pd)) (by simp [FI]) (fun b hb=>World.putObj_heap_other hb) fun b ob hb=> ?_
     split at hb
     ·rename_i e; subst e; exact ⟨by omega,by simpa [FI] using hb⟩
     ·rename_i e
      have:=dc (R.fr _ _ hb).1;exact ⟨by omega,by simp [FI,e,show b ≠ w.heap.size+1 by omega,hb]⟩
   rcases pd with _ | _ | id
   ·exact fin _ k6
   ·exact wpIn_ret (fin _ k6)
   ·exact wpIn_exit (fin _ k6)
  cases e with
  | normal=>exact go he
  | ret=>exact go he
  | exit id=>obtain ⟨pd,ν',Γ',S',k1,k2,k3,k4,k5,k6⟩:=he; exact k6.elim
  | _=>exact he.elim
noncomputable def WR (τ:Tys) (dF:Mth) (bk:FT) (n lf:Nat):Code->Fz
  | .skip=> .mk fun _ Γ S K=>K .normal Γ S
  | .region _ ops draw=>bif draw then (match planFor τ ops with
      | some p=>bif single p then .mk fun cl Γ S K=>WPlU ⟨τ,cl,dF⟩ n ops.toList p Γ S [] fun Γ' S'=>K .normal Γ' S' else (match jT τ ops with
        | some (j,q)=> .mk fun cl Γ S K=>tD ⟨τ,cl,dF⟩ n ops.toList j q Γ S [] none fun Γ' S'=>K .normal Γ' S'
        | none=> .mk fun cl Γ S K=>WPlU ⟨τ,cl,dF⟩ n ops.toList p Γ S [] fun Γ' S'=>K .normal Γ' S')
      | none=> .mk fun _ _ _ _=>False) else (match seqC τ dF n ops.toList ops.toList with
      | .mk f=> .mk fun cl Γ S K=>f cl Γ S fun Γ' S'=>K .normal Γ' S')
  | .seq a b=>match WR τ dF bk n lf a with
    | .mk f=>match WR τ dF bk n lf b with
      | .mk g=> .mk fun cl Γ S K=>f cl Γ S (thenU (fun Γ' S'=>g cl Γ' S' K) K)
  | .cond c x y=>match opdC c with
    | .mk e=>match WR τ dF bk n lf x with
      | .mk f=>match WR τ dF bk n lf y with
        | .mk g=> .mk fun cl Γ S K=>e Γ fun s=>condU s (f cl Γ S K) (g cl Γ S K)
  | .block id c=>match WR τ dF bk n lf c with
    | .mk f=> .mk fun cl Γ S K=>f cl Γ S (blockU id K)
  | .loop c=>match WR τ dF bk n lf c with
    | .mk f=> .mk fun cl Γ S K=>loopC (f cl) lf Γ S K
  | .exit id=> .mk fun _ Γ S K=>K (.exit id) Γ S
  | .ret=> .mk fun _ Γ S K=>K .ret Γ S
  | .rangeFunc g ps assign body=>match opdC g with
    | .mk e=>match WB τ dF n lf assign with
      | .mk fa => match WB τ dF n lf body with
        | .mk fb => .mk fun cl Γ S K => e Γ fun s => match s with
          | .fn f cs=>bif Nat.blt (S.next+1) 1048576 then (match bk.get f with
            | none=>cl f (.yl S.next::cs) (S.new .gone) (fun _ S'=>K .normal Γ S')
            | some gn=>match gn.body with
              | none=>False
              | some c=>bif gn.results.isEmpty && Nat.blt gn.ntmps 1048575 && Nat.ble (cs.length+1) gn.ntmps then
                  WI ⟨τ,cl,dF⟩ gn.ntmps lf S.next (ydOf (fa cl) (fb cl) n ps.toList Γ) c none (argT 0 (.yl S.next::cs)) (S.new .gone) fun e pd _ S'=>match e with
                    | .normal=>endI pd Γ S' K
                    | .ret=>endI pd Γ S' K
                    | _=>False
                else False) else False
          | _=>False
  | _=> .mk fun _ _ _ _=>False
theorem U9 {n lf:Nat} {bk:FT} (hB:FOk P bk) (hA:Agree P C.τ) (hC:CallOk P C.call) (hM:MthOk P C.dF) (hn:n<1048575) (hm:P.follows .mixedOrders=true): ∀ (c:Code) {r:CallF->RunU},WR C.τ C.dF bk n lf c= .mk r->RunR P n c (r C.call):=by
 intro c
 induction c with
 | skip=>intro r h Γ S K H ds ν F a w hf R; simp only [WR,Fz.mk.injEq] at h; subst h; exact wp_skip ⟨ds,F,MG.refl F ds,ν,Γ,S,hf,Same.refl w,NLe.refl ν,SLe.refl S,R,H⟩
 | exit id=>intro r h Γ S K H ds ν F a w hf R; simp only [WR,Fz.mk.injEq] at h; subst h; exact wp_exit ⟨ds,F,MG.refl F ds,ν,Γ,S,hf,Same.refl w,NLe.refl ν,SLe.refl S,R,H⟩
 | ret=>intro r h Γ S K H ds ν F a w hf R; simp only [WR,Fz.mk.injEq] at h; subst h; exact wp_ret ⟨ds,F,MG.refl F ds,ν,Γ,S,hf,Same.refl w,NLe.refl ν,SLe.refl S,R,H⟩
 | region id ops draw=>
  intro r h;refine RunOk.R ?_;intro Γ S K H ds ν F a w hf R;simp only [WR] at h
  cases draw with
  | false=>
   simp only [cond_false] at h
   cases hs:seqC C.τ C.dF n ops.toList ops.toList with
   | mk f=>
    rw [hs] at h;simp only [Fz.mk.injEq] at h;subst h;refine wp_region_list ?_;have:=kC (P:=P) (Q:=dpU ds w n ν S F K) (F:=F) hA hC hM hn hs hf R (fun a' w' h=>h) H
    simpa using this
  | true=>
   simp only [cond_true] at h;split at h
   ·rename_i p hp
    have old:(fun cl Γ S (K:KontU)=>WPlU ⟨C.τ,cl,C.dF⟩ n ops.toList p Γ S [] fun Γ' S'=>K .normal Γ' S')=r->(.region id ops true:Code).wp P (dpU ds w n ν S F K) a w:=by intro h;subst h;refine U6 (lf:=lf) hA hC hM hn hm (.region id ops true) Γ S K ?_ ν F a w hf R;simp only [WU,cond_true,hp];exact H
    cases hsg:single p with
    | true=>
     rw [hsg] at h;simp only [cond_true,Fz.mk.injEq] at h
     exact old h
    | false=>
     rw [hsg] at h;simp only [cond_false] at h;split at h
     ·rename_i j q hq
      simp only [Fz.mk.injEq] at h;subst h;exact HV hA hC hM hn hm hq id Γ S K H ν F a w hf R
     ·simp only [Fz.mk.injEq] at h
      exact old h
   ·simp only [Fz.mk.injEq] at h
    subst h
    exact H.elim
 | seq a b iha ihb=>
  intro r h Γ S K H ds ν F f w hf R;simp only [WR] at h
  cases ha:WR C.τ C.dF bk n lf a with
  | mk f1=>
   cases hb:WR C.τ C.dF bk n lf b with
   | mk g=>
    rw [ha,hb] at h;simp only [Fz.mk.injEq] at h;subst h;refine wp_seq (wp_mono (iha ha _ _ _ H ν F f w hf R) fun e a' w' he=> ?_)
    cases e with
    | normal=>
     obtain ⟨HY,F1,Pr,ν',Γ',S',k1,k2,k3,k4,k5,k6⟩:=he
     exact wp_mono (ihb hb _ _ _ k6 ν' F1 a' w' k1 k5) fun e2 a2 w2 h2=>dpR.after k3 k4 k2 Pr h2
    | _=>exact he
 | cond c x y ihx ihy=>
  intro r h Γ S K H ds ν F f w hf R;simp only [WR] at h
  cases hc:opdC c with
  | mk e=>
   cases hx:WR C.τ C.dF bk n lf x with
   | mk f1=>
    cases hy:WR C.τ C.dF bk n lf y with
    | mk g=>
     rw [hc,hx,hy] at h;simp only [Fz.mk.injEq] at h;subst h;obtain ⟨hp,H⟩:=cH c hc _ _ H;unfold condU at H;split at H
     ·rename_i b hb
      have hv:=iO hf.env hp;rw [hb] at hv;simp only [VR] at hv;have he:f.eval c= .bool b:=by rw [jm hf.1 (jl hf.env hp),hv]
      cases b with
      | true=>exact wp_cond_true he (ihx hx _ _ _ H ν F f w hf R)
      | false=>exact wp_cond_false he (ihy hy _ _ _ H ν F f w hf R)
     ·exact H.elim
 | block id c ih=>
  intro r h Γ S K H ds ν F f w hf R;simp only [WR] at h
  cases hc:WR C.τ C.dF bk n lf c with
  | mk f1=>
   rw [hc] at h;simp only [Fz.mk.injEq] at h;subst h;refine wp_block (wp_mono (ih hc _ _ _ H ν F f w hf R) fun e a' w' he=> ?_)
   cases e with
   | exit id'=>
    obtain ⟨HY,F1,Pr,ν',Γ',S',k1,k2,k3,k4,k5,k6⟩:=he;simp only [blockU] at k6;simp only [Exit.inBlock]
    by_cases hid:id'=id
    ·subst hid
     rw [if_pos rfl];simp at k6;exact ⟨HY,F1,Pr,ν',Γ',S',k1,k2,k3,k4,k5,k6⟩
    ·rw [if_neg hid]
     have:Nat.beq id' id=false:=by cases hb:Nat.beq id' id with
      | false=>rfl
      | true=>exact absurd (by simpa using hb) hid
     rw [this] at k6
     exact ⟨HY,F1,Pr,ν',Γ',S',k1,k2,k3,k4,k5,k6⟩
   | _=>exact he
 | loop c ih=>
  intro r h Γ S K H ds ν F f w hf R;simp only [WR] at h
  cases hc:WR C.τ C.dF bk n lf c with
  | mk f1=>
   rw [hc] at h;simp only [Fz.mk.injEq] at h;subst h;rw [sV] at H
   exact mC (zo (ih hc) _ _ _ _ H ν F f w hf R)
 | rangeFunc g ps assign body _ _=>
  intro r h Γ S K H ds ν F a w hf R;simp only [WR] at h
  cases hc:opdC g with
  | mk e=>
  cases hwa:WB C.τ C.dF n lf assign with
  | mk fa=>
  cases hwb:WB C.τ C.dF n lf body with
  | mk fb=>
   rw [hc,hwa,hwb] at h;simp only [Fz.mk.injEq] at h;subst h;obtain ⟨hp,H⟩:=cH g hc _ _ H;split at H
   case h_2=>exact H.elim
   rename_i f cs hs
   cases hq:Nat.blt (S.next+1) 1048576 with
   | false=>rw [hq] at H; exact H.elim
   | true=>
    rw [hq] at H;simp only [cond_true] at H;have EC:S.next+1<1048576:=by simpa [Nat.blt_eq] using hq
    cases hbk:bk.get f with
    | none=>
     rw [hbk] at H;simp only at H
     exact O9 hC (by first | exact EC | assumption) hf R hp hs H
    | some gn=>
     rw [hbk] at H;simp only at H
     exact Pa hB hA hC hM hn hm hwa hwb EC hf R hp hs hbk H
 | _=>intro r h Γ S K H; simp only [WR,Fz.mk.injEq] at h; subst h; exact H.elim
noncomputable def Cv (τ:Tys) (dF:Mth) (bk:FT) (lf:Nat) (fn:Func):Fz:=
 match fn.body with
 | none=> .mk fun _ _ _ _=>False
 | some c=>bif Nat.blt fn.ntmps 1048575 then WR τ dF bk fn.ntmps lf c else .mk fun _ _ _ _=>False
noncomputable def callR (τ:Tys) (dF:Mth) (bk:FT) (lf:Nat) (ext:CallF) (ft:FT) (d:Nat):CallF:=
 Nat.rec (motive:=fun _=>CallF) (fun _ _ _ _=>False) (fun _ ih f as S K=>match ft.get f with
  | none=>ext f as S K
  | some fn=>match Cv τ dF bk lf fn with
   | .mk r=>bif Nat.ble as.length fn.ntmps then r ih (argT 0 as) S (retU τ fn.results.toList K) else False) d
theorem zv {dF:Mth} {bk:FT} {lf:Nat} (hB:FOk P bk) {ext:CallF} {ft:FT} (hA:Agree P τ) (hM:MthOk P dF) (hF:FOk P ft) (hE:CallOk P ext) (hm:P.follows .mixedOrders=true): ∀ d,CallOk P (callR τ dF bk lf ext ft d)
 | 0=>fun f as S K H=>H.elim
 | d+1=>by
  intro f as S K H;have ih:=zv (lf:=lf) hB hA hM hF hE hm d
  have un: ∀ f as S K,callR τ dF bk lf ext ft (d+1) f as S K=(match ft.get f with
   | none=>ext f as S K
   | some fn=>match Cv τ dF bk lf fn with
    | .mk r=>bif Nat.ble as.length fn.ntmps then r (callR τ dF bk lf ext ft d) (argT 0 as) S (retU τ fn.results.toList K) else False):=fun f as S K=>rfl
  have key: ∀ fn,ft.get f=some fn->fn.body.isSome=true->SpecOk P f (specOf (callR τ dF bk lf ext ft (d+1)) f):=by
   intro fn hfn hbody;obtain ⟨h1,h2⟩:=hF f fn hfn;obtain ⟨c,hb⟩:=Option.isSome_iff_exists.1 hbody;refine ⟨⟨fn,h1,h2,by rw [hb]; rfl⟩,fun args Kr w ⟨ν,F,S,as,K,hv,R,hc,hk⟩=> ?_⟩;rw [un,hfn] at hc;simp only at hc;unfold Cv at hc;rw [hb] at hc;simp only at hc
   cases m0:Nat.blt fn.ntmps 1048575 with
   | false=>
    rw [m0] at hc;simp only [cond_false] at hc
    cases Pb:Nat.ble as.length fn.ntmps <;> rw [Pb] at hc <;> exact hc.elim
   | true=>
    rw [m0] at hc;simp only [cond_true] at hc
    cases hr:WR τ dF bk fn.ntmps lf c with
    | mk r=>
     rw [hr] at hc;simp only at hc
     cases Pb:Nat.ble as.length fn.ntmps with
     | false=>rw [Pb] at hc; exact hc.elim
     | true=>
      rw [Pb] at hc;simp only [cond_true] at hc;simp only [Nat.ble_eq,Nat.blt_eq] at Pb m0;have hlen:=hv.len;refine callsIn_wide.1 (callsIn_of_wp_marks (n:=1) (F:=Fence.wide) h1 hb trivial (wpIn_wide.2 ?_))
      have hfit:FitsU [] fn.ntmps ν (argT 0 as) {tmps:=args.toArray++Array.replicate (fn.ntmps - args.toArray.size) Go.undef,defers:=[]}:=by
       refine ⟨by simp; omega,rfl,fun t s hs=> ?_⟩;rw [sU _ _ _ (by omega),if_pos (Nat.zero_le _),Nat.sub_zero] at hs;obtain ⟨v,e1,e2⟩:=hv.get hs;refine ⟨v, ?_,e2⟩
       have hlt:t<args.length:=by rw [List.getElem?_eq_some_iff] at e1; exact e1.1
       rw [Array.getElem?_append_left (by simpa using hlt)];simpa using e1
      refine wp_mono (U9 (C:=⟨τ,callR τ dF bk lf ext ft d,dF⟩) (lf:=lf) hB hA ih hM m0 hm c hr _ _ _ hc ν F _ w hfit R) fun e a w' he=> ?_
      have fin: ∀ {a:Act} {e:Exit},(∀ Γ S',retU τ fn.results.toList K e Γ S'=resU τ Γ S' fn.results.toList fun l=>K (oneS l) S')-> ∀ {ν':Nu} {Γ':Tr SV} {S':SH},a.tmps.size=fn.ntmps->(∀ t s,Γ'.get t=some s-> ∃ v,a.tmps[t]? =some v/\VR ν' s v)->NLe ν ν'->SLe S S'->retU τ fn.results.toList K e Γ' S'->
        ∀ (Ds:List Nat) (F':Fr) (w':World),Rel ν' S' F' w'.heap->Same w w'->(∀ b ob,F b=some ob->F' b=some ob)->(∀ D ∈ Ds,F' D=some (.deferred (some []))/\F D=none)->Ds.Nodup->
        LeavesInM Fence.wide 1 P fn a.tmps (fun e w'=> ∃ v,e= .returned v/\Same w w'/\Kr v w'.heap) (Ds.map mkD) .returning w':=by
       intro a e he ν' Γ' S' k1 k2 k3 k4 k6 Ds
       induction Ds with
       | nil=>
        intro F' w' R' hs hF _ _;rw [he] at k6;obtain ⟨s,v,g1,g2,g3⟩:=zn (K:=fun s=>K s S') (ds:=a.defers) hA ⟨k1,rfl,k2⟩ (R'.less hF) k6
        exact ⟨v,g1,v,rfl,hs,hk _ _ ⟨ν',s,S',g3,g2,k3,k4,R'.less hF⟩⟩
       | cons D Ds ih=>
        intro F' w' R' hs hF hD hN;obtain ⟨d1,d2⟩:=hD D (by simp);refine ⟨by simp, .inl ⟨D,w'.putObj D (.deferred none),rfl,run_takeDeferred (R'.fr _ _ d1).1, ?_⟩⟩;refine ih (fun b=>if b=D then none else F' b) _ (R'.turn d1 (fun b hb=>World.putObj_heap_other hb) fun b ob hb=> ?_) (hs.trans ⟨rfl,rfl,rfl⟩) (fun b ob hb=> ?_) (fun D' hD'=> ?_) (List.nodup_cons.1 hN).2
        ·split at hb
         ·cases hb
         ·rename_i e; exact ⟨e,hb⟩
        ·have:b ≠ D:=by rintro rfl; rw [d2] at hb; cases hb
         simp [this,hF b ob hb]
        ·have:D' ≠ D:=by rintro rfl; exact (List.nodup_cons.1 hN).1 hD'
         simp [this,hD D' (by simp [hD'])]
      cases e with
      | normal=>
       obtain ⟨ds',F',⟨Ds,rfl,m2,m3,m4⟩,ν',Γ',S',k1,k2,k3,k4,k5,k6⟩:=he;show LeavesInM _ _ _ _ _ _ a.defers .returning w';rw [k1.2.1,List.append_nil]
       exact fin (e:= .normal) (fun _ _=>rfl) k1.1 k1.2.2 k3 k4 k6 Ds F' w' k5 k2 m2 m3 m4
      | ret=>
       obtain ⟨ds',F',⟨Ds,rfl,m2,m3,m4⟩,ν',Γ',S',k1,k2,k3,k4,k5,k6⟩:=he;show LeavesInM _ _ _ _ _ _ a.defers .returning w';rw [k1.2.1,List.append_nil]
       exact fin (e:= .ret) (fun _ _=>rfl) k1.1 k1.2.2 k3 k4 k6 Ds F' w' k5 k2 m2 m3 m4
      | exit id=>obtain ⟨ds',F',_,ν',Γ',S',k1,k2,k3,k4,k5,k6⟩:=he; exact k6.elim
      | _=>exact he.elim
  cases hg:ft.get f with
  | some fn=>
   have hb:fn.body.isSome=true:=by
    rw [un,hg] at H;simp only at H;unfold Cv at H
    cases hb:fn.body with
    | none=>
     rw [hb] at H;simp only at H
     cases Pb:Nat.ble as.length fn.ntmps <;> rw [Pb] at H <;> exact H.elim
    | some c=>rfl
   exact key fn hg hb
  | none=> rw [un,hg] at H;obtain ⟨h1,h2⟩:=hE f as S K H;refine ⟨h1,fun args Kr w ⟨ν,F,S,as,K,hv,R,hc,hk⟩=> ?_⟩;rw [un,hg] at hc;exact h2 args Kr w ⟨ν,F,S,as,K,hv,R,hc,hk⟩
end Go.Ey
