import Derived.Test.YtkgbogibfogjgaaGreatDoorTiC
import Derived.Test.YtkgbogibfogjgaaGreatDoorTiJ
set_option linter.unusedVariables false
set_option linter.unusedSimpArgs false
set_option maxHeartbeats 4000000
set_option maxRecDepth 100000
namespace Go.Pt
open Go Go.Wc Go.Pu Go.Laws
theorem AA {l:List (List Int)} {Q:Bool->Prop} (Ht:Q true) (Hf:l.length<=14\/(216<l.length/\l.length<=300)->Q false):aO l Q:=by
 have fin:(l.length<=14\/(216<l.length/\l.length<=300))-> ∀ (m:aO.V),m.l0=l->m.mI=false->aO.K1 Q m:=by
  rintro hl ⟨l0,mI,iE,pH,v20⟩ e1 e2;dsimp only at e1 e2;subst e1 e2;unfold aO.K1; dsimp only;rw [aa]
  have k: ∀ (j i:Nat) (m:aO.V),i+j=l0.length->m.iE=l0->m.pH=(l0.length:Int)->m.v20=(i:Int)->aO.L2 Q m:=by
   intro j
   induction j with
   | zero=>
    rintro i ⟨l1,mI,iE,pH,v20⟩ e e1 e2 e3;dsimp only at e1 e2 e3;subst e1 e2 e3;refine aO.cw ?_;unfold aO.B2; dsimp only;rw [dge (by omega),aa]
    exact Hf hl
   | succ j ih=>
    rintro i ⟨l1,mI,iE,pH,v20⟩ e e1 e2 e3;dsimp only at e1 e2 e3;subst e1 e2 e3;have hi:i<iE.length:=by omega
    refine aO.cw ?_;unfold aO.B2; dsimp only;rw [dlt hi,ak];refine dX hi ?_
    cases hq:decide ((iE[i].length:Int)>600) with
    | true=>exact Ht
    | false=>rw [aa,cK (by omega)]; exact ih (i+1) _ (by omega) rfl rfl rfl
  exact k l0.length 0 _ (by omega) rfl rfl rfl
 have tru: ∀ (m:aO.V),m.mI=true->aO.K1 Q m:=by intro m e;unfold aO.K1;rw [e,ak]; exact Ht
 unfold aO
 by_cases h1:(l.length:Int)>14
 ·rw [decide_eq_true h1,ak]
  by_cases h2:(l.length:Int)<=216
  ·rw [decide_eq_true h2,ak]; exact tru _ rfl
  ·rw [decide_eq_false h2,aa]
   by_cases h3:(l.length:Int)>300
   ·rw [decide_eq_true h3]; exact tru _ rfl
   ·rw [decide_eq_false h3]; exact fin (by omega) _ rfl rfl
 ·rw [decide_eq_false h1,aa,decide_eq_false (by omega)]
  exact fin (by omega) _ rfl rfl
def eY (x:List Int):List Int:=cpL (List.replicate (Int.toNat (256:Int)) (0:Int)) x
theorem vJ {l:List (List Int)} {Q:List (List Int)->Prop} (hl:l.length<=100000) (H:Q (l.map eY)):bu l Q:=by
 have k: ∀ (j i:Nat) (m:bu.V),i+j=l.length->m.v7=l->m.v8=(l.length:Int)->m.v9=(i:Int)->m.cP=(l.take i).map eY->bu.L1 Q m:=by
  intro j
  induction j with
  | zero=>
   rintro i ⟨cP,v7,v8,v9⟩ e e1 e2 e3 e4;dsimp only at e1 e2 e3 e4;subst e1 e2 e3 e4;refine bu.bG ?_;unfold bu.B1; dsimp only;rw [dge (by omega),aa,List.take_of_length_le (by omega)]
   exact H
  | succ j ih=>
   rintro i ⟨cP,v7,v8,v9⟩ e e1 e2 e3 e4;dsimp only at e1 e2 e3 e4;subst e1 e2 e3 e4;have hi:i<v7.length:=by omega
   refine bu.bG ?_;unfold bu.B1; dsimp only;rw [dlt hi,ak];refine dX hi ⟨?_, ?_⟩
   ·refine cn ?_
    rw [List.length_map,List.length_take,List.length_singleton];omega
   rw [cK (by omega)];refine ih (i+1) _ (by omega) rfl rfl rfl ?_;dsimp only;rw [dg hi,List.map_append]; rfl
 unfold bu;exact k l.length 0 _ (by omega) rfl rfl rfl rfl
theorem Dl (x:List Int):(eY x).length=256:=by unfold eY;rw [mE,List.length_replicate]; rfl
theorem x8 {x:List Int} (h:bytesL x):bytesL (eY x):=fun y hy=>by
 unfold eY cpL at hy;rcases List.mem_append.1 hy with hy | hy
 ·exact h y (List.mem_of_mem_take hy)
 ·rw [List.eq_of_mem_replicate (List.mem_of_mem_drop hy)]; omega
theorem x9 {l:List af} {Q:bx.QT} (hl:l.length<=100000) (H:Q true):bx (l.map sr) l Q:=by
 unfold bx;rw [List.length_map,show ((l.length:Int) !=(l.length:Int))=false by simp,aa]
 have k: ∀ (j i:Nat) (c:bx.V),i+j=l.length->c.a0=l.map sr->c.b1=l->c.Ee=(l.length:Int)->c.iP=(i:Int)->bx.L1 Q c:=by
  intro j
  induction j with
  | zero=>
   intro i c e e1 e2 e3 e4;refine bx.bG ?_;unfold bx.B1;rw [e3,e4,decide_eq_false (by omega),aa]
   exact H
  | succ j ih=>
   intro i c e e1 e2 e3 e4;have hi:i<l.length:=by omega
   refine bx.bG ?_;unfold bx.B1;rw [e1,e2,e3,e4,decide_eq_true (by omega),ak];refine dX (by rw [List.length_map]; exact hi) (dX hi ?_);rw [List.getElem_map];have hd:((sr l[i]).bY.toList==l[i].bY.toList)=true:=by show (l[i].bY.toList==l[i].bY.toList)=true; simp
   rw [show (!((sr l[i]).Place==l[i].Place && ((sr l[i]).cu==l[i].cu && ((sr l[i]).bY.toList==l[i].bY.toList && true))))=false by
    rw [hd,show ((sr l[i]).Place==l[i].Place)=true by show (l[i].Place==l[i].Place)=true; simp,show ((sr l[i]).cu==l[i].cu)=true by show (l[i].cu==l[i].cu)=true; simp]; rfl,aa,cK (by omega)]
   exact ih (i+1) _ (by omega) rfl rfl rfl rfl
 exact k l.length 0 _ (by omega) rfl rfl rfl rfl
abbrev zk:Vector Int 32:=Vector.replicate 32 0
theorem JD {pages:List (List Int)} (C:MC zk 4 pages) {s:aH} (S:SM zk 4 pages s) {σ:St Obj} {Q:aj.QT} (H:Q true σ) {A:List af} (hA: ∀ x ∈ A,gE x.cu) (hAl:A.length<=100000) {it:Int}:
  ∀ (j i:Nat) (c:aj.V),i+j=A.length->c.bI=it->c.lR=s->c.s8=⟨newB (pages.length:Int)⟩->c.qf=hOf (pages.length:Int)->c.dS=s.blocks->c.MJ=A.map sr->c.MK=(A.length:Int)->c.Ip=(i:Int)->aj.L4 Q c σ:=by
 intro j
 induction j with
 | zero=>
  intro i c e e1 e2 e3 e4 e5 e6 e7 e8;refine aj.ju ?_;unfold aj.B4;rw [e7,e8,decide_eq_false (by omega),aa]
  exact H
 | succ j ih=>
  intro i c e e1 e2 e3 e4 e5 e6 e7 e8;have hi:i<A.length:=by omega
  refine aj.ju ?_;unfold aj.B4;rw [e7,e8,decide_eq_true (by omega),ak,e6];refine dX (by rw [List.length_map]; exact hi) ?_;rw [List.getElem_map,e1,e2,e3,e4,e5];have he:gE A[i].cu:=hA _ (List.getElem_mem hi);refine rO C S.ok S.waits S.bytes he ?_;refine xX C S.ok S.bytes (r:=A[i]) he ?_;have hf:=Rs C S.ok S.bytes it A[i];obtain ⟨l,er,hl,q1,q2,_⟩:=uK C (it:=it) hf.1 hf.2;refine q1 _ (q2 _ ?_);refine uH rfl (by rcases hf.2 with h | h <;> rw [h] <;> simp) ?_;rw [decide_eq_true rfl,show (!true)=false from rfl,aa,show ((fP zk pages s it A[i]).2 !=(fP zk pages s it A[i]).2)=false by simp,aa];refine x9 (by omega) ?_;rw [show (!true)=false from rfl,aa,show (er !=er)=false by simp];unfold aj.K5; dsimp only;rw [aa,cK (by omega)];exact ih (i+1) _ (by omega) rfl rfl rfl rfl rfl rfl rfl rfl
theorem jr (x0:List (List Int)) (n0:(fun l:List (List Int)=>l.length<=maxLen/\ ∀ x ∈ l,(fun l:List Int=>l.length<=maxLen/\ ∀ x ∈ l,(fun n:Int=>(Lit.int .u8 n).wf=true) x) x) x0) (x1:Int) (n1:(Lit.int .i64 x1).wf=true) (x2:af) (n2:(fun n:Int=>(Lit.int .i64 n).wf=true) x2.Place/\(fun n:Int=>(Lit.int .u32 n).wf=true) x2.cu/\(fun v:Vector Int 32=> ∀ x ∈ v.toList,(Lit.int .u8 x).wf=true) x2.bY):
  aj x0 x1 x2 ug (fun b _=>b=true):=by
 have he:gE x2.cu:=by have:=n2.2.1;simp only [Lit.wf,Bool.and_eq_true,decide_eq_true_eq] at this;have h2:x2.cu<=4294967295:=this.2;have h1:0<=x2.cu:=this.1;exact ⟨h1,by omega⟩
 have hb: ∀ x ∈ x0.map eY,bytesL x:=by intro x hx;obtain ⟨y,hy,rfl⟩:=List.mem_map.1 hx;refine x8 fun z hz=> ?_;have:=(n0.2 y hy).2 z hz;simp only [Lit.wf,Bool.and_eq_true,decide_eq_true_eq] at this;have h2:z<=255:=this.2;have h1:0<=z:=this.1;exact ⟨h1,by omega⟩
 have hp: ∀ x ∈ x0.map eY,x.length=256:=by intro x hx;obtain ⟨y,hy,rfl⟩:=List.mem_map.1 hx;exact Dl y
 have al: ∀ c:aj.V,c.mZ=true->aj.K1 (fun b _=>b=true) c ug:=by intro c h;unfold aj.K1;rw [h,ak];unfold eU; rfl
 unfold aj;refine AA ?_ fun hl=> ?_
 ·rw [ak]; exact al _ rfl
 rw [aa]
 by_cases h0:x0.length=0
 ·rw [show ((x0.length:Int)==0)=true by rw [h0]; rfl,ak]; exact al _ rfl
 rw [show ((x0.length:Int)==0)=false by rw [beq_eq_false_iff_ne]; omega,aa]
 by_cases h1:216<x0.length
 ·rw [decide_eq_true (by omega)]; exact al _ rfl
 rw [decide_eq_false (by omega)];unfold aj.K1; dsimp only;rw [aa];refine vJ (by omega) ?_;have hlen:(x0.map eY).length=x0.length:=List.length_map _
 have C:MC zk 4 (x0.map eY):=⟨tok (by rw [hlen]; omega),(fun x hx=>by
  have:x=0:=by simpa [zk] using hx
  omega),by unfold gE; omega⟩
 have hsm:=C.small;refine Dj C hp hb fun s S=> ?_;rw [show (!true)=false from rfl,aa];have hnew:=C.T.N.new;rw [hlen] at hnew;refine CV (by omega) hnew ?_;unfold iN;have hbl:=S.ok.1;refine jv (by omega) ?_;refine Ay C hp hb S fun R ps hR hRe=> ?_;rw [show (((0:Int)) !=0)=false from rfl,aa];refine fL C.T.N.wb ?_;rw [C.T.N.items,<- hR,(show (R.map sr).length=R.length by simp),show ((R.length:Int) !=(R.length:Int))=false by simp];unfold aj.K2; dsimp only;rw [aa]
 have hrt:gE (rootM zk 4 (x0.map eY)).cu:=by
  have:rootM zk 4 (x0.map eY) ∈ (runM zk 4 (x0.map eY) (hOf ((x0.map eY).length:Int)).Level.length).2:=by
   unfold rootM;rw [List.getLastD_eq_getLast?]
   have hne:(runM zk 4 (x0.map eY) (hOf ((x0.map eY).length:Int)).Level.length).2 ≠ []:=by intro h;have:=iy (key:=zk) (e:=4) (pages:=x0.map eY) (hOf ((x0.map eY).length:Int)).Level.length;rw [h] at this;have h3:=C.pos;have h4:(0:Nat)=_:=this;omega
   rw [List.getLast?_eq_some_getLast hne];exact List.getLast_mem hne
  exact (vF C.ep _ _ this).2
 have fin: ∀ (A:List af) (c:aj.V),(∀ x ∈ A,gE x.cu)->A.length<=100000->c.bI=x1->c.lR=s->c.s8=⟨newB ((x0.map eY).length:Int)⟩->c.qf=hOf (x0.length:Int)->c.dS=s.blocks->c.kE=A.map sr->aj.K6 (fun b _=>b=true) c ug:=by intro A c hA hAl e1 e2 e3 e4 e5 e6;unfold aj.K6;refine JD C S rfl hA hAl A.length 0 _ (by omega) e1 e2 e3 (by rw [hlen]; exact e4) e5 e6 ?_ rfl;dsimp only;rw [e6,List.length_map]
 have h2:([(⟨x2.Place,x2.cu,x2.bY⟩:aF),sr (rootM zk 4 (x0.map eY))]:List aF)=[x2,rootM zk 4 (x0.map eY)].map sr:=rfl
 have hA2: ∀ x ∈ [x2,rootM zk 4 (x0.map eY)],gE x.cu:=by
  intro x hx;simp only [List.mem_cons,List.not_mem_nil,or_false] at hx;rcases hx with rfl | rfl
  ·exact he
  ·exact hrt
 by_cases g0:0<=x1
 ·rw [decide_eq_true (by omega),ak]
  rw [(show (R.map sr).length=R.length by simp)]
  by_cases g1:x1<(R.length:Int)
  ·rw [decide_eq_true g1]
   unfold aj.K3; dsimp only;rw [ak];refine fC x1.toNat (by omega) (by rw [List.length_map]; omega) ⟨cn (by simp), ?_⟩;rw [List.getElem_map];refine fin [x2,rootM zk 4 (x0.map eY),R[x1.toNat]'(by omega)] _ ?_ (by simp) rfl rfl rfl rfl rfl rfl;intro x hx;simp only [List.mem_cons,List.not_mem_nil,or_false] at hx;rcases hx with rfl | rfl | rfl
   ·exact he
   ·exact hrt
   ·exact hRe _ (List.getElem_mem _)
  ·rw [decide_eq_false g1]
   unfold aj.K3; dsimp only;rw [aa];exact fin [x2,rootM zk 4 (x0.map eY)] _ hA2 (by simp) rfl rfl rfl rfl rfl rfl
 ·rw [decide_eq_false (by omega),aa]
  unfold aj.K3; dsimp only;rw [aa];exact fin [x2,rootM zk 4 (x0.map eY)] _ hA2 (by simp) rfl rfl rfl rfl rfl rfl
end Go.Pt
