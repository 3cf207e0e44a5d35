import Derived.Test.YtkgbogibfogjgaaGreatDoorTiF
import Derived.Test.YtkgbogibfogjgaaGreatDoorTiI
set_option linter.unusedVariables false
set_option linter.unusedSimpArgs false
set_option maxHeartbeats 4000000
set_option maxRecDepth 100000
namespace Go.Proofs.YtkgbogibfogjgaaGreatDoor.Ek
open Go Go.Wc Go.Pu Go.Ex Go.Proofs.YtkgbogibfogjgaaGreatDoor Go.Pt
abbrev adL:Ctr D:= {ps:=[.val (.list (.st 4))],rs:=[.fn 79 [(104,[.v (.list (.st 4))])]],bk:=[],sg:=false,P:=fun x σ Q=>Q (((x.1,()),()),()) () σ}
noncomputable def c53:Code:=Tryz.f53.body.getD .skip
def A53:Ann:=(.seq .leaf (.seq .leaf .leaf))
theorem adM:SO 53 adL:=
 fk (code:=c53) CtrsOk.nil Tryz.func53 (by kernel_rfl) (by kernel_rfl) A53 (fun _=>Pts.no) (fun _ _=>()) (by kernel_rfl) (fun x σ Q h=>cast (by kernel_rfl) h) (fun Q=>trivial)
abbrev Vb:=List b9 × Int
abbrev Ph:Ctr D:= {ps:=[.al 0 [], .blk 104 [.v (.list (.st 4))]],rs:=[],bk:=[(1, .blk 104 [.v (.list (.st 4))])],sg:=false,P:=fun x σ Q=>x.2.1.1=[]/\Q () ((([]:List b9),()),()) σ}
noncomputable def c79:Code:=Tryz.f79.body.getD .skip
def A79:Ann:=(.seq .leaf (.block (.loop 1 [1,3] (.seq (.seq .leaf (.cond .leaf .leaf)) (.seq (.block (.seq .leaf (.cond .leaf .leaf))) .leaf)))))
abbrev Pj:Nat->List Ds
 | 1=>[.blk 104 [.v (.list (.st 4))], .val (.int .i64)]
 | _=>[]
abbrev adN: ∀ k,Vb->TupD D (Pj k)->Vb
 | 1,c,t=>(t.1.1,t.2.1)
 | 0,c,_=>c
 | _+2,c,_=>c
abbrev adO: ∀ k,Vb->TupD D (Pj k)
 | 1,c=>((c.1,()),c.2,())
 | 0,c=>()
 | _+2,c=>()
def LS (Q:QT Ph) (σ:Option (St D.O)):Nat->List (Vb->Prop)->Vb->Prop
 | 1,[S1],c=>c.1=[]/\c.2= -1/\Q () ((([]:List b9),()),()) σ
 | _,_,_=>False
abbrev adP (Q:QT Ph):Pts D:=Pts.gZ Pj adN adO (by intro k b t; match k,t with | 0,t | 1,t | _+2,t=>rfl) (fun σ=>LS Q σ)
theorem adQ:SO 79 Ph:=
 fk (code:=c79) CtrsOk.nil Tryz.func79 (by kernel_rfl) (by kernel_rfl) A79 adP (fun _ _=>([],0)) (by kernel_rfl)
  (fun x o Q h=>by
   obtain ⟨⟨⟩,⟨l,⟨⟩⟩,⟨⟩⟩:=x;obtain ⟨e,h⟩:=h;have e:l=[]:=e;subst e;have hl:Lf (fun S=>LS Q o 1 (S::[])) (([]:List b9),(-1:Int)):=Lf.fold ⟨rfl,rfl,h⟩
   exact cast (by kernel_rfl) hl)
  (fun Q=>⟨(fun inner hl=>by
   obtain ⟨S1,rfl⟩:=Mc hl
   exact fun v σ hs=>by
    obtain ⟨l,i⟩:=v;obtain ⟨e1,e2,q⟩:=hs;have e1:l=[]:=e1;have e2:i= -1:=e2;subst e1 e2
    exact cast (by kernel_rfl) q),trivial⟩)
abbrev Vc:Ctr D:= {ps:=[.rd (.st 4)],rs:=[.fn 79 [(104,[.v (.list (.st 4))])]],bk:=[],sg:=false,P:=fun x σ Q=>x.1=[]/\Q (((([]:List b9),()),()),()) () σ}
theorem lentNil {X:At} {h:Hp} {A:List At} {t:Ty} {l:List (D.d t)} {vs:List Value} (e:l=[]) (I:Inv h (dsL D X [.rd t] (l,()) vs::A)):Inv h (dsL D X [.val (.list t)] (([]:List (D.d t)),()) vs::A):=by subst e;refine I.conv fun F M hP=> ?_;obtain ⟨v,w,hvs,F1,F2,eF,⟨a,c,⟨hv,hr⟩,JP⟩,hw⟩:=hP;refine ⟨v,w,hvs,F1,F2,eF,⟨[v],by subst hv; rfl,JP, ?_⟩,hw⟩;subst hv;exact ⟨a,c,rfl,[],Bs _ (by simp),Nat.zero_le _,fun h=>absurd rfl h,rfl⟩
theorem Bn {P:Program} {f:Nat} {A B:Wc.Spec} (H:SpecOk P f A) (himp: ∀ args h K,B args h K->A args h K):SpecOk P f B:=⟨H.1,fun vs K w hb=>H.2 vs K w (himp _ _ _ hb)⟩
theorem Vd:SO 53 Vc:=Bn adM fun args h Kr ⟨X,x,o,Q,I,HP,hQ⟩=>by obtain ⟨e,HP⟩:=HP;refine ⟨X,(([]:List b9),()),o,Q, ?_,HP,hQ⟩;obtain ⟨l,⟨⟩⟩:=x;have I2:=lentNil (t:= .st 4) e I.bV;exact I2.rot
noncomputable def c23:Code:=Tryz.f23.body.getD .skip
def A23:Ann:=(.seq .leaf (.seq (.seq .leaf (.seq .leaf (.cond (.seq .leaf .leaf) .leaf))) (.seq (.seq .leaf (.block .leaf)) (.seq (.plan (.take 0 [10,11,12] (.take 1 [10,11,12] (.take 2 [10,11,12] (.take 3 [10,11,12] (.take 4 [10,11,12] (.take 5 [10,11,12] (.take 6 [10,11,12] (.take 7 [10,11,12] (.take 8 [10,11,12] (.take 9 [10,11,12] (.all (.alt 10 (.all (.alt 11 (.all (.alt 12 .done .nil)) .nil)) .nil))))))))))))) .leaf))))
theorem Pk (hC:CO ZB):SO 23 Gg:=
 Pg (c:=Gg) (ty:=ty) (code:=c23) agree (CtrsOk.cons adQ (CtrsOk.cons Vd hC)) mixed Tryz.func23 (by kernel_rfl) (by kernel_rfl) A23 (by kernel_rfl) (fun x o Q h=>cast (by kernel_rfl) h)
end Go.Proofs.YtkgbogibfogjgaaGreatDoor.Ek
