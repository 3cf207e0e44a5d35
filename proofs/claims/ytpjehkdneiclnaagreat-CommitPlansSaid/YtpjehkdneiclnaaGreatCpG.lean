import Derived.Test.YtpjehkdneiclnaaGreatCpF
set_option linter.unusedVariables false
set_option linter.unusedSimpArgs false
set_option maxHeartbeats 4000000
set_option maxRecDepth 100000
namespace Go.Proofs.YtpjehkdneiclnaaGreat.Ek
open Go Go.Wc Go.Pu Go.Ex Go.Proofs.YtpjehkdneiclnaaGreat Go.Pt
abbrev C4:Ctrs D:=[]
abbrev RZ:Ctr D:= {ps:=[vi],rs:=[.val (.st 0),vi],bk:=[],sg:=false,P:=fun x σ Q=>cD x.1 (fun r0 r1=>Q (r0,r1,()) (()) σ)}
noncomputable def c4:Code:=Tryz.f4.body.getD .skip
def A4:Ann:=(sl (.seq (.join 1 [0,2,12] lf (.cond s2 lf)) (sl (.seq (sl (.block (.loop 2 [2,4,5] (.seq (.join 3 [2,4,5,23] lf (.cond lf lf)) (.block (sl (sl (.plan (.take 0 [12] (.take 1 [12] (.take 2 [12] (.take 3 [12] (.take 4 [11,12] (.take 5 [11,12] (.take 6 [11,12] (.take 7 [11,12] (.take 8 [11,12] (.take 9 [11,12] (.take 10 [11,12] (.all (.alt 11 (.all (.alt 12 (.take 13 [] .done) .nil)) .nil))))))))))))))))))))) s2))))
abbrev Yn:Nat→List Ds
  | 1=>[vi, .blk 32 [.own (.int .i64)],vb]
  | 2=>[.blk 32 [.own (.int .i64)], .own (.int .i64),vi]
  | 3=>[.blk 32 [.own (.int .i64)], .own (.int .i64),vi,vb]
  | _=>[]
abbrev up4: ∀ k,cD.V→TupD D (Yn k)→cD.V
  | 1,c,t=> {c with fm:=t.1,v2:=⟨t.2.1.1⟩,v12:=t.2.2.1}
  | 2,c,t=> {c with v2:=⟨t.1.1⟩,l4:=t.2.1,jj:=t.2.2.1}
  | 3,c,t=> {c with v2:=⟨t.1.1⟩,l4:=t.2.1,jj:=t.2.2.1,v23:=t.2.2.2.1}
  | _,c,_=>c
abbrev ls4: ∀ k,cD.V→TupD D (Yn k)
  | 1,c=>(c.fm,(c.v2.cE,()),c.v12,())
  | 2,c=>((c.v2.cE,()),c.l4,c.jj,())
  | 3,c=>((c.v2.cE,()),c.l4,c.jj,c.v23,())
  | 0,c=>()
  | _+4,c=>()
abbrev Yo (Q:cD.QT):Nat→List (cD.V→Prop)→cD.V→Prop
  | 1,[],c=>cD.K1 Q c
  | 2,[S2],c=>cD.B2 S2 Q c
  | 3,[S2],c=>cD.K3 S2 Q c
  | _,_,_=>False
abbrev pt4 (Q:QT RZ):Pts D:=Pts.kn Yn up4 ls4 (by intro k b t; match k,t with | 0,t | 1,t | 2,t | 3,t | _+4,t=>rfl) (fun σ=>Yo (fun r0 r1=>Q (r0,r1,()) (()) σ))
abbrev C5:Ctrs D:=((4,RZ)::C4)
abbrev R5:Ctr D:= {ps:=[vi],rs:=[.val (.st 1),vi],bk:=[],sg:=false,P:=fun x σ Q=>aQ x.1 (fun r0 r1=>Q (r0,r1,()) (()) σ)}
noncomputable def c5:Code:=Tryz.f5.body.getD .skip
def A5:Ann:=(sl (.seq (.join 1 [0,2,16] lf (.cond s2 lf)) (sl (.seq (sl (.block (.loop 2 [0,2,4,5] (.seq (sl (.cond lf lf)) (.seq (.block s2) lf))))) (sl (.seq (sl (.block (.loop 3 [2,4,6,7,8] (.seq (.join 4 [2,4,6,7,8,41] lf (.cond lf lf)) (.seq (.block (sl (.seq (sl (.block (.loop 5 [2,4,6,7,8,9,10] (.seq (sl (.cond lf lf)) (.seq (.block (sl s2)) lf))))) lf))) lf))))) s2))))))
abbrev Yp:Nat→List Ds
  | 1=>[vi, .blk 37 [.v (.int .i64), .own (.int .i64), .own (.int .i64)],vb]
  | 2=>[vi, .blk 37 [.v (.int .i64), .own (.int .i64), .own (.int .i64)], .blk 37 [.v (.int .i64), .own (.int .i64), .own (.int .i64)],vi]
  | 3=>[.blk 37 [.v (.int .i64), .own (.int .i64), .own (.int .i64)], .blk 37 [.v (.int .i64), .own (.int .i64), .own (.int .i64)],vi,vi,vi]
  | 4=>[.blk 37 [.v (.int .i64), .own (.int .i64), .own (.int .i64)], .blk 37 [.v (.int .i64), .own (.int .i64), .own (.int .i64)],vi,vi,vi,vb]
  | 5=>[.blk 37 [.v (.int .i64), .own (.int .i64), .own (.int .i64)], .blk 37 [.v (.int .i64), .own (.int .i64), .own (.int .i64)],vi,vi,vi,vi,vi]
  | _=>[]
abbrev up5: ∀ k,aQ.V→TupD D (Yp k)→aQ.V
  | 1,c,t=> {c with fm:=t.1,v2:=⟨t.2.1.1,t.2.1.2.1,t.2.1.2.2.1⟩,ej:=t.2.2.1}
  | 2,c,t=> {c with fm:=t.1,v2:=⟨t.2.1.1,t.2.1.2.1,t.2.1.2.2.1⟩,s4:=⟨t.2.2.1.1,t.2.2.1.2.1,t.2.2.1.2.2.1⟩,i5:=t.2.2.2.1}
  | 3,c,t=> {c with v2:=⟨t.1.1,t.1.2.1,t.1.2.2.1⟩,s4:=⟨t.2.1.1,t.2.1.2.1,t.2.1.2.2.1⟩,gW:=t.2.2.1,gJ:=t.2.2.2.1,fI:=t.2.2.2.2.1}
  | 4,c,t=> {c with v2:=⟨t.1.1,t.1.2.1,t.1.2.2.1⟩,s4:=⟨t.2.1.1,t.2.1.2.1,t.2.1.2.2.1⟩,gW:=t.2.2.1,gJ:=t.2.2.2.1,fI:=t.2.2.2.2.1,NW:=t.2.2.2.2.2.1}
  | 5,c,t=> {c with v2:=⟨t.1.1,t.1.2.1,t.1.2.2.1⟩,s4:=⟨t.2.1.1,t.2.1.2.1,t.2.1.2.2.1⟩,gW:=t.2.2.1,gJ:=t.2.2.2.1,fI:=t.2.2.2.2.1,n9:=t.2.2.2.2.2.1,Fw:=t.2.2.2.2.2.2.1}
  | _,c,_=>c
abbrev ls5: ∀ k,aQ.V→TupD D (Yp k)
  | 1,c=>(c.fm,(c.v2.P,c.v2.Level,c.v2.fM,()),c.ej,())
  | 2,c=>(c.fm,(c.v2.P,c.v2.Level,c.v2.fM,()),(c.s4.P,c.s4.Level,c.s4.fM,()),c.i5,())
  | 3,c=>((c.v2.P,c.v2.Level,c.v2.fM,()),(c.s4.P,c.s4.Level,c.s4.fM,()),c.gW,c.gJ,c.fI,())
  | 4,c=>((c.v2.P,c.v2.Level,c.v2.fM,()),(c.s4.P,c.s4.Level,c.s4.fM,()),c.gW,c.gJ,c.fI,c.NW,())
  | 5,c=>((c.v2.P,c.v2.Level,c.v2.fM,()),(c.s4.P,c.s4.Level,c.s4.fM,()),c.gW,c.gJ,c.fI,c.n9,c.Fw,())
  | 0,c=>()
  | _+6,c=>()
abbrev Yq (Q:aQ.QT):Nat→List (aQ.V→Prop)→aQ.V→Prop
  | 1,[],c=>aQ.K1 Q c
  | 2,[S2],c=>aQ.B2 S2 Q c
  | 3,[S3],c=>aQ.B3 S3 Q c
  | 4,[S3],c=>aQ.K4 S3 Q c
  | 5,[S5,S3],c=>aQ.B5 S3 S5 Q c
  | _,_,_=>False
abbrev pt5 (Q:QT R5):Pts D:=Pts.kn Yp up5 ls5 (by intro k b t; match k,t with | 0,t | 1,t | 2,t | 3,t | 4,t | 5,t | _+6,t=>rfl) (fun σ=>Yq (fun r0 r1=>Q (r0,r1,()) (()) σ))
abbrev C6:Ctrs D:=((5,R5)::C5)
abbrev R6:Ctr D:= {ps:=[.rd (.st 3), .rd (.st 4)],rs:=[vb],bk:=[],sg:=false,P:=fun x σ Q=>bq x.1 x.2.1 (fun r0=>Q (r0,()) (()) σ)}
noncomputable def c6:Code:=Tryz.f6.body.getD .skip
def A6:Ann:=(sl (.seq (.join 1 [0,1,16] lf (.cond s2 lf)) (.seq (sl (.block (.loop 2 [1,17,18,19] (sl (.seq (.cond lf lf) (.seq (.block (sl (sl (.cond s2 lf)))) lf)))))) (.seq (sl (.block (.loop 3 [28,29,30] (sl (.seq (.cond lf lf) (.seq (.block (sl (sl (.cond s2 lf)))) lf)))))) s2))))
abbrev Yr:Nat→List Ds
  | 1=>[.rd (.st 3), .rd (.st 4),vb]
  | 2=>[.rd (.st 4), .rd (.st 3),vi,vi]
  | 3=>[.rd (.st 4),vi,vi]
  | _=>[]
abbrev mH: ∀ k,bq.V→TupD D (Yr k)→bq.V
  | 1,c,t=> {c with l0:=t.1,c1:=t.2.1,ej:=t.2.2.1}
  | 2,c,t=> {c with c1:=t.1,kD:=t.2.1,jO:=t.2.2.1,fF:=t.2.2.2.1}
  | 3,c,t=> {c with v28:=t.1,KV:=t.2.1,v30:=t.2.2.1}
  | _,c,_=>c
abbrev ls6: ∀ k,bq.V→TupD D (Yr k)
  | 1,c=>(c.l0,c.c1,c.ej,())
  | 2,c=>(c.c1,c.kD,c.jO,c.fF,())
  | 3,c=>(c.v28,c.KV,c.v30,())
  | 0,c=>()
  | _+4,c=>()
abbrev Ys (Q:bq.QT):Nat→List (bq.V→Prop)→bq.V→Prop
  | 1,[],c=>bq.K1 Q c
  | 2,[S2],c=>bq.B2 S2 Q c
  | 3,[S3],c=>bq.B3 S3 Q c
  | _,_,_=>False
abbrev pt6 (Q:QT R6):Pts D:=Pts.kn Yr mH ls6 (by intro k b t; match k,t with | 0,t | 1,t | 2,t | 3,t | _+4,t=>rfl) (fun σ=>Ys (fun r0=>Q (r0,()) (()) σ))
abbrev Yt:Ctrs D:=((6,R6)::C6)
abbrev FJ:Ctr D:= {ps:=[.val (.st 0)],rs:=[vi],bk:=[],sg:=false,P:=fun x σ Q=>gM x.1 (fun r0=>Q (r0,()) (()) σ)}
noncomputable def c70:Code:=Tryz.f70.body.getD .skip
def A70:Ann:=(sl s2)
abbrev Yu (Q:QT FJ):Pts D:=Pts.no
abbrev Yv:Ctrs D:=((70,FJ)::Yt)
abbrev FK:Ctr D:= {ps:=[.val (.st 0),vi],rs:=[vi],bk:=[],sg:=false,P:=fun x σ Q=>b9 x.1 x.2.1 (fun r0=>Q (r0,()) (()) σ)}
noncomputable def c54:Code:=Tryz.f54.body.getD .skip
def A54:Ann:=(sl (.seq (sl (.cond s2 lf)) (.seq (sl (.block (.loop 1 [1,2,9,10] (sl (.seq (.cond lf lf) (.seq (.block (sl (sl (.cond s2 lf)))) lf)))))) s2)))
abbrev NX:Nat→List Ds
  | 1=>[vi, .blk 32 [.v (.st 0)],vi,vi]
  | _=>[]
abbrev Yw: ∀ k,b9.V→TupD D (NX k)→b9.V
  | 1,c,t=> {c with bA:=t.1,s2:=t.2.1.1,v9:=t.2.2.1,v10:=t.2.2.2.1}
  | _,c,_=>c
abbrev Yx: ∀ k,b9.V→TupD D (NX k)
  | 1,c=>(c.bA,(c.s2,()),c.v9,c.v10,())
  | 0,c=>()
  | _+2,c=>()
abbrev R7 (Q:b9.QT):Nat→List (b9.V→Prop)→b9.V→Prop
  | 1,[S1],c=>b9.B1 S1 Q c
  | _,_,_=>False
abbrev Yy (Q:QT FK):Pts D:=Pts.kn NX Yw Yx (by intro k b t; match k,t with | 0,t | 1,t | _+2,t=>rfl) (fun σ=>R7 (fun r0=>Q (r0,()) (()) σ))
abbrev Yz:Ctrs D:=((54,FK)::Yv)
abbrev FL:Ctr D:= {ps:=[.val (.st 0)],rs:=[vi],bk:=[],sg:=false,P:=fun x σ Q=>iA x.1 (fun r0=>Q (r0,()) (()) σ)}
noncomputable def c74:Code:=Tryz.f74.body.getD .skip
def A74:Ann:=(sl (.seq (sl (.cond s2 lf)) s2))
abbrev YA (Q:QT FL):Pts D:=Pts.no
abbrev YB:Ctrs D:=((74,FL)::Yz)
abbrev FM:Ctr D:= {ps:=[.val (.st 0)],rs:=[vi],bk:=[],sg:=false,P:=fun x σ Q=>jg x.1 (fun r0=>Q (r0,()) (()) σ)}
noncomputable def c59:Code:=Tryz.f59.body.getD .skip
def A59:Ann:=(sl s2)
abbrev YC (Q:QT FM):Pts D:=Pts.no
abbrev YD:Ctrs D:=((59,FM)::YB)
abbrev Bb:Ctr D:= {ps:=[.val (.st 0),vi],rs:=[vi,vi,vb],bk:=[],sg:=false,P:=fun x σ Q=>aR x.1 x.2.1 (fun r0 r1 r2=>Q (r0,r1,r2,()) (()) σ)}
noncomputable def c44:Code:=Tryz.f44.body.getD .skip
def A44:Ann:=(sl (sl (.seq (.join 1 [1,2,7,19] lf (.cond s2 lf)) (sl s2))))
abbrev NY:Nat→List Ds
  | 1=>[vi, .blk 32 [.v (.st 0)],vi,vb]
  | _=>[]
abbrev YE: ∀ k,aR.V→TupD D (NY k)→aR.V
  | 1,c,t=> {c with bA:=t.1,s2:=t.2.1.1,rE:=t.2.2.1,fF:=t.2.2.2.1}
  | _,c,_=>c
abbrev YF: ∀ k,aR.V→TupD D (NY k)
  | 1,c=>(c.bA,(c.s2,()),c.rE,c.fF,())
  | 0,c=>()
  | _+2,c=>()
abbrev R8 (Q:aR.QT):Nat→List (aR.V→Prop)→aR.V→Prop
  | 1,[],c=>aR.K1 Q c
  | _,_,_=>False
abbrev YG (Q:QT Bb):Pts D:=Pts.kn NY YE YF (by intro k b t; match k,t with | 0,t | 1,t | _+2,t=>rfl) (fun σ=>R8 (fun r0 r1 r2=>Q (r0,r1,r2,()) (()) σ))
abbrev Xt:Ctrs D:=((44,Bb)::YD)
abbrev yL:Ctr D:= {ps:=[.val (.st 0),vi],rs:=[.own (.int .i64)],bk:=[],sg:=false,P:=fun x σ Q=>aY x.1 x.2.1 (fun r0=>Q (r0,()) (()) σ)}
noncomputable def c35:Code:=Tryz.f35.body.getD .skip
def A35:Ann:=(sl (.seq (sl (.cond s2 lf)) (sl (.seq (sl (.block (.loop 1 [2,5,6,8] (.seq (sl (.cond lf lf)) (.seq (.block lf) lf))))) s2))))
abbrev NZ:Nat→List Ds
  | 1=>[.blk 32 [.v (.st 0)], .own (.int .i64),vi,vb]
  | _=>[]
abbrev YH: ∀ k,aY.V→TupD D (NZ k)→aY.V
  | 1,c,t=> {c with s2:=t.1.1,l5:=t.2.1,p6:=t.2.2.1,FN:=t.2.2.2.1}
  | _,c,_=>c
abbrev YI: ∀ k,aY.V→TupD D (NZ k)
  | 1,c=>((c.s2,()),c.l5,c.p6,c.FN,())
  | 0,c=>()
  | _+2,c=>()
abbrev R9 (Q:aY.QT):Nat→List (aY.V→Prop)→aY.V→Prop
  | 1,[S1],c=>aY.B1 S1 Q c
  | _,_,_=>False
abbrev YJ (Q:QT yL):Pts D:=Pts.kn NZ YH YI (by intro k b t; match k,t with | 0,t | 1,t | _+2,t=>rfl) (fun σ=>R9 (fun r0=>Q (r0,()) (()) σ))
abbrev KD:Ctr D:= {ps:=[.val (.st 0),ri],rs:=[.own (.int .i64)],bk:=[],sg:=false,P:=fun x σ Q=>bU x.1 x.2.1 (fun r0=>Q (r0,()) (()) σ)}
abbrev Xu:Ctrs D:=((15,KD)::((35,yL)::Xt))
abbrev yM:Ctr D:= {ps:=[.rd (.st 5)],rs:=[.own (.int .i64)],bk:=[],sg:=false,P:=fun x σ Q=>bW x.1 (fun r0=>Q (r0,()) (()) σ)}
noncomputable def c18:Code:=Tryz.f18.body.getD .skip
def A18:Ann:=(sl (sl (.seq (sl (.block (.loop 1 [3,6,7,8] (sl (.seq (.cond lf lf) (.seq (.block s2) lf)))))) s2)))
abbrev N0:Nat→List Ds
  | 1=>[.own (.int .i64), .rd (.st 5),vi,vi]
  | _=>[]
abbrev YK: ∀ k,bW.V→TupD D (N0 k)→bW.V
  | 1,c,t=> {c with l3:=t.1,v6:=t.2.1,v7:=t.2.2.1,v8:=t.2.2.2.1}
  | _,c,_=>c
abbrev YL: ∀ k,bW.V→TupD D (N0 k)
  | 1,c=>(c.l3,c.v6,c.v7,c.v8,())
  | 0,c=>()
  | _+2,c=>()
abbrev Sa (Q:bW.QT):Nat→List (bW.V→Prop)→bW.V→Prop
  | 1,[S1],c=>bW.B1 S1 Q c
  | _,_,_=>False
abbrev YM (Q:QT yM):Pts D:=Pts.kn N0 YK YL (by intro k b t; match k,t with | 0,t | 1,t | _+2,t=>rfl) (fun σ=>Sa (fun r0=>Q (r0,()) (()) σ))
abbrev KE:Ctr D:= {ps:=[.rd (.st 6)],rs:=[.own (.st 6)],bk:=[],sg:=false,P:=fun x σ Q=>cz x.1 (fun r0=>Q (r0,()) (()) σ)}
abbrev YN:Ctrs D:=((21,KE)::((18,yM)::Xu))
abbrev FO:Ctr D:= {ps:=[.val (.st 7), .blk 3 [.v (.int .i64)]],rs:=[vb],bk:=[(1, .blk 3 [.v (.int .i64)])],sg:=false,P:=fun x σ Q=>iw x.1 x.2.1.1 (fun r0=>Q (r0,()) (x.2.1,()) σ)}
noncomputable def c43:Code:=Tryz.f43.body.getD .skip
def A43:Ann:=(sl s2)
abbrev YO (Q:QT FO):Pts D:=Pts.no
abbrev Bp:Ctrs D:=((43,FO)::YN)
abbrev y8 (b:Int):=((fun x0 _ K=>iw x0 b (fun r=>K r ())):aO→Unit→(Bool→Unit→Prop)→Prop)
abbrev qw:Ctr D:= {ps:=[.rd (.st 7), .fn 43 [(3,[.v (.int .i64)])]],rs:=[vi],bk:=[],sg:=false,P:=fun x σ Q=>av (y8 (x.2.1.1.1)) x.1 () (fun r0 _=>Q (r0,()) () σ)}
noncomputable def N1:Code:=Tryz.f42.body.getD .skip
def N2:Ann:=(sl (.seq (sl (.block (.loop 1 [0,1,7,8] (sl (.seq (.cond lf lf) (.seq (.block (sl (sl (.cond s2 lf)))) lf)))))) s2))
abbrev xL:Nat→List Ds
  | 1=>[.rd (.st 7), .fn 43 [(3,[.v (.int .i64)])],vi,vi]
  | _=>[]
abbrev KX: ∀ k,av.V × Int→TupD D (xL k)→av.V × Int
  | 1,c,t=>({c.1 with s0:=t.1,v7:=t.2.2.1,v8:=t.2.2.2.1},(t.2.1.1.1))
  | _,c,_=>c
abbrev KY: ∀ k,av.V × Int→TupD D (xL k)
  | 1,c=>(c.1.s0,((c.2,()),()),c.1.v7,c.1.v8,())
  | 0,c=>()
  | _+2,c=>()
abbrev FP (Q:av.QT Unit) (b:Int):Nat→List (av.V→Unit→Prop)→av.V→Unit→Prop
  | 1,[S1],c,z=>av.B1 (y8 b) S1 Q c z
  | _,_,_,_=>False
abbrev KZ (Q:QT qw):Pts D:=Pts.mkB xL KX KY (by intro k b t; match k,t with | 0,t | 1,t | _+2,t=>rfl) (fun b σ=>FP (fun r0 _=>Q (r0,()) () σ) b)
abbrev YP:Ctrs D:=((42,qw)::Bp)
abbrev Bc:Ctr D:= {ps:=[.rd (.st 7),vi],rs:=[.own (.st 6),vb],bk:=[],sg:=false,P:=fun x σ Q=>eX x.1 x.2.1 (fun r0 r1=>Q (r0,r1,()) (()) σ)}
noncomputable def c19:Code:=Tryz.f19.body.getD .skip
def A19:Ann:=(sl (sl (.seq (sl (.cond s2 lf)) s2)))
abbrev YQ (Q:QT Bc):Pts D:=Pts.no
abbrev YR:Ctrs D:=((19,Bc)::YP)
abbrev FQ:Ctr D:= {ps:=[.val (.st 0)],rs:=[vi],bk:=[],sg:=false,P:=fun x σ Q=>iB x.1 (fun r0=>Q (r0,()) (()) σ)}
noncomputable def c38:Code:=Tryz.f38.body.getD .skip
def A38:Ann:=(sl (.seq (sl (.cond s2 lf)) s2))
abbrev YS (Q:QT FQ):Pts D:=Pts.no
abbrev YT:Ctrs D:=((38,FQ)::YR)
abbrev Bd:Ctr D:= {ps:=[.val (.st 6)],rs:=[vb],bk:=[],sg:=false,P:=fun x σ Q=>dV x.1 (fun r0=>Q (r0,()) (()) σ)}
noncomputable def c17:Code:=Tryz.f17.body.getD .skip
def A17:Ann:=(sl s2)
abbrev YU (Q:QT Bd):Pts D:=Pts.no
abbrev YV:Ctrs D:=((17,Bd)::YT)
abbrev FT:Ctr D:= {ps:=[.val (.st 6)],rs:=[vb],bk:=[],sg:=false,P:=fun x σ Q=>gN x.1 (fun r0=>Q (r0,()) (()) σ)}
noncomputable def c39:Code:=Tryz.f39.body.getD .skip
def A39:Ann:=(sl s2)
abbrev YW (Q:QT FT):Pts D:=Pts.no
abbrev YX:Ctrs D:=((39,FT)::YV)
abbrev FU:Ctr D:= {ps:=[.val (.st 0),vi],rs:=[.own (.int .i64)],bk:=[],sg:=false,P:=fun x σ Q=>cx x.1 x.2.1 (fun r0=>Q (r0,()) (()) σ)}
noncomputable def c40:Code:=Tryz.f40.body.getD .skip
def A40:Ann:=(sl (sl (.seq (sl (.cond s2 lf)) (.seq (.plan (.take 0 [] (.take 1 [] (.take 2 [] (.take 3 [] (.take 4 [] (.take 5 [] (.take 6 [] (.take 7 [] (.take 8 [] (.take 9 [] (.take 10 [] (.take 11 [] (.take 12 [] (.take 13 [] (.take 14 [] (.take 15 [] .done))))))))))))))))) (sl (.seq (sl (.block (.loop 1 [2,5,6,7,8] (.seq (sl (.cond lf lf)) (.seq (.block lf) lf))))) s2))))))
abbrev N3:Nat→List Ds
  | 1=>[.blk 32 [.v (.st 0)],vi,vi, .own (.int .i64),vi]
  | _=>[]
abbrev YY: ∀ k,cx.V→TupD D (N3 k)→cx.V
  | 1,c,t=> {c with s2:=t.1.1,uv:=t.2.1,gW:=t.2.2.1,l7:=t.2.2.2.1,k8:=t.2.2.2.2.1}
  | _,c,_=>c
abbrev YZ: ∀ k,cx.V→TupD D (N3 k)
  | 1,c=>((c.s2,()),c.uv,c.gW,c.l7,c.k8,())
  | 0,c=>()
  | _+2,c=>()
abbrev Sb (Q:cx.QT):Nat→List (cx.V→Prop)→cx.V→Prop
  | 1,[S1],c=>cx.B1 S1 Q c
  | _,_,_=>False
abbrev Y0 (Q:QT FU):Pts D:=Pts.kn N3 YY YZ (by intro k b t; match k,t with | 0,t | 1,t | _+2,t=>rfl) (fun σ=>Sb (fun r0=>Q (r0,()) (()) σ))
abbrev Bq:Ctrs D:=((40,FU)::YX)
abbrev y9 (b:Unit):=((fun x0 _ K=>gN x0 (fun r=>K r ())):aF→Unit→(Bool→Unit→Prop)→Prop)
abbrev qx:Ctr D:= {ps:=[.rd (.st 6), .fn 39 []],rs:=[vi],bk:=[],sg:=false,P:=fun x σ Q=>aA (y9 ()) x.1 () (fun r0 _=>Q (r0,()) () σ)}
noncomputable def N4:Code:=Tryz.f58.body.getD .skip
def N5:Ann:=(sl (.seq (sl (.block (.loop 1 [0,1,7,8] (sl (.seq (.cond lf lf) (.seq (.block (sl (sl (.cond s2 lf)))) lf)))))) s2))
abbrev xM:Nat→List Ds
  | 1=>[.rd (.st 6), .fn 39 [],vi,vi]
  | _=>[]
abbrev K0: ∀ k,aA.V × Unit→TupD D (xM k)→aA.V × Unit
  | 1,c,t=>({c.1 with s0:=t.1,v7:=t.2.2.1,v8:=t.2.2.2.1},())
  | _,c,_=>c
abbrev La: ∀ k,aA.V × Unit→TupD D (xM k)
  | 1,c=>(c.1.s0,(()),c.1.v7,c.1.v8,())
  | 0,c=>()
  | _+2,c=>()
abbrev FV (Q:aA.QT Unit) (b:Unit):Nat→List (aA.V→Unit→Prop)→aA.V→Unit→Prop
  | 1,[S1],c,z=>aA.B1 (y9 b) S1 Q c z
  | _,_,_,_=>False
abbrev Lb (Q:QT qx):Pts D:=Pts.mkB xM K0 La (by intro k b t; match k,t with | 0,t | 1,t | _+2,t=>rfl) (fun b σ=>FV (fun r0 _=>Q (r0,()) () σ) b)
abbrev Br:Ctrs D:=((58,qx)::Bq)
abbrev FW (b:Unit):=((fun x0 _ K=>gN x0 (fun r=>K r ())):aF→Unit→(Bool→Unit→Prop)→Prop)
abbrev qy:Ctr D:= {ps:=[.rd (.st 6), .fn 39 []],rs:=[vb],bk:=[],sg:=false,P:=fun x σ Q=>dK (FW ()) x.1 () (fun r0 _=>Q (r0,()) () σ)}
noncomputable def N6:Code:=Tryz.f41.body.getD .skip
def N7:Ann:=(sl s2)
abbrev Lc (Q:QT qy):Pts D:=Pts.no
abbrev Y5:Ctrs D:=((41,qy)::Br)
abbrev Be:Ctr D:= {ps:=[.val (.st 0), .rd (.st 7), .rd (.st 5)],rs:=[vb],bk:=[],sg:=false,P:=fun x σ Q=>bJ x.1 x.2.1 x.2.2.1 (fun r0=>Q (r0,()) (()) σ)}
noncomputable def c16:Code:=Tryz.f16.body.getD .skip
def A16:Ann:=(sl (sl (.seq (sl (.block (.loop 1 [1,2,3,7,15,16,17] (sl (.seq (.cond lf lf) (.seq (.block (sl (.seq (.join 2 [1,2,3,9,15,16,17,37] (.plan (.take 0 [8] (.take 1 [8] (.take 2 [8] (.take 3 [8] (.take 4 [8] (.take 5 [] (.take 6 [] (.take 7 [8] (.all (.alt 8 (.take 9 [] (.take 10 [] (.take 11 [] (.take 12 [] (.take 13 [] (.take 14 [] (.take 15 [] (.take 16 [] .done)))))))) .nil))))))))))) (.cond s2 lf)) lf))) lf)))))) (.seq (.seq (.plan (.take 0 [3] (.take 1 [2,3] (.take 5 [] (.all (.alt 2 (.all (.alt 3 (.take 4 [] .done) .nil)) .nil)))))) (.block (.loop 3 [1,3,44,45,46] (sl (.seq (.cond lf lf) (.seq (.block (sl (sl (sl (.join 4 [1,3,44,45,46,71] lf (.cond s2 lf)))))) lf)))))) s2))))
abbrev N8:Nat→List Ds
  | 1=>[.rd (.st 7), .rd (.st 5), .blk 32 [.v (.st 0)],vi, .rd (.st 5),vi,vi]
  | 2=>[.rd (.st 7), .rd (.st 5), .blk 32 [.v (.st 0)], .blk 68 [.v (.st 5)], .rd (.st 5),vi,vi,vb]
  | 3=>[.rd (.st 7), .blk 32 [.v (.st 0)], .own (.int .i64),vi,vi]
  | 4=>[.rd (.st 7), .blk 32 [.v (.st 0)], .own (.int .i64),vi,vi,vb]
  | _=>[]
abbrev Y6: ∀ k,bJ.V→TupD D (N8 k)→bJ.V
  | 1,c,t=> {c with eO:=t.1,dN:=t.2.1,s3:=t.2.2.1.1,mg:=t.2.2.2.1,nw:=t.2.2.2.2.1,ej:=t.2.2.2.2.2.1,kD:=t.2.2.2.2.2.2.1}
  | 2,c,t=> {c with eO:=t.1,dN:=t.2.1,s3:=t.2.2.1.1,c9:=t.2.2.2.1.1,nw:=t.2.2.2.2.1,ej:=t.2.2.2.2.2.1,kD:=t.2.2.2.2.2.2.1,v37:=t.2.2.2.2.2.2.2.1}
  | 3,c,t=> {c with eO:=t.1,s3:=t.2.1.1,nS:=t.2.2.1,yH:=t.2.2.2.1,v46:=t.2.2.2.2.1}
  | 4,c,t=> {c with eO:=t.1,s3:=t.2.1.1,nS:=t.2.2.1,yH:=t.2.2.2.1,v46:=t.2.2.2.2.1,nA:=t.2.2.2.2.2.1}
  | _,c,_=>c
abbrev Y7: ∀ k,bJ.V→TupD D (N8 k)
  | 1,c=>(c.eO,c.dN,(c.s3,()),c.mg,c.nw,c.ej,c.kD,())
  | 2,c=>(c.eO,c.dN,(c.s3,()),(c.c9,()),c.nw,c.ej,c.kD,c.v37,())
  | 3,c=>(c.eO,(c.s3,()),c.nS,c.yH,c.v46,())
  | 4,c=>(c.eO,(c.s3,()),c.nS,c.yH,c.v46,c.nA,())
  | 0,c=>()
  | _+5,c=>()
abbrev Sc (Q:bJ.QT):Nat→List (bJ.V→Prop)→bJ.V→Prop
  | 1,[S1],c=>bJ.B1 S1 Q c
  | 2,[S1],c=>bJ.K2 S1 Q c
  | 3,[S3],c=>bJ.B3 S3 Q c
  | 4,[S3],c=>bJ.K4 S3 Q c
  | _,_,_=>False
abbrev Y8 (Q:QT Be):Pts D:=Pts.kn N8 Y6 Y7 (by intro k b t; match k,t with | 0,t | 1,t | 2,t | 3,t | 4,t | _+5,t=>rfl) (fun σ=>Sc (fun r0=>Q (r0,()) (()) σ))
abbrev Y9:Ctrs D:=((16,Be)::Y5)
abbrev Bf:Ctr D:= {ps:=[.val (.st 0),vi,vi],rs:=[vi],bk:=[],sg:=false,P:=fun x σ Q=>aS x.1 x.2.1 x.2.2.1 (fun r0=>Q (r0,()) (()) σ)}
noncomputable def c45:Code:=Tryz.f45.body.getD .skip
def A45:Ann:=(sl (.seq (.join 1 [1,2,18] lf (.cond s2 lf)) s2))
abbrev N9:Nat→List Ds
  | 1=>[vi,vi,vb]
  | _=>[]
abbrev Za: ∀ k,aS.V→TupD D (N9 k)→aS.V
  | 1,c,t=> {c with bA:=t.1,dg:=t.2.1,jO:=t.2.2.1}
  | _,c,_=>c
abbrev Zb: ∀ k,aS.V→TupD D (N9 k)
  | 1,c=>(c.bA,c.dg,c.jO,())
  | 0,c=>()
  | _+2,c=>()
abbrev Se (Q:aS.QT):Nat→List (aS.V→Prop)→aS.V→Prop
  | 1,[],c=>aS.K1 Q c
  | _,_,_=>False
abbrev Zc (Q:QT Bf):Pts D:=Pts.kn N9 Za Zb (by intro k b t; match k,t with | 0,t | 1,t | _+2,t=>rfl) (fun σ=>Se (fun r0=>Q (r0,()) (()) σ))
abbrev Oa:Ctrs D:=((45,Bf)::Y9)
abbrev za:Ctr D:= {ps:=[rb],rs:=[vu],bk:=[],sg:=false,P:=fun x σ Q=>iH x.1 (fun r0=>Q (r0,()) (()) σ)}
noncomputable def Zd:Code:=Tryz.f116.body.getD .skip
def Ze:Ann:=(sl (.seq (.plan (.take 0 [] (.take 1 [] (.take 2 [] (.take 3 [] (.take 4 [] (.take 5 [] (.take 6 [] (.take 7 [] (.take 8 [] (.take 9 [] (.take 10 [] (.take 11 [] (.take 12 [] (.take 13 [] (.take 14 [] (.take 15 [] (.take 16 [] (.take 17 [] (.take 18 [] (.take 19 [] (.take 20 [] (.take 21 [] (.take 22 [] .done)))))))))))))))))))))))) lf))
abbrev Sf (Q:QT za):Pts D:=Pts.no
abbrev Ob:Ctrs D:=((116,za)::Oa)
abbrev tZ:Ctr D:= {ps:=[.val (.vec .u8 32), .val (.vec .u8 12),vu],rs:=[.val (.vec .u32 16)],bk:=[],sg:=false,P:=fun x σ Q=>aT x.1 x.2.1 x.2.2.1 (fun r0=>Q (r0,()) (()) σ)}
noncomputable def Zf:Code:=Tryz.f107.body.getD .skip
def Zg:Ann:=(sl (sl (.seq (sl (.block (.loop 1 [2,3,4,6,7,11] (sl (.seq (.cond lf lf) (.seq (.block s2) lf)))))) (sl (.seq (sl (.block (.loop 2 [4,6,7,24] (sl (.seq (.cond lf lf) (.seq (.block s2) lf)))))) s2)))))
abbrev FX:Nat→List Ds
  | 1=>[vu, .blk 22 [.v (.vec .u8 32)], .blk 130 [.v (.vec .u8 12)], .blk 176 [.v (.vec .u32 16)], .blk 176 [.v (.vec .u32 16)],vi]
  | 2=>[.blk 130 [.v (.vec .u8 12)], .blk 176 [.v (.vec .u32 16)], .blk 176 [.v (.vec .u32 16)],vi]
  | _=>[]
abbrev Sg: ∀ k,aT.V→TupD D (FX k)→aT.V
  | 1,c,t=> {c with bM:=t.1,qo:=t.2.1.1,gC:=t.2.2.1.1,v6:=t.2.2.2.1.1,w7:=t.2.2.2.2.1.1,v11:=t.2.2.2.2.2.1}
  | 2,c,t=> {c with gC:=t.1.1,v6:=t.2.1.1,w7:=t.2.2.1.1,v24:=t.2.2.2.1}
  | _,c,_=>c
abbrev Sh: ∀ k,aT.V→TupD D (FX k)
  | 1,c=>(c.bM,(c.qo,()),(c.gC,()),(c.v6,()),(c.w7,()),c.v11,())
  | 2,c=>((c.gC,()),(c.v6,()),(c.w7,()),c.v24,())
  | 0,c=>()
  | _+3,c=>()
abbrev Oc (Q:aT.QT):Nat→List (aT.V→Prop)→aT.V→Prop
  | 1,[S1],c=>aT.B1 S1 Q c
  | 2,[S2],c=>aT.B2 S2 Q c
  | _,_,_=>False
abbrev Si (Q:QT tZ):Pts D:=Pts.kn FX Sg Sh (by intro k b t; match k,t with | 0,t | 1,t | 2,t | _+3,t=>rfl) (fun σ=>Oc (fun r0=>Q (r0,()) (()) σ))
abbrev Od:Ctrs D:=((107,tZ)::Ob)
abbrev zb:Ctr D:= {ps:=[vu,vi],rs:=[vu],bk:=[],sg:=false,P:=fun x σ Q=>dU x.1 x.2.1 (fun r0=>Q (r0,()) (()) σ)}
noncomputable def Zh:Code:=Tryz.f118.body.getD .skip
def Zi:Ann:=(sl (sl s2))
abbrev Sj (Q:QT zb):Pts D:=Pts.no
abbrev Oe:Ctrs D:=((118,zb)::Od)
abbrev zc:Ctr D:= {ps:=[vi,vi,vi,vi, .blk 178 [.v (.vec .u32 4)]],rs:=[],bk:=[(4, .blk 178 [.v (.vec .u32 4)])],sg:=false,P:=fun x σ Q=>dP x.1 x.2.1 x.2.2.1 x.2.2.2.1 x.2.2.2.2.1.1 (fun z0=>Q (()) ((z0,()),()) σ)}
noncomputable def Zj:Code:=Tryz.f117.body.getD .skip
def Zk:Ann:=(.seq (.plan (.take 0 [8] (.take 1 [8] (.take 2 [8] (.take 3 [8] (.take 4 [8] (.take 5 [8] (.take 6 [8] (.take 7 [8] (.all (.alt 8 .done .nil))))))))))) (.plan (.take 0 [11] (.take 1 [9,11] (.take 2 [9,11] (.take 3 [9,11] (.take 4 [9,11] (.take 5 [9,11] (.take 6 [9,11] (.take 7 [9,11] (.take 8 [9,11] (.all (.alt 9 (.take 10 [11] (.all (.alt 11 .done .nil))) .nil)))))))))))))
abbrev Sk (Q:QT zc):Pts D:=Pts.no
abbrev Ld:Ctrs D:=((117,zc)::Oe)
abbrev sB:Ctr D:= {ps:=[.val (.vec .u32 4)],rs:=[.val (.vec .u32 4)],bk:=[],sg:=false,P:=fun x σ Q=>dG x.1 (fun r0=>Q (r0,()) (()) σ)}
noncomputable def Zl:Code:=Tryz.f109.body.getD .skip
def Zm:Ann:=(sl (sl (sl (sl (sl (sl s2))))))
abbrev Sm (Q:QT sB):Pts D:=Pts.no
abbrev KF:Ctr D:= {ps:=[.val (.vec .u8 32), .val (.vec .u8 12),vu],rs:=[.val (.vec .u8 64)],bk:=[],sg:=false,P:=fun x σ Q=>ay x.1 x.2.1 x.2.2.1 (fun r0=>Q (r0,()) (()) σ)}
abbrev Zn:Ctrs D:=((95,KF)::((109,sB)::Ld))
abbrev FY:Ctr D:= {ps:=[.val (.vec .u8 32), .val (.vec .u8 12),vu,rb],rs:=[.own (.int .u8)],bk:=[],sg:=false,P:=fun x σ Q=>bI x.1 x.2.1 x.2.2.1 x.2.2.2.1 (fun r0=>Q (r0,()) (()) σ)}
noncomputable def c75:Code:=Tryz.f75.body.getD .skip
def A75:Ann:=(sl (sl (.seq (sl (.block (.loop 1 [2,4,5,9,10] (.seq (sl (.cond lf lf)) (.seq (.block (sl (.seq (sl (.block (.loop 2 [2,4,5,9,10,11,34,35] (sl (.seq (.cond lf lf) (.seq (.block (sl (.plan (.take 0 [11] (.take 1 [11] (.take 2 [11] (.take 3 [11] (.take 4 [11] (.take 5 [11] (.take 6 [11] (.take 7 [11] (.take 8 [11] (.take 9 [11] (.take 10 [11] (.all (.alt 11 .done .nil)))))))))))))))) lf)))))) lf))) lf))))) s2)))
abbrev Of:Nat→List Ds
  | 1=>[vu, .blk 22 [.v (.vec .u8 32)], .blk 130 [.v (.vec .u8 12)], .own (.int .u8),vi]
  | 2=>[vu, .blk 22 [.v (.vec .u8 32)], .blk 130 [.v (.vec .u8 12)], .own (.int .u8),vi, .blk 160 [.v (.vec .u8 64)],vi,vi]
  | _=>[]
abbrev Zo: ∀ k,bI.V→TupD D (Of k)→bI.V
  | 1,c,t=> {c with bM:=t.1,jS:=t.2.1.1,iI:=t.2.2.1.1,gE:=t.2.2.2.1,iJ:=t.2.2.2.2.1}
  | 2,c,t=> {c with bM:=t.1,jS:=t.2.1.1,iI:=t.2.2.1.1,gE:=t.2.2.2.1,iJ:=t.2.2.2.2.1,RV:=t.2.2.2.2.2.1.1,Rl:=t.2.2.2.2.2.2.1,jB:=t.2.2.2.2.2.2.2.1}
  | _,c,_=>c
abbrev Zp: ∀ k,bI.V→TupD D (Of k)
  | 1,c=>(c.bM,(c.jS,()),(c.iI,()),c.gE,c.iJ,())
  | 2,c=>(c.bM,(c.jS,()),(c.iI,()),c.gE,c.iJ,(c.RV,()),c.Rl,c.jB,())
  | 0,c=>()
  | _+3,c=>()
abbrev Sn (Q:bI.QT):Nat→List (bI.V→Prop)→bI.V→Prop
  | 1,[S1],c=>bI.B1 S1 Q c
  | 2,[S2,S1],c=>bI.B2 S1 S2 Q c
  | _,_,_=>False
abbrev Zq (Q:QT FY):Pts D:=Pts.kn Of Zo Zp (by intro k b t; match k,t with | 0,t | 1,t | 2,t | _+3,t=>rfl) (fun σ=>Sn (fun r0=>Q (r0,()) (()) σ))
abbrev Zr:Ctrs D:=((75,FY)::Zn)
abbrev FZ:Ctr D:= {ps:=[vu, .val (.int .u64)],rs:=[.val (.vec .u8 12)],bk:=[],sg:=false,P:=fun x σ Q=>bX x.1 x.2.1 (fun r0=>Q (r0,()) (()) σ)}
noncomputable def c76:Code:=Tryz.f76.body.getD .skip
def A76:Ann:=(sl (sl (.seq (sl (.block (.loop 1 [0,1,4,5,7] (sl (.seq (.cond lf lf) (.join 2 [0,1,4,5,7] (.block (sl (sl (.cond lf lf)))) lf)))))) s2)))
abbrev Og:Nat→List Ds
  | 1=>[vu, .val (.int .u64), .blk 130 [.v (.vec .u8 12)], .blk 130 [.v (.vec .u8 12)],vi]
  | 2=>[vu, .val (.int .u64), .blk 130 [.v (.vec .u8 12)], .blk 130 [.v (.vec .u8 12)],vi]
  | _=>[]
abbrev Zs: ∀ k,bX.V→TupD D (Og k)→bX.V
  | 1,c,t=> {c with iz:=t.1,gu:=t.2.1,v4:=t.2.2.1.1,n5:=t.2.2.2.1.1,v7:=t.2.2.2.2.1}
  | 2,c,t=> {c with iz:=t.1,gu:=t.2.1,v4:=t.2.2.1.1,n5:=t.2.2.2.1.1,v7:=t.2.2.2.2.1}
  | _,c,_=>c
abbrev Zt: ∀ k,bX.V→TupD D (Og k)
  | 1,c=>(c.iz,c.gu,(c.v4,()),(c.n5,()),c.v7,())
  | 2,c=>(c.iz,c.gu,(c.v4,()),(c.n5,()),c.v7,())
  | 0,c=>()
  | _+3,c=>()
abbrev Sp (Q:bX.QT):Nat→List (bX.V→Prop)→bX.V→Prop
  | 1,[S1],c=>bX.B1 S1 Q c
  | 2,[S1],c=>bX.K2 S1 Q c
  | _,_,_=>False
abbrev Zu (Q:QT FZ):Pts D:=Pts.kn Og Zs Zt (by intro k b t; match k,t with | 0,t | 1,t | 2,t | _+3,t=>rfl) (fun σ=>Sp (fun r0=>Q (r0,()) (()) σ))
abbrev Zv:Ctrs D:=((76,FZ)::Zr)
abbrev F5:Ctr D:= {ps:=[.val (.vec .u8 32),vu,vi,rb],rs:=[.own (.int .u8),vi],bk:=[],sg:=false,P:=fun x σ Q=>dF x.1 x.2.1 x.2.2.1 x.2.2.2.1 (fun r0 r1=>Q (r0,r1,()) (()) σ)}
noncomputable def c60:Code:=Tryz.f60.body.getD .skip
def A60:Ann:=(sl (.seq (.join 1 [1,2,3,4,16] lf (.cond s2 lf)) (.seq (.plan (.take 0 [6] (.take 1 [4,6] (.take 2 [4,6] (.take 3 [4,6] (.take 5 [6] (.all (.alt 4 (.all (.alt 6 (.take 7 [] (.take 8 [] .done)) .nil)) .nil)))))))) lf)))
abbrev Oh:Nat→List Ds
  | 1=>[vu,vi,rb, .blk 22 [.v (.vec .u8 32)],vb]
  | _=>[]
abbrev Zw: ∀ k,dF.V→TupD D (Oh k)→dF.V
  | 1,c,t=> {c with cT:=t.1,gO:=t.2.1,jU:=t.2.2.1,jS:=t.2.2.2.1.1,ej:=t.2.2.2.2.1}
  | _,c,_=>c
abbrev Zx: ∀ k,dF.V→TupD D (Oh k)
  | 1,c=>(c.cT,c.gO,c.jU,(c.jS,()),c.ej,())
  | 0,c=>()
  | _+2,c=>()
abbrev Sq (Q:dF.QT):Nat→List (dF.V→Prop)→dF.V→Prop
  | 1,[],c=>dF.K1 Q c
  | _,_,_=>False
abbrev Zy (Q:QT F5):Pts D:=Pts.kn Oh Zw Zx (by intro k b t; match k,t with | 0,t | 1,t | _+2,t=>rfl) (fun σ=>Sq (fun r0 r1=>Q (r0,r1,()) (()) σ))
abbrev Xv:Ctrs D:=((60,F5)::Zv)
abbrev Em:Ctr D:= {ps:=[vi],rs:=[vb],bk:=[],sg:=false,P:=fun x σ Q=>lg x.1 (fun r0=>Q (r0,()) (()) σ)}
noncomputable def c61:Code:=Tryz.f61.body.getD .skip
def A61:Ann:=(sl s2)
abbrev Zz (Q:QT Em):Pts D:=Pts.no
abbrev KG:Ctr D:= {ps:=[rb],rs:=[.own (.int .u8)],bk:=[],sg:=false,P:=fun x σ Q=>fA x.1 (fun r0=>Q (r0,()) (()) σ)}
abbrev ZA:Ctrs D:=((64,KG)::((61,Em)::Xv))
abbrev F6:Ctr D:= {ps:=[],rs:=[.val (.st 8)],bk:=[],sg:=false,P:=fun x σ Q=>tw (fun r0=>Q (r0,()) (()) σ)}
noncomputable def c96:Code:=Tryz.f96.body.getD .skip
def A96:Ann:=(sl s2)
abbrev ZB (Q:QT F6):Pts D:=Pts.no
abbrev Oi:Ctrs D:=((96,F6)::ZA)
abbrev ze:Ctr D:= {ps:=[],rs:=[.val (.vec .u32 8)],bk:=[],sg:=false,P:=fun x σ Q=>wI (fun r0=>Q (r0,()) (()) σ)}
noncomputable def ZC:Code:=Tryz.f110.body.getD .skip
def ZD:Ann:=(sl s2)
abbrev Sr (Q:QT ze):Pts D:=Pts.no
abbrev Oj:Ctrs D:=((110,ze)::Oi)
abbrev zf:Ctr D:= {ps:=[vu,vi],rs:=[vu],bk:=[],sg:=false,P:=fun x σ Q=>gn x.1 x.2.1 (fun r0=>Q (r0,()) (()) σ)}
noncomputable def ZE:Code:=Tryz.f121.body.getD .skip
def ZF:Ann:=(sl s2)
abbrev Su (Q:QT zf):Pts D:=Pts.no
abbrev Ol:Ctrs D:=((121,zf)::Oj)
abbrev zg:Ctr D:= {ps:=[rb],rs:=[vu],bk:=[],sg:=false,P:=fun x σ Q=>cX x.1 (fun r0=>Q (r0,()) (()) σ)}
noncomputable def ZG:Code:=Tryz.f123.body.getD .skip
def ZH:Ann:=(sl (sl (.seq (sl (.block (.loop 1 [3,6,7,8] (sl (.seq (.cond lf lf) (.seq (.block s2) lf)))))) s2)))
abbrev F7:Nat→List Ds
  | 1=>[vu,rb,vi,vi]
  | _=>[]
abbrev Sv: ∀ k,cX.V→TupD D (F7 k)→cX.V
  | 1,c,t=> {c with w3:=t.1,v6:=t.2.1,v7:=t.2.2.1,v8:=t.2.2.2.1}
  | _,c,_=>c
abbrev Sw: ∀ k,cX.V→TupD D (F7 k)
  | 1,c=>(c.w3,c.v6,c.v7,c.v8,())
  | 0,c=>()
  | _+2,c=>()
abbrev Om (Q:cX.QT):Nat→List (cX.V→Prop)→cX.V→Prop
  | 1,[S1],c=>cX.B1 S1 Q c
  | _,_,_=>False
abbrev Sx (Q:QT zg):Pts D:=Pts.kn F7 Sv Sw (by intro k b t; match k,t with | 0,t | 1,t | _+2,t=>rfl) (fun σ=>Om (fun r0=>Q (r0,()) (()) σ))
abbrev On:Ctrs D:=((123,zg)::Ol)
abbrev zh:Ctr D:= {ps:=[rb],rs:=[.val (.vec .u32 64)],bk:=[],sg:=false,P:=fun x σ Q=>cu x.1 (fun r0=>Q (r0,()) (()) σ)}
noncomputable def ZI:Code:=Tryz.f119.body.getD .skip
def ZJ:Ann:=(sl (sl (.seq (sl (.block (.loop 1 [0,2,3,9] (sl (.seq (.cond lf lf) (.join 2 [0,2,3,9] (.block (sl (.seq (sl (.cond s2 lf)) (.seq (.plan (.take 0 [] (.take 1 [] (.take 2 [] (.take 3 [] (.take 4 [] (.take 5 [] (.take 6 [] (.take 7 [] (.take 8 [] (.take 9 [] .done))))))))))) (sl (sl (.plan (.take 0 [15] (.take 1 [15] (.take 2 [15] (.take 3 [15] (.take 4 [15] (.take 5 [15] (.take 6 [15] (.take 7 [15] (.take 8 [15] (.take 9 [15] (.take 10 [15] (.take 11 [15] (.take 12 [15] (.take 13 [15] (.take 14 [15] (.all (.alt 15 .done .nil)))))))))))))))))))))))) lf)))))) s2)))
abbrev F8:Nat→List Ds
  | 1=>[rb, .blk 189 [.v (.vec .u32 64)], .blk 189 [.v (.vec .u32 64)],vi]
  | 2=>[rb, .blk 189 [.v (.vec .u32 64)], .blk 189 [.v (.vec .u32 64)],vi]
  | _=>[]
abbrev Sy: ∀ k,cu.V→TupD D (F8 k)→cu.V
  | 1,c,t=> {c with b0:=t.1,v2:=t.2.1.1,w3:=t.2.2.1.1,v9:=t.2.2.2.1}
  | 2,c,t=> {c with b0:=t.1,v2:=t.2.1.1,w3:=t.2.2.1.1,v9:=t.2.2.2.1}
  | _,c,_=>c
abbrev Sz: ∀ k,cu.V→TupD D (F8 k)
  | 1,c=>(c.b0,(c.v2,()),(c.w3,()),c.v9,())
  | 2,c=>(c.b0,(c.v2,()),(c.w3,()),c.v9,())
  | 0,c=>()
  | _+3,c=>()
abbrev Oo (Q:cu.QT):Nat→List (cu.V→Prop)→cu.V→Prop
  | 1,[S1],c=>cu.B1 S1 Q c
  | 2,[S1],c=>cu.K2 S1 Q c
  | _,_,_=>False
abbrev SA (Q:QT zh):Pts D:=Pts.kn F8 Sy Sz (by intro k b t; match k,t with | 0,t | 1,t | 2,t | _+3,t=>rfl) (fun σ=>Oo (fun r0=>Q (r0,()) (()) σ))
abbrev Oq:Ctrs D:=((119,zh)::On)
abbrev zi:Ctr D:= {ps:=[],rs:=[.val (.vec .u32 64)],bk:=[],sg:=false,P:=fun x σ Q=>pG (fun r0=>Q (r0,()) (()) σ)}
noncomputable def ZK:Code:=Tryz.f120.body.getD .skip
def ZL:Ann:=(sl s2)
abbrev SB (Q:QT zi):Pts D:=Pts.no
abbrev Ot:Ctrs D:=((120,zi)::Oq)
abbrev zj:Ctr D:= {ps:=[.val (.vec .u32 8),rb],rs:=[.val (.vec .u32 8)],bk:=[],sg:=false,P:=fun x σ Q=>cq x.1 x.2.1 (fun r0=>Q (r0,()) (()) σ)}
noncomputable def ZM:Code:=Tryz.f111.body.getD .skip
def ZN:Ann:=(sl (sl (sl (.seq (sl (.block (.loop 1 [2,4,5,6,7,18] (sl (.seq (.cond lf lf) (.seq (.block (sl (.seq (.plan (.take 0 [] (.take 1 [] (.take 2 [] (.take 3 [] (.take 4 [] (.take 5 [] .done))))))) (.seq (.plan (.take 0 [] (.take 1 [] (.take 2 [3,5,8] (.take 4 [5,8] (.take 7 [8] (.take 11 [] (.take 12 [] (.take 13 [] (.take 14 [] (.take 15 [] (.take 16 [] (.take 17 [] (.take 18 [] (.take 19 [] (.take 20 [] (.take 22 [] (.take 23 [] (.take 24 [] (.take 26 [] (.take 27 [] (.take 28 [] (.all (.alt 3 (.all (.alt 5 (.take 6 [] (.all (.alt 8 (.take 9 [] (.take 10 [] (.take 21 [] (.take 25 [] (.take 29 [] (.take 30 [] .done)))))) .nil))) .nil)) .nil)))))))))))))))))))))))) (.seq (.plan (.take 0 [1,3,6] (.take 2 [3,6] (.take 5 [6] (.take 8 [] (.take 9 [] (.take 10 [] (.take 11 [] (.take 12 [] (.take 13 [] (.take 14 [] (.take 15 [] (.take 16 [] (.take 17 [] (.take 18 [] (.take 19 [] (.take 20 [] (.take 21 [] (.take 22 [] (.all (.alt 1 (.all (.alt 3 (.take 4 [] (.all (.alt 6 (.take 7 [] (.take 23 [] (.take 24 [] .done))) .nil))) .nil)) .nil))))))))))))))))))))) (.seq (.plan (.take 0 [2] (.take 1 [2] (.all (.alt 2 .done .nil))))) s2)))))) lf)))))) (.seq (sl (.block (.loop 2 [2,4,7,92] (sl (.seq (.cond lf lf) (.seq (.block (sl (.plan (.take 0 [8] (.take 1 [8] (.take 2 [8] (.take 3 [8] (.take 4 [8] (.take 5 [8] (.take 6 [8] (.take 7 [8] (.all (.alt 8 .done .nil))))))))))))) lf)))))) s2)))))
abbrev F9:Nat→List Ds
  | 1=>[.blk 162 [.v (.vec .u32 8)], .blk 162 [.v (.vec .u32 8)], .blk 189 [.v (.vec .u32 64)], .blk 189 [.v (.vec .u32 64)], .blk 162 [.v (.vec .u32 8)],vi]
  | 2=>[.blk 162 [.v (.vec .u32 8)], .blk 162 [.v (.vec .u32 8)], .blk 162 [.v (.vec .u32 8)],vi]
  | _=>[]
abbrev SC: ∀ k,cq.V→TupD D (F9 k)→cq.V
  | 1,c,t=> {c with h2:=t.1.1,v4:=t.2.1.1,w5:=t.2.2.1.1,k6:=t.2.2.2.1.1,x7:=t.2.2.2.2.1.1,jO:=t.2.2.2.2.2.1}
  | 2,c,t=> {c with h2:=t.1.1,v4:=t.2.1.1,x7:=t.2.2.1.1,zk:=t.2.2.2.1}
  | _,c,_=>c
abbrev SD: ∀ k,cq.V→TupD D (F9 k)
  | 1,c=>((c.h2,()),(c.v4,()),(c.w5,()),(c.k6,()),(c.x7,()),c.jO,())
  | 2,c=>((c.h2,()),(c.v4,()),(c.x7,()),c.zk,())
  | 0,c=>()
  | _+3,c=>()
abbrev Ou (Q:cq.QT):Nat→List (cq.V→Prop)→cq.V→Prop
  | 1,[S1],c=>cq.B1 S1 Q c
  | 2,[S2],c=>cq.B2 S2 Q c
  | _,_,_=>False
abbrev SE (Q:QT zj):Pts D:=Pts.kn F9 SC SD (by intro k b t; match k,t with | 0,t | 1,t | 2,t | _+3,t=>rfl) (fun σ=>Ou (fun r0=>Q (r0,()) (()) σ))
abbrev ZO:Ctrs D:=((111,zj)::Ot)
abbrev Ga:Ctr D:= {ps:=[.val (.st 8),rb],rs:=[.val (.st 8)],bk:=[],sg:=false,P:=fun x σ Q=>aJ x.1 x.2.1 (fun r0=>Q (r0,()) (()) σ)}
noncomputable def c97:Code:=Tryz.f97.body.getD .skip
def A97:Ann:=(sl (.join 3 [1,2,4] (.join 1 [1,2,4,17] lf (.cond lf lf)) (sl (sl (.seq (.block (.loop 2 [2,4,5] (.seq (sl (.cond lf lf)) (.block (.seq (.plan (.take 0 [4,6] (.take 1 [4,6] (.take 2 [4,6] (.take 3 [4,6] (.all (.alt 4 (.take 5 [6] (.all (.alt 6 .done .nil))) .nil))))))) lf))))) (sl s2))))))
abbrev Ov:Nat→List Ds
  | 3=>[rb, .blk 164 [.v (.st 8)], .blk 164 [.v (.vec .u32 8), .own (.int .u8), .v (.int .u64)]]
  | 1=>[rb, .blk 164 [.v (.st 8)], .blk 164 [.v (.vec .u32 8), .own (.int .u8), .v (.int .u64)],vb]
  | 2=>[.blk 164 [.v (.st 8)], .blk 164 [.v (.vec .u32 8), .own (.int .u8), .v (.int .u64)], .own (.int .u8)]
  | _=>[]
abbrev ZP: ∀ k,aJ.V→TupD D (Ov k)→aJ.V
  | 3,c,t=> {c with b1:=t.1,s2:=t.2.1.1,v4:=⟨t.2.2.1.1,t.2.2.1.2.1,t.2.2.1.2.2.1⟩}
  | 1,c,t=> {c with b1:=t.1,s2:=t.2.1.1,v4:=⟨t.2.2.1.1,t.2.2.1.2.1,t.2.2.1.2.2.1⟩,kD:=t.2.2.2.1}
  | 2,c,t=> {c with s2:=t.1.1,v4:=⟨t.2.1.1,t.2.1.2.1,t.2.1.2.2.1⟩,jH:=t.2.2.1}
  | _,c,_=>c
abbrev ZQ: ∀ k,aJ.V→TupD D (Ov k)
  | 3,c=>(c.b1,(c.s2,()),(c.v4.h,c.v4.rest,c.v4.n,()),())
  | 1,c=>(c.b1,(c.s2,()),(c.v4.h,c.v4.rest,c.v4.n,()),c.kD,())
  | 2,c=>((c.s2,()),(c.v4.h,c.v4.rest,c.v4.n,()),c.jH,())
  | 0,c=>()
  | _+4,c=>()
abbrev SI (Q:aJ.QT):Nat→List (aJ.V→Prop)→aJ.V→Prop
  | 3,[],c=>aJ.K3 Q c
  | 1,[],c=>aJ.K1 Q c
  | 2,[S2],c=>aJ.B2 S2 Q c
  | _,_,_=>False
abbrev ZR (Q:QT Ga):Pts D:=Pts.kn Ov ZP ZQ (by intro k b t; match k,t with | 0,t | 1,t | 2,t | 3,t | _+4,t=>rfl) (fun σ=>SI (fun r0=>Q (r0,()) (()) σ))
abbrev ZS:Ctrs D:=((97,Ga)::ZO)
abbrev Gb:Ctr D:= {ps:=[.val (.st 8)],rs:=[.val (.vec .u8 32)],bk:=[],sg:=false,P:=fun x σ Q=>aI x.1 (fun r0=>Q (r0,()) (()) σ)}
noncomputable def c98:Code:=Tryz.f98.body.getD .skip
def A98:Ann:=(sl (sl (.seq (.block (.loop 1 [1,2,3] (.seq (sl (.cond lf lf)) (.block lf)))) (.seq (sl (.block (.loop 2 [1,2,3,21] (sl (.seq (.cond lf lf) (.seq (.block s2) lf)))))) (sl (sl (.seq (sl (.block (.loop 3 [2,5,6,39] (sl (.seq (.cond lf lf) (.seq (.block s2) lf)))))) s2)))))))
abbrev Ow:Nat→List Ds
  | 1=>[.blk 164 [.v (.st 8)], .blk 22 [.v (.vec .u8 32)], .own (.int .u8)]
  | 2=>[.blk 164 [.v (.st 8)], .blk 22 [.v (.vec .u8 32)], .own (.int .u8),vi]
  | 3=>[.blk 22 [.v (.vec .u8 32)], .blk 164 [.v (.st 8)], .blk 22 [.v (.vec .u8 32)],vi]
  | _=>[]
abbrev ZT: ∀ k,aI.V→TupD D (Ow k)→aI.V
  | 1,c,t=> {c with s1:=t.1.1,v2:=t.2.1.1,lq:=t.2.2.1}
  | 2,c,t=> {c with s1:=t.1.1,v2:=t.2.1.1,lq:=t.2.2.1,v21:=t.2.2.2.1}
  | 3,c,t=> {c with v2:=t.1.1,sD:=t.2.1.1,d6:=t.2.2.1.1,zl:=t.2.2.2.1}
  | _,c,_=>c
abbrev ZU: ∀ k,aI.V→TupD D (Ow k)
  | 1,c=>((c.s1,()),(c.v2,()),c.lq,())
  | 2,c=>((c.s1,()),(c.v2,()),c.lq,c.v21,())
  | 3,c=>((c.v2,()),(c.sD,()),(c.d6,()),c.zl,())
  | 0,c=>()
  | _+4,c=>()
abbrev SJ (Q:aI.QT):Nat→List (aI.V→Prop)→aI.V→Prop
  | 1,[S1],c=>aI.B1 S1 Q c
  | 2,[S2],c=>aI.B2 S2 Q c
  | 3,[S3],c=>aI.B3 S3 Q c
  | _,_,_=>False
abbrev ZV (Q:QT Gb):Pts D:=Pts.kn Ow ZT ZU (by intro k b t; match k,t with | 0,t | 1,t | 2,t | 3,t | _+4,t=>rfl) (fun σ=>SJ (fun r0=>Q (r0,()) (()) σ))
abbrev Xw:Ctrs D:=((98,Gb)::ZS)
abbrev yN:Ctr D:= {ps:=[.rd (.list (.int .u8))],rs:=[.val (.vec .u8 32)],bk:=[],sg:=false,P:=fun x σ Q=>cZ x.1 (fun r0=>Q (r0,()) (()) σ)}
noncomputable def c77:Code:=Tryz.f77.body.getD .skip
def A77:Ann:=(sl (sl (.seq (sl (.block (.loop 1 [2,3,7,8,9] (sl (.seq (.cond lf lf) (.seq (.block s2) lf)))))) s2)))
abbrev Ox:Nat→List Ds
  | 1=>[.blk 22 [.v (.vec .u8 32)], .blk 164 [.v (.st 8)], .rd (.list (.int .u8)),vi,vi]
  | _=>[]
abbrev ZW: ∀ k,cZ.V→TupD D (Ox k)→cZ.V
  | 1,c,t=> {c with v2:=t.1.1,s3:=t.2.1.1,v7:=t.2.2.1,v8:=t.2.2.2.1,v9:=t.2.2.2.2.1}
  | _,c,_=>c
abbrev ZX: ∀ k,cZ.V→TupD D (Ox k)
  | 1,c=>((c.v2,()),(c.s3,()),c.v7,c.v8,c.v9,())
  | 0,c=>()
  | _+2,c=>()
abbrev SK (Q:cZ.QT):Nat→List (cZ.V→Prop)→cZ.V→Prop
  | 1,[S1],c=>cZ.B1 S1 Q c
  | _,_,_=>False
abbrev ZY (Q:QT yN):Pts D:=Pts.kn Ox ZW ZX (by intro k b t; match k,t with | 0,t | 1,t | _+2,t=>rfl) (fun σ=>SK (fun r0=>Q (r0,()) (()) σ))
abbrev KH:Ctr D:= {ps:=[.val .ptr, .val (.list (.int .u8))],rs:=[.val (.vec .u8 32)],bk:=[],sg:=true,P:=fun x o Q=>match o with
  | some σ=>bB x.1 x.2.1 σ (fun r0 σ1=>Q (r0,()) (()) (some σ1))
  | none=>False}
abbrev ZZ:Ctrs D:=((62,KH)::((77,yN)::Xw))
abbrev Bg:Ctr D:= {ps:=[.val .ptr, .val (.vec .u8 32),vu,vi,vi,rb],rs:=[.val (.list (.int .u8)), .val (.st 6),vi],bk:=[],sg:=true,P:=fun x o Q=>match o with
  | some σ=>cw x.1 x.2.1 x.2.2.1 x.2.2.2.1 x.2.2.2.2.1 x.2.2.2.2.2.1 σ (fun r0 r1 r2 σ1=>Q (r0,r1,r2,()) (()) (some σ1))
  | none=>False}
noncomputable def c46:Code:=Tryz.f46.body.getD .skip
def A46:Ann:=(sl (sl (.seq (.join 1 [0,2,3,13,15,31] lf (.cond s2 lf)) s2)))
abbrev Oy:Nat→List Ds
  | 1=>[.val .ptr,vu,vi, .blk 46 [.v (.st 6)], .own (.int .u8),vb]
  | _=>[]
abbrev Z0: ∀ k,cw.V→TupD D (Oy k)→cw.V
  | 1,c,t=> {c with b0:=t.1,cU:=t.2.1,eY:=t.2.2.1,gF:=t.2.2.2.1.1,Kh:=t.2.2.2.2.1,v31:=t.2.2.2.2.2.1}
  | _,c,_=>c
abbrev Z1: ∀ k,cw.V→TupD D (Oy k)
  | 1,c=>(c.b0,c.cU,c.eY,(c.gF,()),c.Kh,c.v31,())
  | 0,c=>()
  | _+2,c=>()
abbrev SL (Q:cw.QT):Nat→List (cw.V→St Pt.Obj→Prop)→cw.V→St Pt.Obj→Prop
  | 1,[],c,σ=>cw.K1 Q c σ
  | _,_,_,_=>False
abbrev Z2 (Q:QT Bg):Pts D:=Pts.mkS Oy Z0 Z1 (by intro k b t; match k,t with | 0,t | 1,t | _+2,t=>rfl) (SL (fun r0 r1 r2 σ1=>Q (r0,r1,r2,()) (()) (some σ1)))
abbrev Z3:Ctrs D:=((46,Bg)::ZZ)
abbrev Gc:Ctr D:= {ps:=[vi],rs:=[vi],bk:=[],sg:=false,P:=fun x σ Q=>kr x.1 (fun r0=>Q (r0,()) (()) σ)}
noncomputable def c78:Code:=Tryz.f78.body.getD .skip
def A78:Ann:=(sl s2)
abbrev Z4 (Q:QT Gc):Pts D:=Pts.no
abbrev Z5:Ctrs D:=((78,Gc)::Z3)
abbrev Gd:Ctr D:= {ps:=[rb, .val (.int .u64),vi],rs:=[.own (.int .u8)],bk:=[],sg:=false,P:=fun x σ Q=>bR x.1 x.2.1 x.2.2.1 (fun r0=>Q (r0,()) (()) σ)}
noncomputable def c63:Code:=Tryz.f63.body.getD .skip
def A63:Ann:=(sl (sl (.seq (sl (.block (.join 7 [1,7] (.block (.join 6 [1,7] (.block (.join 5 [1,7] (.block (.join 4 [1,7] (.block (.join 3 [1,7] (.block (.join 2 [1,7] (.block (.join 1 [1,7] (.block (.seq (.block (.seq (.seq (sl (.cond lf lf)) (.seq (sl (.cond lf lf)) (.seq (sl (.cond lf lf)) (.seq (sl (.cond lf lf)) (.seq (sl (.cond lf lf)) (.seq (sl (.cond lf lf)) (sl (.cond lf lf)))))))) lf)) s2)) s2)) s2)) s2)) s2)) s2)) s2)) s2))) s2)))
abbrev Oz:Nat→List Ds
  | 7=>[.val (.int .u64), .own (.int .u8)]
  | 6=>[.val (.int .u64), .own (.int .u8)]
  | 5=>[.val (.int .u64), .own (.int .u8)]
  | 4=>[.val (.int .u64), .own (.int .u8)]
  | 3=>[.val (.int .u64), .own (.int .u8)]
  | 2=>[.val (.int .u64), .own (.int .u8)]
  | 1=>[.val (.int .u64), .own (.int .u8)]
  | _=>[]
abbrev Z6: ∀ k,bR.V→TupD D (Oz k)→bR.V
  | 7,c,t=> {c with n1:=t.1,fh:=t.2.1}
  | 6,c,t=> {c with n1:=t.1,fh:=t.2.1}
  | 5,c,t=> {c with n1:=t.1,fh:=t.2.1}
  | 4,c,t=> {c with n1:=t.1,fh:=t.2.1}
  | 3,c,t=> {c with n1:=t.1,fh:=t.2.1}
  | 2,c,t=> {c with n1:=t.1,fh:=t.2.1}
  | 1,c,t=> {c with n1:=t.1,fh:=t.2.1}
  | _,c,_=>c
abbrev Z7: ∀ k,bR.V→TupD D (Oz k)
  | 7,c=>(c.n1,c.fh,())
  | 6,c=>(c.n1,c.fh,())
  | 5,c=>(c.n1,c.fh,())
  | 4,c=>(c.n1,c.fh,())
  | 3,c=>(c.n1,c.fh,())
  | 2,c=>(c.n1,c.fh,())
  | 1,c=>(c.n1,c.fh,())
  | 0,c=>()
  | _+8,c=>()
abbrev SM (Q:bR.QT):Nat→List (bR.V→Prop)→bR.V→Prop
  | 7,[],c=>bR.K7 Q c
  | 6,[],c=>bR.K6 Q c
  | 5,[],c=>bR.K5 Q c
  | 4,[],c=>bR.K4 Q c
  | 3,[],c=>bR.K3 Q c
  | 2,[],c=>bR.K2 Q c
  | 1,[],c=>bR.K1 Q c
  | _,_,_=>False
abbrev Z8 (Q:QT Gd):Pts D:=Pts.kn Oz Z6 Z7 (by intro k b t; match k,t with | 0,t | 1,t | 2,t | 3,t | 4,t | 5,t | 6,t | 7,t | _+8,t=>rfl) (fun σ=>SM (fun r0=>Q (r0,()) (()) σ))
abbrev Z9:Ctrs D:=((63,Gd)::Z5)
abbrev Ge:Ctr D:= {ps:=[.val (.st 6)],rs:=[.own (.int .u8)],bk:=[],sg:=false,P:=fun x σ Q=>mI x.1 (fun r0=>Q (r0,()) (()) σ)}
noncomputable def c47:Code:=Tryz.f47.body.getD .skip
def A47:Ann:=(sl (.seq (.plan (.take 0 [3,7,10] (.take 1 [3,7,10] (.take 2 [3,7,10] (.take 4 [7,10] (.take 5 [7,10] (.take 6 [7,10] (.take 8 [10] (.take 9 [10] (.all (.alt 3 (.all (.alt 7 (.all (.alt 10 (.take 11 [] .done) .nil)) .nil)) .nil))))))))))) lf))
abbrev aaa (Q:QT Ge):Pts D:=Pts.no
abbrev C48:Ctrs D:=((47,Ge)::Z9)
abbrev Gf:Ctr D:= {ps:=[rb,vi],rs:=[.own (.int .u8),vi],bk:=[],sg:=false,P:=fun x σ Q=>mJ x.1 x.2.1 (fun r0 r1=>Q (r0,r1,()) (()) σ)}
noncomputable def c48:Code:=Tryz.f48.body.getD .skip
def A48:Ann:=(sl (.seq (sl (.cond s2 lf)) s2))
abbrev aac (Q:QT Gf):Pts D:=Pts.no
abbrev Xx:Ctrs D:=((48,Gf)::C48)
abbrev yO:Ctr D:= {ps:=[.rd (.st 6)],rs:=[.own (.int .u8),vi],bk:=[],sg:=false,P:=fun x σ Q=>cn x.1 (fun r0 r1=>Q (r0,r1,()) (()) σ)}
noncomputable def c22:Code:=Tryz.f22.body.getD .skip
def A22:Ann:=(sl (.seq (.join 1 [0,14] lf (.cond s2 lf)) (sl (.seq (sl (.block (.loop 2 [4,19,20,21] (sl (.seq (.cond lf lf) (.seq (.block (sl (.seq (.join 3 [4,6,19,20,21,32] lf (.cond s2 lf)) lf))) lf)))))) s2))))
abbrev OA:Nat→List Ds
  | 1=>[.rd (.st 6),vb]
  | 2=>[.own (.int .u8), .rd (.st 6),vi,vi]
  | 3=>[.own (.int .u8), .blk 46 [.v (.st 6)], .rd (.st 6),vi,vi,vb]
  | _=>[]
abbrev aad: ∀ k,cn.V→TupD D (OA k)→cn.V
  | 1,c,t=> {c with gV:=t.1,kO:=t.2.1}
  | 2,c,t=> {c with b4:=t.1,fF:=t.2.1,v20:=t.2.2.1,v21:=t.2.2.2.1}
  | 3,c,t=> {c with b4:=t.1,r6:=t.2.1.1,fF:=t.2.2.1,v20:=t.2.2.2.1,v21:=t.2.2.2.2.1,Bh:=t.2.2.2.2.2.1}
  | _,c,_=>c
abbrev aae: ∀ k,cn.V→TupD D (OA k)
  | 1,c=>(c.gV,c.kO,())
  | 2,c=>(c.b4,c.fF,c.v20,c.v21,())
  | 3,c=>(c.b4,(c.r6,()),c.fF,c.v20,c.v21,c.Bh,())
  | 0,c=>()
  | _+4,c=>()
abbrev SN (Q:cn.QT):Nat→List (cn.V→Prop)→cn.V→Prop
  | 1,[],c=>cn.K1 Q c
  | 2,[S2],c=>cn.B2 S2 Q c
  | 3,[S2],c=>cn.K3 S2 Q c
  | _,_,_=>False
abbrev aaf (Q:QT yO):Pts D:=Pts.kn OA aad aae (by intro k b t; match k,t with | 0,t | 1,t | 2,t | 3,t | _+4,t=>rfl) (fun σ=>SN (fun r0 r1=>Q (r0,r1,()) (()) σ))
abbrev Xn:Ctr D:= {ps:=[.val .ptr, .val (.vec .u8 32),vu, .val (.st 0), .val (.st 6), .val (.list (.st 7)), .val (.list (.st 5))],rs:=[.own (.st 9), .own (.st 7), .val (.st 6),vi],bk:=[],sg:=true,P:=fun x o Q=>match o with
  | some σ=>aE x.1 x.2.1 x.2.2.1 x.2.2.2.1 x.2.2.2.2.1 x.2.2.2.2.2.1 x.2.2.2.2.2.2.1 σ (fun r0 r1 r2 r3 σ1=>Q (r0,r1,r2,r3,()) (()) (some σ1))
  | none=>False}
abbrev C7:Ctrs D:=((9,Xn)::((22,yO)::Xx))
abbrev SP:Ctr D:= {ps:=[],rs:=[vb],bk:=[],sg:=true,P:=fun x o Q=>match o with
  | some σ=>au σ (fun r0 σ1=>Q (r0,()) (()) (some σ1))
  | none=>False}
noncomputable def c7:Code:=Tryz.f7.body.getD .skip
def A7:Ann:=(sl (sl (.join 1 [1,3,4,5,6] (.plan (.take 0 [10,19] (.take 1 [10,19] (.take 2 [10,19] (.take 3 [4,6,10,19] (.all (.alt 4 (.take 5 [6,10,19] (.all (.alt 6 (.all (.alt 7 (.take 8 [9,10,19] (.all (.alt 9 (.all (.alt 10 (.take 11 [19] (.take 12 [19] (.take 13 [19] (.take 14 [19] (.take 15 [] (.all (.alt 16 (.take 17 [19] (.take 18 [19] (.all (.alt 19 (.take 20 [] .done) .nil)))) .nil))))))) (.alt 16 (.all (.alt 10 (.take 11 [19] (.take 12 [19] (.take 13 [19] (.take 14 [19] (.take 15 [] (.take 17 [19] (.take 18 [19] (.all (.alt 19 (.take 20 [] .done) .nil))))))))) .nil)) .nil))) (.alt 16 (.all (.alt 9 (.all (.alt 10 (.take 11 [19] (.take 12 [19] (.take 13 [19] (.take 14 [19] (.take 15 [] (.take 17 [19] (.take 18 [19] (.all (.alt 19 (.take 20 [] .done) .nil))))))))) .nil)) .nil)) .nil)))) (.alt 16 (.all (.alt 7 (.take 8 [9,10,19] (.all (.alt 9 (.all (.alt 10 (.take 11 [19] (.take 12 [19] (.take 13 [19] (.take 14 [19] (.take 15 [] (.take 17 [19] (.take 18 [19] (.all (.alt 19 (.take 20 [] .done) .nil))))))))) .nil)) .nil))) .nil)) .nil))) (.alt 7 (.take 8 [9,10,19] (.all (.alt 6 (.all (.alt 9 (.all (.alt 10 (.take 11 [19] (.take 12 [19] (.take 13 [19] (.take 14 [19] (.take 15 [] (.all (.alt 16 (.take 17 [19] (.take 18 [19] (.all (.alt 19 (.take 20 [] .done) .nil)))) .nil))))))) (.alt 16 (.all (.alt 10 (.take 11 [19] (.take 12 [19] (.take 13 [19] (.take 14 [19] (.take 15 [] (.take 17 [19] (.take 18 [19] (.all (.alt 19 (.take 20 [] .done) .nil))))))))) .nil)) .nil))) (.alt 16 (.all (.alt 9 (.all (.alt 10 (.take 11 [19] (.take 12 [19] (.take 13 [19] (.take 14 [19] (.take 15 [] (.take 17 [19] (.take 18 [19] (.all (.alt 19 (.take 20 [] .done) .nil))))))))) .nil)) .nil)) .nil))) (.alt 9 (.all (.alt 6 (.all (.alt 10 (.take 11 [19] (.take 12 [19] (.take 13 [19] (.take 14 [19] (.take 15 [] (.all (.alt 16 (.take 17 [19] (.take 18 [19] (.all (.alt 19 (.take 20 [] .done) .nil)))) .nil))))))) (.alt 16 (.all (.alt 10 (.take 11 [19] (.take 12 [19] (.take 13 [19] (.take 14 [19] (.take 15 [] (.take 17 [19] (.take 18 [19] (.all (.alt 19 (.take 20 [] .done) .nil))))))))) .nil)) .nil))) (.alt 16 (.all (.alt 6 (.all (.alt 10 (.take 11 [19] (.take 12 [19] (.take 13 [19] (.take 14 [19] (.take 15 [] (.take 17 [19] (.take 18 [19] (.all (.alt 19 (.take 20 [] .done) .nil))))))))) .nil)) .nil)) .nil))) (.alt 16 (.all (.alt 6 (.all (.alt 9 (.all (.alt 10 (.take 11 [19] (.take 12 [19] (.take 13 [19] (.take 14 [19] (.take 15 [] (.take 17 [19] (.take 18 [19] (.all (.alt 19 (.take 20 [] .done) .nil))))))))) .nil)) .nil)) (.alt 9 (.all (.alt 6 (.all (.alt 10 (.take 11 [19] (.take 12 [19] (.take 13 [19] (.take 14 [19] (.take 15 [] (.take 17 [19] (.take 18 [19] (.all (.alt 19 (.take 20 [] .done) .nil))))))))) .nil)) .nil)) .nil))) .nil))))) (.alt 16 (.all (.alt 6 (.all (.alt 7 (.take 8 [9,10,19] (.all (.alt 9 (.all (.alt 10 (.take 11 [19] (.take 12 [19] (.take 13 [19] (.take 14 [19] (.take 15 [] (.take 17 [19] (.take 18 [19] (.all (.alt 19 (.take 20 [] .done) .nil))))))))) .nil)) .nil))) .nil)) (.alt 7 (.take 8 [9,10,19] (.all (.alt 6 (.all (.alt 9 (.all (.alt 10 (.take 11 [19] (.take 12 [19] (.take 13 [19] (.take 14 [19] (.take 15 [] (.take 17 [19] (.take 18 [19] (.all (.alt 19 (.take 20 [] .done) .nil))))))))) .nil)) .nil)) (.alt 9 (.all (.alt 6 (.all (.alt 10 (.take 11 [19] (.take 12 [19] (.take 13 [19] (.take 14 [19] (.take 15 [] (.take 17 [19] (.take 18 [19] (.all (.alt 19 (.take 20 [] .done) .nil))))))))) .nil)) .nil)) .nil)))) .nil))) .nil))))) (.alt 7 (.take 8 [9,10,19] (.all (.alt 4 (.take 5 [6,10,19] (.all (.alt 6 (.all (.alt 9 (.all (.alt 10 (.take 11 [19] (.take 12 [19] (.take 13 [19] (.take 14 [19] (.take 15 [] (.all (.alt 16 (.take 17 [19] (.take 18 [19] (.all (.alt 19 (.take 20 [] .done) .nil)))) .nil))))))) (.alt 16 (.all (.alt 10 (.take 11 [19] (.take 12 [19] (.take 13 [19] (.take 14 [19] (.take 15 [] (.take 17 [19] (.take 18 [19] (.all (.alt 19 (.take 20 [] .done) .nil))))))))) .nil)) .nil))) (.alt 16 (.all (.alt 9 (.all (.alt 10 (.take 11 [19] (.take 12 [19] (.take 13 [19] (.take 14 [19] (.take 15 [] (.take 17 [19] (.take 18 [19] (.all (.alt 19 (.take 20 [] .done) .nil))))))))) .nil)) .nil)) .nil))) (.alt 9 (.all (.alt 6 (.all (.alt 10 (.take 11 [19] (.take 12 [19] (.take 13 [19] (.take 14 [19] (.take 15 [] (.all (.alt 16 (.take 17 [19] (.take 18 [19] (.all (.alt 19 (.take 20 [] .done) .nil)))) .nil))))))) (.alt 16 (.all (.alt 10 (.take 11 [19] (.take 12 [19] (.take 13 [19] (.take 14 [19] (.take 15 [] (.take 17 [19] (.take 18 [19] (.all (.alt 19 (.take 20 [] .done) .nil))))))))) .nil)) .nil))) (.alt 16 (.all (.alt 6 (.all (.alt 10 (.take 11 [19] (.take 12 [19] (.take 13 [19] (.take 14 [19] (.take 15 [] (.take 17 [19] (.take 18 [19] (.all (.alt 19 (.take 20 [] .done) .nil))))))))) .nil)) .nil)) .nil))) (.alt 16 (.all (.alt 6 (.all (.alt 9 (.all (.alt 10 (.take 11 [19] (.take 12 [19] (.take 13 [19] (.take 14 [19] (.take 15 [] (.take 17 [19] (.take 18 [19] (.all (.alt 19 (.take 20 [] .done) .nil))))))))) .nil)) .nil)) (.alt 9 (.all (.alt 6 (.all (.alt 10 (.take 11 [19] (.take 12 [19] (.take 13 [19] (.take 14 [19] (.take 15 [] (.take 17 [19] (.take 18 [19] (.all (.alt 19 (.take 20 [] .done) .nil))))))))) .nil)) .nil)) .nil))) .nil))))) (.alt 9 (.all (.alt 4 (.take 5 [6,10,19] (.all (.alt 6 (.all (.alt 10 (.take 11 [19] (.take 12 [19] (.take 13 [19] (.take 14 [19] (.take 15 [] (.all (.alt 16 (.take 17 [19] (.take 18 [19] (.all (.alt 19 (.take 20 [] .done) .nil)))) .nil))))))) (.alt 16 (.all (.alt 10 (.take 11 [19] (.take 12 [19] (.take 13 [19] (.take 14 [19] (.take 15 [] (.take 17 [19] (.take 18 [19] (.all (.alt 19 (.take 20 [] .done) .nil))))))))) .nil)) .nil))) (.alt 16 (.all (.alt 6 (.all (.alt 10 (.take 11 [19] (.take 12 [19] (.take 13 [19] (.take 14 [19] (.take 15 [] (.take 17 [19] (.take 18 [19] (.all (.alt 19 (.take 20 [] .done) .nil))))))))) .nil)) .nil)) .nil)))) (.alt 16 (.all (.alt 4 (.take 5 [6,10,19] (.all (.alt 6 (.all (.alt 10 (.take 11 [19] (.take 12 [19] (.take 13 [19] (.take 14 [19] (.take 15 [] (.take 17 [19] (.take 18 [19] (.all (.alt 19 (.take 20 [] .done) .nil))))))))) .nil)) .nil))) .nil)) .nil))) (.alt 16 (.all (.alt 4 (.take 5 [6,10,19] (.all (.alt 6 (.all (.alt 9 (.all (.alt 10 (.take 11 [19] (.take 12 [19] (.take 13 [19] (.take 14 [19] (.take 15 [] (.take 17 [19] (.take 18 [19] (.all (.alt 19 (.take 20 [] .done) .nil))))))))) .nil)) .nil)) (.alt 9 (.all (.alt 6 (.all (.alt 10 (.take 11 [19] (.take 12 [19] (.take 13 [19] (.take 14 [19] (.take 15 [] (.take 17 [19] (.take 18 [19] (.all (.alt 19 (.take 20 [] .done) .nil))))))))) .nil)) .nil)) .nil)))) (.alt 9 (.all (.alt 4 (.take 5 [6,10,19] (.all (.alt 6 (.all (.alt 10 (.take 11 [19] (.take 12 [19] (.take 13 [19] (.take 14 [19] (.take 15 [] (.take 17 [19] (.take 18 [19] (.all (.alt 19 (.take 20 [] .done) .nil))))))))) .nil)) .nil))) .nil)) .nil))) .nil))))) (.alt 16 (.all (.alt 4 (.take 5 [6,10,19] (.all (.alt 6 (.all (.alt 7 (.take 8 [9,10,19] (.all (.alt 9 (.all (.alt 10 (.take 11 [19] (.take 12 [19] (.take 13 [19] (.take 14 [19] (.take 15 [] (.take 17 [19] (.take 18 [19] (.all (.alt 19 (.take 20 [] .done) .nil))))))))) .nil)) .nil))) .nil)) (.alt 7 (.take 8 [9,10,19] (.all (.alt 6 (.all (.alt 9 (.all (.alt 10 (.take 11 [19] (.take 12 [19] (.take 13 [19] (.take 14 [19] (.take 15 [] (.take 17 [19] (.take 18 [19] (.all (.alt 19 (.take 20 [] .done) .nil))))))))) .nil)) .nil)) (.alt 9 (.all (.alt 6 (.all (.alt 10 (.take 11 [19] (.take 12 [19] (.take 13 [19] (.take 14 [19] (.take 15 [] (.take 17 [19] (.take 18 [19] (.all (.alt 19 (.take 20 [] .done) .nil))))))))) .nil)) .nil)) .nil)))) .nil)))) (.alt 7 (.take 8 [9,10,19] (.all (.alt 4 (.take 5 [6,10,19] (.all (.alt 6 (.all (.alt 9 (.all (.alt 10 (.take 11 [19] (.take 12 [19] (.take 13 [19] (.take 14 [19] (.take 15 [] (.take 17 [19] (.take 18 [19] (.all (.alt 19 (.take 20 [] .done) .nil))))))))) .nil)) .nil)) (.alt 9 (.all (.alt 6 (.all (.alt 10 (.take 11 [19] (.take 12 [19] (.take 13 [19] (.take 14 [19] (.take 15 [] (.take 17 [19] (.take 18 [19] (.all (.alt 19 (.take 20 [] .done) .nil))))))))) .nil)) .nil)) .nil)))) (.alt 9 (.all (.alt 4 (.take 5 [6,10,19] (.all (.alt 6 (.all (.alt 10 (.take 11 [19] (.take 12 [19] (.take 13 [19] (.take 14 [19] (.take 15 [] (.take 17 [19] (.take 18 [19] (.all (.alt 19 (.take 20 [] .done) .nil))))))))) .nil)) .nil))) .nil)) .nil)))) .nil))) .nil))))))))) s2)))
abbrev pd7:Nat→List Ds
  | 1=>[.blk 32 [.v (.st 0)], .own (.st 9), .own (.st 7), .blk 46 [.v (.st 6)],vi]
  | _=>[]
abbrev up7: ∀ k,au.V→TupD D (pd7 k)→au.V
  | 1,c,t=> {c with s1:=t.1.1,l3:=t.2.1,n4:=t.2.2.1,r5:=t.2.2.2.1.1,e6:=t.2.2.2.2.1}
  | _,c,_=>c
abbrev ls7: ∀ k,au.V→TupD D (pd7 k)
  | 1,c=>((c.s1,()),c.l3,c.n4,(c.r5,()),c.e6,())
  | 0,c=>()
  | _+2,c=>()
abbrev aah (Q:au.QT):Nat→List (au.V→St Pt.Obj→Prop)→au.V→St Pt.Obj→Prop
  | 1,[],c,σ=>au.K1 Q c σ
  | _,_,_,_=>False
abbrev pt7 (Q:QT SP):Pts D:=Pts.mkS pd7 up7 ls7 (by intro k b t; match k,t with | 0,t | 1,t | _+2,t=>rfl) (aah (fun r0 σ1=>Q (r0,()) (()) (some σ1)))
abbrev C8:Ctrs D:=((7,SP)::C7)
abbrev SQ:Ctr D:= {ps:=[.rd (.st 4)],rs:=[.own (.st 4)],bk:=[],sg:=false,P:=fun x σ Q=>cg x.1 (fun r0=>Q (r0,()) (()) σ)}
noncomputable def c8:Code:=Tryz.f8.body.getD .skip
def A8:Ann:=(sl (sl (.seq (sl (.block (.loop 1 [3,7,8,9] (sl (.seq (.cond lf lf) (.seq (.block (sl (sl s2))) lf)))))) s2)))
abbrev pd8:Nat→List Ds
  | 1=>[.own (.st 4), .rd (.st 4),vi,vi]
  | _=>[]
abbrev up8: ∀ k,cg.V→TupD D (pd8 k)→cg.V
  | 1,c,t=> {c with di:=t.1,v7:=t.2.1,v8:=t.2.2.1,v9:=t.2.2.2.1}
  | _,c,_=>c
abbrev ls8: ∀ k,cg.V→TupD D (pd8 k)
  | 1,c=>(c.di,c.v7,c.v8,c.v9,())
  | 0,c=>()
  | _+2,c=>()
abbrev aaj (Q:cg.QT):Nat→List (cg.V→Prop)→cg.V→Prop
  | 1,[S1],c=>cg.B1 S1 Q c
  | _,_,_=>False
abbrev pt8 (Q:QT SQ):Pts D:=Pts.kn pd8 up8 ls8 (by intro k b t; match k,t with | 0,t | 1,t | _+2,t=>rfl) (fun σ=>aaj (fun r0=>Q (r0,()) (()) σ))
abbrev C10:Ctrs D:=((8,SQ)::C8)
abbrev Gg:Ctr D:= {ps:=[.rd (.st 3)],rs:=[.own (.st 7)],bk:=[],sg:=false,P:=fun x σ Q=>aV x.1 (fun r0=>Q (r0,()) (()) σ)}
noncomputable def c10:Code:=Tryz.f10.body.getD .skip
def A10:Ann:=(sl (sl (.seq (sl (.block (.loop 1 [3,9,10,11] (sl (.seq (.cond lf lf) (.seq (.block (sl (sl (.seq (sl (.block (.loop 2 [3,6,9,10,11,19,20,21] (sl (.seq (.cond lf lf) (.seq (.block s2) lf)))))) lf)))) lf)))))) s2)))
abbrev OB:Nat→List Ds
  | 1=>[.own (.st 7), .rd (.st 3),vi,vi]
  | 2=>[.own (.st 7), .blk 67 [.v (.int .i64), .own (.st 6)], .rd (.st 3),vi,vi, .val (.list (.st 2)),vi,vi]
  | _=>[]
abbrev aal: ∀ k,aV.V→TupD D (OB k)→aV.V
  | 1,c,t=> {c with di:=t.1,v9:=t.2.1,v10:=t.2.2.1,v11:=t.2.2.2.1}
  | 2,c,t=> {c with di:=t.1,x6:=⟨t.2.1.1,t.2.1.2.1⟩,v9:=t.2.2.1,v10:=t.2.2.2.1,v11:=t.2.2.2.2.1,fF:=t.2.2.2.2.2.1,v20:=t.2.2.2.2.2.2.1,v21:=t.2.2.2.2.2.2.2.1}
  | _,c,_=>c
abbrev aam: ∀ k,aV.V→TupD D (OB k)
  | 1,c=>(c.di,c.v9,c.v10,c.v11,())
  | 2,c=>(c.di,(c.x6.Item,c.x6.Refs,()),c.v9,c.v10,c.v11,c.fF,c.v20,c.v21,())
  | 0,c=>()
  | _+3,c=>()
abbrev SU (Q:aV.QT):Nat→List (aV.V→Prop)→aV.V→Prop
  | 1,[S1],c=>aV.B1 S1 Q c
  | 2,[S2,S1],c=>aV.B2 S1 S2 Q c
  | _,_,_=>False
abbrev aan (Q:QT Gg):Pts D:=Pts.kn OB aal aam (by intro k b t; match k,t with | 0,t | 1,t | 2,t | _+3,t=>rfl) (fun σ=>SU (fun r0=>Q (r0,()) (()) σ))
abbrev C11:Ctrs D:=((10,Gg)::C10)
abbrev Gh:Ctr D:= {ps:=[.rd (.st 4)],rs:=[.own (.st 5)],bk:=[],sg:=false,P:=fun x σ Q=>bC x.1 (fun r0=>Q (r0,()) (()) σ)}
noncomputable def c11:Code:=Tryz.f11.body.getD .skip
def A11:Ann:=(sl (sl (.seq (sl (.block (.loop 1 [3,6,7,8] (sl (.seq (.cond lf lf) (.seq (.block s2) lf)))))) s2)))
abbrev OC:Nat→List Ds
  | 1=>[.own (.st 5), .rd (.st 4),vi,vi]
  | _=>[]
abbrev aap: ∀ k,bC.V→TupD D (OC k)→bC.V
  | 1,c,t=> {c with di:=t.1,v6:=t.2.1,v7:=t.2.2.1,v8:=t.2.2.2.1}
  | _,c,_=>c
abbrev aaq: ∀ k,bC.V→TupD D (OC k)
  | 1,c=>(c.di,c.v6,c.v7,c.v8,())
  | 0,c=>()
  | _+2,c=>()
abbrev SW (Q:bC.QT):Nat→List (bC.V→Prop)→bC.V→Prop
  | 1,[S1],c=>bC.B1 S1 Q c
  | _,_,_=>False
abbrev aar (Q:QT Gh):Pts D:=Pts.kn OC aap aaq (by intro k b t; match k,t with | 0,t | 1,t | _+2,t=>rfl) (fun σ=>SW (fun r0=>Q (r0,()) (()) σ))
abbrev C24:Ctrs D:=((11,Gh)::C11)
abbrev Gi:Ctr D:= {ps:=[.val (.st 2)],rs:=[vb],bk:=[],sg:=false,P:=fun x σ Q=>fW x.1 (fun r0=>Q (r0,()) (()) σ)}
noncomputable def c24:Code:=Tryz.f24.body.getD .skip
def A24:Ann:=(sl s2)
abbrev aat (Q:QT Gi):Pts D:=Pts.no
abbrev C27:Ctrs D:=((24,Gi)::C24)
abbrev Gj:Ctr D:= {ps:=[ri,vi],rs:=[vb],bk:=[],sg:=false,P:=fun x σ Q=>cm x.1 x.2.1 (fun r0=>Q (r0,()) (()) σ)}
noncomputable def c27:Code:=Tryz.f27.body.getD .skip
def A27:Ann:=(sl (.seq (sl (.block (.loop 1 [0,1,5] (.seq (sl (.cond lf lf)) (.seq (.block (sl (.cond s2 lf))) lf))))) s2))
abbrev OD:Nat→List Ds
  | 1=>[ri,vi,vi]
  | _=>[]
abbrev aav: ∀ k,cm.V→TupD D (OD k)→cm.V
  | 1,c,t=> {c with l0:=t.1,n1:=t.2.1,i5:=t.2.2.1}
  | _,c,_=>c
abbrev aaw: ∀ k,cm.V→TupD D (OD k)
  | 1,c=>(c.l0,c.n1,c.i5,())
  | 0,c=>()
  | _+2,c=>()
abbrev SX (Q:cm.QT):Nat→List (cm.V→Prop)→cm.V→Prop
  | 1,[S1],c=>cm.B1 S1 Q c
  | _,_,_=>False
abbrev aax (Q:QT Gj):Pts D:=Pts.kn OD aav aaw (by intro k b t; match k,t with | 0,t | 1,t | _+2,t=>rfl) (fun σ=>SX (fun r0=>Q (r0,()) (()) σ))
abbrev C50:Ctrs D:=((27,Gj)::C27)
abbrev Gk:Ctr D:= {ps:=[.val (.st 1),vi],rs:=[vb],bk:=[],sg:=false,P:=fun x σ Q=>eT x.1 x.2.1 (fun r0=>Q (r0,()) (()) σ)}
noncomputable def c50:Code:=Tryz.f50.body.getD .skip
def A50:Ann:=(sl s2)
abbrev aaz (Q:QT Gk):Pts D:=Pts.no
abbrev C29:Ctrs D:=((50,Gk)::C50)
abbrev Gl:Ctr D:= {ps:=[.val (.st 1),vi],rs:=[.own (.int .i64)],bk:=[],sg:=false,P:=fun x σ Q=>aH x.1 x.2.1 (fun r0=>Q (r0,()) (()) σ)}
noncomputable def c29:Code:=Tryz.f29.body.getD .skip
def A29:Ann:=(sl (sl (.seq (.join 1 [1,2,5,18] lf (.cond s2 lf)) (.seq (sl (.block (.loop 2 [1,2,5,6] (.seq (.join 3 [1,2,5,6,45] (.plan (.take 0 [] (.take 1 [] (.take 2 [] (.take 3 [] (.take 4 [] (.take 5 [] (.take 6 [] (.take 7 [] (.take 8 [] (.take 9 [] (.take 10 [] (.take 11 [] (.take 12 [] (.take 13 [] (.take 14 [] (.take 15 [] (.take 16 [] (.take 17 [] (.take 18 [] (.take 19 [] (.take 20 [] (.take 21 [] .done))))))))))))))))))))))) (.cond lf lf)) (.seq (.block lf) lf))))) s2))))
abbrev OE:Nat→List Ds
  | 1=>[vi, .blk 37 [.v (.st 1)], .own (.int .i64),vb]
  | 2=>[vi, .blk 37 [.v (.st 1)], .own (.int .i64),vi]
  | 3=>[vi, .blk 37 [.v (.st 1)], .own (.int .i64),vi,vb]
  | _=>[]
abbrev aaB: ∀ k,aH.V→TupD D (OE k)→aH.V
  | 1,c,t=> {c with bA:=t.1,s2:=t.2.1.1,eD:=t.2.2.1,jO:=t.2.2.2.1}
  | 2,c,t=> {c with bA:=t.1,s2:=t.2.1.1,eD:=t.2.2.1,k6:=t.2.2.2.1}
  | 3,c,t=> {c with bA:=t.1,s2:=t.2.1.1,eD:=t.2.2.1,k6:=t.2.2.2.1,yH:=t.2.2.2.2.1}
  | _,c,_=>c
abbrev aaC: ∀ k,aH.V→TupD D (OE k)
  | 1,c=>(c.bA,(c.s2,()),c.eD,c.jO,())
  | 2,c=>(c.bA,(c.s2,()),c.eD,c.k6,())
  | 3,c=>(c.bA,(c.s2,()),c.eD,c.k6,c.yH,())
  | 0,c=>()
  | _+4,c=>()
abbrev SY (Q:aH.QT):Nat→List (aH.V→Prop)→aH.V→Prop
  | 1,[],c=>aH.K1 Q c
  | 2,[S2],c=>aH.B2 S2 Q c
  | 3,[S2],c=>aH.K3 S2 Q c
  | _,_,_=>False
abbrev aaD (Q:QT Gl):Pts D:=Pts.kn OE aaB aaC (by intro k b t; match k,t with | 0,t | 1,t | 2,t | 3,t | _+4,t=>rfl) (fun σ=>SY (fun r0=>Q (r0,()) (()) σ))
abbrev C31:Ctrs D:=((29,Gl)::C29)
abbrev Gn:Ctr D:= {ps:=[.val (.st 1),vi],rs:=[vi,vi,vb],bk:=[],sg:=false,P:=fun x σ Q=>aB x.1 x.2.1 (fun r0 r1 r2=>Q (r0,r1,r2,()) (()) σ)}
noncomputable def c31:Code:=Tryz.f31.body.getD .skip
def A31:Ann:=(sl (.seq (sl (.block (.loop 1 [1,2,7] (.seq (sl (.cond lf lf)) (.seq (.block (sl (sl (.block (.loop 2 [1,2,7,8,9] (.seq (sl (.cond lf lf)) (.seq (.block (sl (.cond s2 lf))) lf))))))) lf))))) s2))
abbrev OF:Nat→List Ds
  | 1=>[vi, .blk 37 [.v (.st 1)],vi]
  | 2=>[vi, .blk 37 [.v (.st 1)],vi, .own (.int .i64),vi]
  | _=>[]
abbrev aaF: ∀ k,aB.V→TupD D (OF k)→aB.V
  | 1,c,t=> {c with bA:=t.1,s2:=t.2.1.1,p7:=t.2.2.1}
  | 2,c,t=> {c with bA:=t.1,s2:=t.2.1.1,p7:=t.2.2.1,l8:=t.2.2.2.1,i9:=t.2.2.2.2.1}
  | _,c,_=>c
abbrev aaG: ∀ k,aB.V→TupD D (OF k)
  | 1,c=>(c.bA,(c.s2,()),c.p7,())
  | 2,c=>(c.bA,(c.s2,()),c.p7,c.l8,c.i9,())
  | 0,c=>()
  | _+3,c=>()
abbrev SZ (Q:aB.QT):Nat→List (aB.V→Prop)→aB.V→Prop
  | 1,[S1],c=>aB.B1 S1 Q c
  | 2,[S2,S1],c=>aB.B2 S1 S2 Q c
  | _,_,_=>False
abbrev aaH (Q:QT Gn):Pts D:=Pts.kn OF aaF aaG (by intro k b t; match k,t with | 0,t | 1,t | 2,t | _+3,t=>rfl) (fun σ=>SZ (fun r0 r1 r2=>Q (r0,r1,r2,()) (()) σ))
abbrev C49:Ctrs D:=((31,Gn)::C31)
abbrev Gp:Ctr D:= {ps:=[.val (.st 1),vi],rs:=[.own (.int .i64)],bk:=[],sg:=false,P:=fun x σ Q=>aM x.1 x.2.1 (fun r0=>Q (r0,()) (()) σ)}
noncomputable def c49:Code:=Tryz.f49.body.getD .skip
def A49:Ann:=(sl (.seq (.join 1 [1,2,17] lf (.cond s2 lf)) (sl (.seq (sl (.block (.loop 2 [2,5,6] (.seq (sl (.cond lf lf)) (.seq (.block (.seq (.plan (.take 0 [7] (.take 1 [7] (.take 2 [7] (.take 3 [7] (.take 4 [7] (.take 5 [7] (.take 6 [7] (.all (.alt 7 (.take 8 [] (.take 9 [] (.take 10 [] (.take 11 [] (.take 12 [] (.take 13 [] (.take 14 [] .done))))))) .nil)))))))))) (.seq (sl (.cond s2 lf)) lf))) lf))))) s2))))
abbrev OG:Nat→List Ds
  | 1=>[vi, .blk 37 [.v (.st 1)],vb]
  | 2=>[.blk 37 [.v (.st 1)], .own (.int .i64),vi]
  | _=>[]
abbrev aaJ: ∀ k,aM.V→TupD D (OG k)→aM.V
  | 1,c,t=> {c with gI:=t.1,s2:=t.2.1.1,kD:=t.2.2.1}
  | 2,c,t=> {c with s2:=t.1.1,eD:=t.2.1,n6:=t.2.2.1}
  | _,c,_=>c
abbrev aaK: ∀ k,aM.V→TupD D (OG k)
  | 1,c=>(c.gI,(c.s2,()),c.kD,())
  | 2,c=>((c.s2,()),c.eD,c.n6,())
  | 0,c=>()
  | _+3,c=>()
abbrev S6 (Q:aM.QT):Nat→List (aM.V→Prop)→aM.V→Prop
  | 1,[],c=>aM.K1 Q c
  | 2,[S2],c=>aM.B2 S2 Q c
  | _,_,_=>False
abbrev aaL (Q:QT Gp):Pts D:=Pts.kn OG aaJ aaK (by intro k b t; match k,t with | 0,t | 1,t | 2,t | _+3,t=>rfl) (fun σ=>S6 (fun r0=>Q (r0,()) (()) σ))
abbrev C25:Ctrs D:=((49,Gp)::C49)
abbrev Gq:Ctr D:= {ps:=[.val (.st 1),ri],rs:=[.own (.int .i64)],bk:=[],sg:=false,P:=fun x σ Q=>bp x.1 x.2.1 (fun r0=>Q (r0,()) (()) σ)}
noncomputable def c25:Code:=Tryz.f25.body.getD .skip
def A25:Ann:=(sl (sl (.seq (sl (.block (.loop 1 [1,2,5,6] (.seq (sl (.cond lf lf)) (.join 3 [1,2,5,6] (.block (sl (.block (.loop 2 [1,2,5,6,7] (.seq (sl (.cond lf lf)) (.seq (.block (.seq (.plan (.take 0 [5,7] (.take 1 [5,7] (.take 2 [5,7] (.take 3 [5,7] (.take 4 [5,7] (.take 6 [7] (.all (.alt 5 (.all (.alt 7 .done .nil)) .nil))))))))) (.cond s2 lf))) lf)))))) lf))))) s2)))
abbrev OH:Nat→List Ds
  | 1=>[ri, .blk 37 [.v (.st 1)], .own (.int .i64),vi]
  | 3=>[ri, .blk 37 [.v (.st 1)], .own (.int .i64),vi]
  | 2=>[ri, .blk 37 [.v (.st 1)], .own (.int .i64),vi,vi]
  | _=>[]
abbrev aaN: ∀ k,bp.V→TupD D (OH k)→bp.V
  | 1,c,t=> {c with eo:=t.1,s2:=t.2.1.1,eD:=t.2.2.1,kE:=t.2.2.2.1}
  | 3,c,t=> {c with eo:=t.1,s2:=t.2.1.1,eD:=t.2.2.1,kE:=t.2.2.2.1}
  | 2,c,t=> {c with eo:=t.1,s2:=t.2.1.1,eD:=t.2.2.1,kE:=t.2.2.2.1,i7:=t.2.2.2.2.1}
  | _,c,_=>c
abbrev aaO: ∀ k,bp.V→TupD D (OH k)
  | 1,c=>(c.eo,(c.s2,()),c.eD,c.kE,())
  | 3,c=>(c.eo,(c.s2,()),c.eD,c.kE,())
  | 2,c=>(c.eo,(c.s2,()),c.eD,c.kE,c.i7,())
  | 0,c=>()
  | _+4,c=>()
abbrev S9 (Q:bp.QT):Nat→List (bp.V→Prop)→bp.V→Prop
  | 1,[S1],c=>bp.B1 S1 Q c
  | 3,[S1],c=>bp.K3 S1 Q c
  | 2,[S2,S1],c=>bp.B2 S1 S2 Q c
  | _,_,_=>False
abbrev aaP (Q:QT Gq):Pts D:=Pts.kn OH aaN aaO (by intro k b t; match k,t with | 0,t | 1,t | 2,t | 3,t | _+4,t=>rfl) (fun σ=>S9 (fun r0=>Q (r0,()) (()) σ))
abbrev C26:Ctrs D:=((25,Gq)::C25)
abbrev Gr:Ctr D:= {ps:=[.rd (.st 4)],rs:=[.own (.int .i64)],bk:=[],sg:=false,P:=fun x σ Q=>bL x.1 (fun r0=>Q (r0,()) (()) σ)}
noncomputable def c26:Code:=Tryz.f26.body.getD .skip
def A26:Ann:=(sl (sl (.seq (sl (.block (.loop 1 [0,3,4] (.seq (sl (.cond lf lf)) (.seq (.block lf) lf))))) s2)))
abbrev OI:Nat→List Ds
  | 1=>[.rd (.st 4), .own (.int .i64),vi]
  | _=>[]
abbrev aaR: ∀ k,bL.V→TupD D (OI k)→bL.V
  | 1,c,t=> {c with l0:=t.1,di:=t.2.1,i4:=t.2.2.1}
  | _,c,_=>c
abbrev aaS: ∀ k,bL.V→TupD D (OI k)
  | 1,c=>(c.l0,c.di,c.i4,())
  | 0,c=>()
  | _+2,c=>()
abbrev Ta (Q:bL.QT):Nat→List (bL.V→Prop)→bL.V→Prop
  | 1,[S1],c=>bL.B1 S1 Q c
  | _,_,_=>False
abbrev aaT (Q:QT Gr):Pts D:=Pts.kn OI aaR aaS (by intro k b t; match k,t with | 0,t | 1,t | _+2,t=>rfl) (fun σ=>Ta (fun r0=>Q (r0,()) (()) σ))
abbrev C28:Ctrs D:=((26,Gr)::C26)
abbrev Gt:Ctr D:= {ps:=[.rd (.st 3),vi],rs:=[.val (.list (.st 2)),vb],bk:=[],sg:=false,P:=fun x σ Q=>bQ x.1 x.2.1 (fun r0 r1=>Q (r0,r1,()) (()) σ)}
noncomputable def c28:Code:=Tryz.f28.body.getD .skip
def A28:Ann:=(sl (.seq (sl (.block (.loop 1 [0,1,6] (.seq (sl (.cond lf lf)) (.seq (.block (sl (.cond s2 lf))) lf))))) s2))
abbrev OJ:Nat→List Ds
  | 1=>[.rd (.st 3),vi,vi]
  | _=>[]
abbrev aaV: ∀ k,bQ.V→TupD D (OJ k)→bQ.V
  | 1,c,t=> {c with l0:=t.1,bA:=t.2.1,i6:=t.2.2.1}
  | _,c,_=>c
abbrev aaW: ∀ k,bQ.V→TupD D (OJ k)
  | 1,c=>(c.l0,c.bA,c.i6,())
  | 0,c=>()
  | _+2,c=>()
abbrev Tb (Q:bQ.QT):Nat→List (bQ.V→Prop)→bQ.V→Prop
  | 1,[S1],c=>bQ.B1 S1 Q c
  | _,_,_=>False
abbrev aaX (Q:QT Gt):Pts D:=Pts.kn OJ aaV aaW (by intro k b t; match k,t with | 0,t | 1,t | _+2,t=>rfl) (fun σ=>Tb (fun r0 r1=>Q (r0,r1,()) (()) σ))
abbrev C23:Ctrs D:=((28,Gt)::C28)
abbrev Gu:Ctr D:= {ps:=[.val (.st 1), .rd (.st 3), .rd (.st 4)],rs:=[vb],bk:=[],sg:=false,P:=fun x σ Q=>az x.1 x.2.1 x.2.2.1 (fun r0=>Q (r0,()) (()) σ)}
noncomputable def c23:Code:=Tryz.f23.body.getD .skip
def A23:Ann:=(sl (.seq (sl (.block (.loop 1 [1,2,3,7] (.seq (sl (.cond lf lf)) (.seq (.block (.join 2 [1,2,3,7,61] (.plan (.take 0 [] (.take 1 [] (.take 2 [] (.take 3 [] (.take 4 [] (.take 5 [] (.take 6 [] (.take 7 [] (.take 8 [] (.take 9 [] (.take 10 [] (.take 11 [] (.take 12 [] (.take 13 [] (.take 14 [] (.take 15 [] (.take 16 [] (.take 17 [] (.take 18 [] (.take 19 [] (.take 20 [] (.take 21 [] (.take 22 [] (.take 23 [] (.take 24 [] (.take 25 [] (.take 26 [] (.take 27 [] (.take 28 [] (.take 29 [] (.take 30 [] (.take 31 [] (.take 32 [] (.take 33 [] (.take 34 [] (.take 35 [] (.take 36 [] (.take 37 [] (.take 38 [] (.take 39 [] (.take 40 [] (.take 41 [] (.take 42 [] .done)))))))))))))))))))))))))))))))))))))))))))) (.cond s2 lf))) lf))))) (.seq (.plan (.take 0 [3] (.take 1 [2,3] (.all (.alt 2 (.all (.alt 3 (.take 4 [] .done) .nil)) .nil))))) (.seq (sl (.block (.loop 3 [1,3,8,9] (.seq (sl (.cond lf lf)) (.seq (.block (sl (.seq (.join 4 [1,3,8,9,10,94] (.plan (.take 0 [10] (.take 1 [10] (.take 2 [10] (.take 3 [] (.take 4 [] (.take 5 [10] (.take 6 [10] (.take 7 [10] (.take 8 [10] (.take 9 [10] (.all (.alt 10 (.take 11 [] (.take 12 [] (.take 13 [] .done))) .nil))))))))))))) (.cond s2 lf)) (sl (.block (.loop 5 [1,3,8,9,10,12] (.seq (sl (.cond lf lf)) (.seq (.block (sl (.cond s2 lf))) lf)))))))) lf))))) s2))))
abbrev OK:Nat→List Ds
  | 1=>[.rd (.st 3), .rd (.st 4), .blk 37 [.v (.st 1)],vi]
  | 2=>[.rd (.st 3), .rd (.st 4), .blk 37 [.v (.st 1)],vi,vb]
  | 3=>[.rd (.st 3), .blk 37 [.v (.st 1)], .own (.int .i64),vi]
  | 4=>[.rd (.st 3), .blk 37 [.v (.st 1)], .own (.int .i64),vi, .val (.list (.st 2)),vb]
  | 5=>[.rd (.st 3), .blk 37 [.v (.st 1)], .own (.int .i64),vi, .val (.list (.st 2)),vi]
  | _=>[]
abbrev aaZ: ∀ k,az.V→TupD D (OK k)→az.V
  | 1,c,t=> {c with l1:=t.1,c2:=t.2.1,s3:=t.2.2.1.1,i7:=t.2.2.2.1}
  | 2,c,t=> {c with l1:=t.1,c2:=t.2.1,s3:=t.2.2.1.1,i7:=t.2.2.2.1,nR:=t.2.2.2.2.1}
  | 3,c,t=> {c with l1:=t.1,s3:=t.2.1.1,eP:=t.2.2.1,i9:=t.2.2.2.1}
  | 4,c,t=> {c with l1:=t.1,s3:=t.2.1.1,eP:=t.2.2.1,i9:=t.2.2.2.1,ga:=t.2.2.2.2.1,Bt:=t.2.2.2.2.2.1}
  | 5,c,t=> {c with l1:=t.1,s3:=t.2.1.1,eP:=t.2.2.1,i9:=t.2.2.2.1,ga:=t.2.2.2.2.1,xN:=t.2.2.2.2.2.1}
  | _,c,_=>c
abbrev aa0: ∀ k,az.V→TupD D (OK k)
  | 1,c=>(c.l1,c.c2,(c.s3,()),c.i7,())
  | 2,c=>(c.l1,c.c2,(c.s3,()),c.i7,c.nR,())
  | 3,c=>(c.l1,(c.s3,()),c.eP,c.i9,())
  | 4,c=>(c.l1,(c.s3,()),c.eP,c.i9,c.ga,c.Bt,())
  | 5,c=>(c.l1,(c.s3,()),c.eP,c.i9,c.ga,c.xN,())
  | 0,c=>()
  | _+6,c=>()
abbrev Tc (Q:az.QT):Nat→List (az.V→Prop)→az.V→Prop
  | 1,[S1],c=>az.B1 S1 Q c
  | 2,[S1],c=>az.K2 S1 Q c
  | 3,[S3],c=>az.B3 S3 Q c
  | 4,[S3],c=>az.K4 S3 Q c
  | 5,[S5,S3],c=>az.B5 S3 S5 Q c
  | _,_,_=>False
abbrev aa1 (Q:QT Gu):Pts D:=Pts.kn OK aaZ aa0 (by intro k b t; match k,t with | 0,t | 1,t | 2,t | 3,t | 4,t | 5,t | _+6,t=>rfl) (fun σ=>Tc (fun r0=>Q (r0,()) (()) σ))
abbrev C51:Ctrs D:=((23,Gu)::C23)
abbrev Gv:Ctr D:= {ps:=[.val (.st 2)],rs:=[.own (.int .u8)],bk:=[],sg:=false,P:=fun x σ Q=>cy x.1 (fun r0=>Q (r0,()) (()) σ)}
noncomputable def c51:Code:=Tryz.f51.body.getD .skip
def A51:Ann:=(sl (sl (.seq (sl (.block (.loop 1 [1,3,4] (.seq (sl (.cond lf lf)) (.seq (.block lf) lf))))) s2)))
abbrev OL:Nat→List Ds
  | 1=>[.blk 25 [.v (.st 2)], .own (.int .u8),vi]
  | _=>[]
abbrev aa3: ∀ k,cy.V→TupD D (OL k)→cy.V
  | 1,c,t=> {c with r1:=t.1.1,di:=t.2.1,i4:=t.2.2.1}
  | _,c,_=>c
abbrev aa4: ∀ k,cy.V→TupD D (OL k)
  | 1,c=>((c.r1,()),c.di,c.i4,())
  | 0,c=>()
  | _+2,c=>()
abbrev Td (Q:cy.QT):Nat→List (cy.V→Prop)→cy.V→Prop
  | 1,[S1],c=>cy.B1 S1 Q c
  | _,_,_=>False
abbrev aa5 (Q:QT Gv):Pts D:=Pts.kn OL aa3 aa4 (by intro k b t; match k,t with | 0,t | 1,t | _+2,t=>rfl) (fun σ=>Td (fun r0=>Q (r0,()) (()) σ))
abbrev C30:Ctrs D:=((51,Gv)::C51)
abbrev Gw:Ctr D:= {ps:=[.rd (.st 2)],rs:=[.own (.int .u8),vi],bk:=[],sg:=false,P:=fun x σ Q=>aZ x.1 (fun r0 r1=>Q (r0,r1,()) (()) σ)}
noncomputable def c30:Code:=Tryz.f30.body.getD .skip
def A30:Ann:=(sl (.seq (.join 1 [0,13] lf (.cond s2 lf)) (sl (.seq (sl (.block (.loop 2 [0,4,5] (.seq (sl (.cond lf lf)) (.seq (.block (.seq (.join 3 [0,4,5,37] lf (.cond s2 lf)) lf)) lf))))) (.seq (.block (.loop 4 [4] (.seq (sl (.cond lf lf)) (.block lf)))) s2)))))
abbrev OM:Nat→List Ds
  | 1=>[.rd (.st 2),vb]
  | 2=>[.rd (.st 2), .own (.int .u8),vi]
  | 3=>[.rd (.st 2), .own (.int .u8),vi,vb]
  | 4=>[.own (.int .u8)]
  | _=>[]
abbrev aa7: ∀ k,aZ.V→TupD D (OM k)→aZ.V
  | 1,c,t=> {c with l0:=t.1,gF:=t.2.1}
  | 2,c,t=> {c with l0:=t.1,nB:=t.2.1,i5:=t.2.2.1}
  | 3,c,t=> {c with l0:=t.1,nB:=t.2.1,i5:=t.2.2.1,v37:=t.2.2.2.1}
  | 4,c,t=> {c with nB:=t.1}
  | _,c,_=>c
abbrev aa8: ∀ k,aZ.V→TupD D (OM k)
  | 1,c=>(c.l0,c.gF,())
  | 2,c=>(c.l0,c.nB,c.i5,())
  | 3,c=>(c.l0,c.nB,c.i5,c.v37,())
  | 4,c=>(c.nB,())
  | 0,c=>()
  | _+5,c=>()
abbrev Te (Q:aZ.QT):Nat→List (aZ.V→Prop)→aZ.V→Prop
  | 1,[],c=>aZ.K1 Q c
  | 2,[S2],c=>aZ.B2 S2 Q c
  | 3,[S2],c=>aZ.K3 S2 Q c
  | 4,[S4],c=>aZ.B4 S4 Q c
  | _,_,_=>False
abbrev aa9 (Q:QT Gw):Pts D:=Pts.kn OM aa7 aa8 (by intro k b t; match k,t with | 0,t | 1,t | 2,t | 3,t | 4,t | _+5,t=>rfl) (fun σ=>Te (fun r0 r1=>Q (r0,r1,()) (()) σ))
abbrev C32:Ctrs D:=((30,Gw)::C30)
abbrev Gx:Ctr D:= {ps:=[.val (.st 1),vi,vi],rs:=[vi],bk:=[],sg:=false,P:=fun x σ Q=>bg x.1 x.2.1 x.2.2.1 (fun r0=>Q (r0,()) (()) σ)}
noncomputable def c32:Code:=Tryz.f32.body.getD .skip
def ON:Ann:=(sl (.seq (.join 1 [1,2,18] lf (.cond s2 lf)) s2))
abbrev OO:Nat→List Ds
  | 1=>[vi,vi,vb]
  | _=>[]
abbrev abb: ∀ k,bg.V→TupD D (OO k)→bg.V
  | 1,c,t=> {c with bA:=t.1,dg:=t.2.1,jO:=t.2.2.1}
  | _,c,_=>c
abbrev abc: ∀ k,bg.V→TupD D (OO k)
  | 1,c=>(c.bA,c.dg,c.jO,())
  | 0,c=>()
  | _+2,c=>()
abbrev Tf (Q:bg.QT):Nat→List (bg.V→Prop)→bg.V→Prop
  | 1,[],c=>bg.K1 Q c
  | _,_,_=>False
abbrev abd (Q:QT Gx):Pts D:=Pts.kn OO abb abc (by intro k b t; match k,t with | 0,t | 1,t | _+2,t=>rfl) (fun σ=>Tf (fun r0=>Q (r0,()) (()) σ))
abbrev OP:Ctrs D:=((32,Gx)::C32)
abbrev zm:Ctr D:= {ps:=[rb],rs:=[vu],bk:=[],sg:=false,P:=fun x σ Q=>gj x.1 (fun r0=>Q (r0,()) (()) σ)}
noncomputable def abe:Code:=Tryz.f112.body.getD .skip
def abf:Ann:=(sl (.seq (.plan (.take 0 [] (.take 1 [] (.take 2 [] (.take 3 [] (.take 4 [] (.take 5 [] (.take 6 [] (.take 7 [] (.take 8 [] (.take 9 [] (.take 10 [] (.take 11 [] (.take 12 [] (.take 13 [] (.take 14 [] (.take 15 [] (.take 16 [] (.take 17 [] (.take 18 [] (.take 19 [] (.take 20 [] (.take 21 [] (.take 22 [] .done)))))))))))))))))))))))) lf))
abbrev Tg (Q:QT zm):Pts D:=Pts.no
abbrev OQ:Ctrs D:=((112,zm)::OP)
abbrev zn:Ctr D:= {ps:=[],rs:=[.own (.list (.int .i64))],bk:=[],sg:=false,P:=fun x σ Q=>kT (fun r0=>Q (r0,()) (()) σ)}
noncomputable def abg:Code:=Tryz.f113.body.getD .skip
def abh:Ann:=(sl s2)
abbrev Th (Q:QT zn):Pts D:=Pts.no
abbrev OR:Ctrs D:=((113,zn)::OQ)
abbrev zo:Ctr D:= {ps:=[vu,vi],rs:=[vu],bk:=[],sg:=false,P:=fun x σ Q=>bK x.1 x.2.1 (fun r0=>Q (r0,()) (()) σ)}
noncomputable def abi:Code:=Tryz.f122.body.getD .skip
def abj:Ann:=(sl (.seq (sl (.block (.loop 1 [0,1,5] (.seq (sl (.cond lf lf)) (.seq (.block lf) lf))))) s2))
abbrev Gy:Nat→List Ds
  | 1=>[vu,vi,vi]
  | _=>[]
abbrev Ti: ∀ k,bK.V→TupD D (Gy k)→bK.V
  | 1,c,t=> {c with x0:=t.1,n1:=t.2.1,i5:=t.2.2.1}
  | _,c,_=>c
abbrev Tj: ∀ k,bK.V→TupD D (Gy k)
  | 1,c=>(c.x0,c.n1,c.i5,())
  | 0,c=>()
  | _+2,c=>()
abbrev OS (Q:bK.QT):Nat→List (bK.V→Prop)→bK.V→Prop
  | 1,[S1],c=>bK.B1 S1 Q c
  | _,_,_=>False
abbrev Tk (Q:QT zo):Pts D:=Pts.kn Gy Ti Tj (by intro k b t; match k,t with | 0,t | 1,t | _+2,t=>rfl) (fun σ=>OS (fun r0=>Q (r0,()) (()) σ))
abbrev OT:Ctrs D:=((122,zo)::OR)
abbrev zq:Ctr D:= {ps:=[.val (.vec .u32 4)],rs:=[.val (.vec .u32 4)],bk:=[],sg:=false,P:=fun x σ Q=>fB x.1 (fun r0=>Q (r0,()) (()) σ)}
noncomputable def abk:Code:=Tryz.f114.body.getD .skip
def abl:Ann:=(sl (.seq (.plan (.take 0 [] (.take 1 [] (.take 2 [] (.take 3 [] (.take 4 [] (.take 5 [] (.take 6 [] (.take 7 [] (.take 8 [] (.take 9 [] (.take 10 [] (.take 11 [] .done))))))))))))) (sl (sl (sl (sl (sl (sl (sl (sl s2))))))))))
abbrev Tl (Q:QT zq):Pts D:=Pts.no
abbrev C99:Ctrs D:=((114,zq)::OT)
abbrev Gz:Ctr D:= {ps:=[.val (.vec .u8 32), .val (.vec .u8 12),vu],rs:=[.val (.vec .u8 64)],bk:=[],sg:=false,P:=fun x σ Q=>af x.1 x.2.1 x.2.2.1 (fun r0=>Q (r0,()) (()) σ)}
noncomputable def c99:Code:=Tryz.f99.body.getD .skip
def A99:Ann:=(sl (sl (.seq (sl (.block (.loop 1 [2,3,4,6,7,8] (.seq (sl (.cond lf lf)) (.seq (.block lf) lf))))) (sl (.seq (sl (.block (.loop 2 [4,6,7,9] (.seq (sl (.cond lf lf)) (.seq (.block lf) lf))))) (sl (.seq (sl (.block (.loop 3 [6,7,10,11] (.seq (sl (.cond lf lf)) (.seq (.block (sl (.block (.loop 4 [6,7,10,11,59,60,61] (sl (.seq (.cond lf lf) (.seq (.block (sl (.join 6 [6,7,10,11,13,14,59,60,61] (.plan (.take 0 [25,27] (.take 1 [25,27] (.take 2 [25,27] (.take 3 [25,27] (.take 4 [25,27] (.take 5 [25,27] (.take 6 [25,27] (.take 7 [25,27] (.take 8 [25,27] (.take 9 [25,27] (.take 10 [25,27] (.take 11 [25,27] (.take 12 [25,27] (.take 13 [25,27] (.take 14 [25,27] (.take 15 [25,27] (.take 16 [25,27] (.take 17 [25,27] (.take 18 [25,27] (.take 19 [25,27] (.take 20 [25,27] (.take 21 [25,27] (.take 22 [25,27] (.take 23 [25,27] (.take 24 [25,27] (.all (.alt 25 (.all (.alt 26 (.all (.alt 27 .done .nil)) .nil)) (.alt 26 (.all (.alt 25 (.all (.alt 27 .done .nil)) .nil)) .nil))))))))))))))))))))))))))))) (sl (.block (.loop 5 [6,7,10,11,13,14,15,59,60,61] (.seq (sl (.cond lf lf)) (.seq (.block (.plan (.take 0 [9] (.take 1 [9] (.take 2 [9] (.take 3 [9] (.take 4 [9] (.take 5 [9] (.take 6 [9] (.take 7 [9] (.take 8 [9] (.all (.alt 9 .done .nil))))))))))))) lf)))))))) lf))))))) lf))))) (sl (.seq (sl (.block (.loop 7 [6,7,10,16,17] (.seq (sl (.cond lf lf)) (.seq (.block (.seq (.plan (.take 0 [] (.take 1 [] (.take 2 [] (.take 3 [] (.take 4 [] (.take 5 [] (.take 6 [] (.take 7 [] (.take 8 [] (.take 9 [] .done))))))))))) (sl (.block (.loop 8 [6,7,10,16,17,18,19] (.seq (sl (.cond lf lf)) (.seq (.block lf) lf))))))) lf))))) s2)))))))))
abbrev OU:Nat→List Ds
  | 1=>[vu, .blk 22 [.v (.vec .u8 32)], .blk 130 [.v (.vec .u8 12)], .blk 160 [.v (.vec .u8 64)], .own (.int .u32),vi]
  | 2=>[.blk 130 [.v (.vec .u8 12)], .blk 160 [.v (.vec .u8 64)], .own (.int .u32),vi]
  | 3=>[.blk 160 [.v (.vec .u8 64)], .own (.int .u32), .own (.int .u32),vi]
  | 4=>[.blk 160 [.v (.vec .u8 64)], .own (.int .u32), .own (.int .u32),vi, .own (.list (.int .i64)),vi,vi]
  | 6=>[.blk 160 [.v (.vec .u8 64)], .own (.int .u32), .own (.int .u32),vi, .val (.list (.int .i64)), .blk 178 [.v (.vec .u32 4)], .own (.list (.int .i64)),vi,vi]
  | 5=>[.blk 160 [.v (.vec .u8 64)], .own (.int .u32), .own (.int .u32),vi, .val (.list (.int .i64)), .blk 178 [.v (.vec .u32 4)],vi, .own (.list (.int .i64)),vi,vi]
  | 7=>[.blk 160 [.v (.vec .u8 64)], .own (.int .u32), .own (.int .u32), .blk 160 [.v (.vec .u8 64)],vi]
  | 8=>[.blk 160 [.v (.vec .u8 64)], .own (.int .u32), .own (.int .u32), .blk 160 [.v (.vec .u8 64)],vi,vu,vi]
  | _=>[]
abbrev abn: ∀ k,af.V→TupD D (OU k)→af.V
  | 1,c,t=> {c with bM:=t.1,qo:=t.2.1.1,gC:=t.2.2.1.1,v6:=t.2.2.2.1.1,bw:=t.2.2.2.2.1,i8:=t.2.2.2.2.2.1}
  | 2,c,t=> {c with gC:=t.1.1,v6:=t.2.1.1,bw:=t.2.2.1,i9:=t.2.2.2.1}
  | 3,c,t=> {c with v6:=t.1.1,bw:=t.2.1,rA:=t.2.2.1,gl:=t.2.2.2.1}
  | 4,c,t=> {c with v6:=t.1.1,bw:=t.2.1,rA:=t.2.2.1,gl:=t.2.2.2.1,v59:=t.2.2.2.2.1,Fv:=t.2.2.2.2.2.1,nR:=t.2.2.2.2.2.2.1}
  | 6,c,t=> {c with v6:=t.1.1,bw:=t.2.1,rA:=t.2.2.1,gl:=t.2.2.2.1,Ke:=t.2.2.2.2.1,MU:=t.2.2.2.2.2.1.1,v59:=t.2.2.2.2.2.2.1,Fv:=t.2.2.2.2.2.2.2.1,nR:=t.2.2.2.2.2.2.2.2.1}
  | 5,c,t=> {c with v6:=t.1.1,bw:=t.2.1,rA:=t.2.2.1,gl:=t.2.2.2.1,Ke:=t.2.2.2.2.1,MU:=t.2.2.2.2.2.1.1,MV:=t.2.2.2.2.2.2.1,v59:=t.2.2.2.2.2.2.2.1,Fv:=t.2.2.2.2.2.2.2.2.1,nR:=t.2.2.2.2.2.2.2.2.2.1}
  | 7,c,t=> {c with v6:=t.1.1,bw:=t.2.1,rA:=t.2.2.1,nU:=t.2.2.2.1.1,i17:=t.2.2.2.2.1}
  | 8,c,t=> {c with v6:=t.1.1,bw:=t.2.1,rA:=t.2.2.1,nU:=t.2.2.2.1.1,i17:=t.2.2.2.2.1,RU:=t.2.2.2.2.2.1,FE:=t.2.2.2.2.2.2.1}
  | _,c,_=>c
abbrev abo: ∀ k,af.V→TupD D (OU k)
  | 1,c=>(c.bM,(c.qo,()),(c.gC,()),(c.v6,()),c.bw,c.i8,())
  | 2,c=>((c.gC,()),(c.v6,()),c.bw,c.i9,())
  | 3,c=>((c.v6,()),c.bw,c.rA,c.gl,())
  | 4,c=>((c.v6,()),c.bw,c.rA,c.gl,c.v59,c.Fv,c.nR,())
  | 6,c=>((c.v6,()),c.bw,c.rA,c.gl,c.Ke,(c.MU,()),c.v59,c.Fv,c.nR,())
  | 5,c=>((c.v6,()),c.bw,c.rA,c.gl,c.Ke,(c.MU,()),c.MV,c.v59,c.Fv,c.nR,())
  | 7,c=>((c.v6,()),c.bw,c.rA,(c.nU,()),c.i17,())
  | 8,c=>((c.v6,()),c.bw,c.rA,(c.nU,()),c.i17,c.RU,c.FE,())
  | 0,c=>()
  | _+9,c=>()
abbrev Tm (Q:af.QT):Nat→List (af.V→Prop)→af.V→Prop
  | 1,[S1],c=>af.B1 S1 Q c
  | 2,[S2],c=>af.B2 S2 Q c
  | 3,[S3],c=>af.B3 S3 Q c
  | 4,[S4,S3],c=>af.B4 S3 S4 Q c
  | 6,[S4,S3],c=>af.K6 S3 S4 Q c
  | 5,[S5,S4,S3],c=>af.B5 S3 S4 S5 Q c
  | 7,[S7],c=>af.B7 S7 Q c
  | 8,[S8,S7],c=>af.B8 S7 S8 Q c
  | _,_,_=>False
abbrev abp (Q:QT Gz):Pts D:=Pts.kn OU abn abo (by intro k b t; match k,t with | 0,t | 1,t | 2,t | 3,t | 4,t | 5,t | 6,t | 7,t | 8,t | _+9,t=>rfl) (fun σ=>Tm (fun r0=>Q (r0,()) (()) σ))
abbrev C79:Ctrs D:=((99,Gz)::C99)
abbrev GA:Ctr D:= {ps:=[.val (.vec .u8 32), .val (.vec .u8 12),vu,vi],rs:=[.own (.int .u8)],bk:=[],sg:=false,P:=fun x σ Q=>bt x.1 x.2.1 x.2.2.1 x.2.2.2.1 (fun r0=>Q (r0,()) (()) σ)}
noncomputable def c79:Code:=Tryz.f79.body.getD .skip
def A79:Ann:=(sl (.seq (.join 1 [2,3,4,5,16] lf (.cond s2 lf)) (sl (.seq (.block (.loop 2 [2,3,4,5,9] (.seq (sl (.cond lf lf)) (.block (sl s2))))) s2))))
abbrev OV:Nat→List Ds
  | 1=>[vu,vi, .blk 22 [.v (.vec .u8 32)], .blk 130 [.v (.vec .u8 12)],vb]
  | 2=>[vu,vi, .blk 22 [.v (.vec .u8 32)], .blk 130 [.v (.vec .u8 12)], .own (.int .u8)]
  | _=>[]
abbrev abr: ∀ k,bt.V→TupD D (OV k)→bt.V
  | 1,c,t=> {c with bM:=t.1,ki:=t.2.1,jS:=t.2.2.1.1,iI:=t.2.2.2.1.1,ej:=t.2.2.2.2.1}
  | 2,c,t=> {c with bM:=t.1,ki:=t.2.1,jS:=t.2.2.1.1,iI:=t.2.2.2.1.1,gE:=t.2.2.2.2.1}
  | _,c,_=>c
abbrev abt: ∀ k,bt.V→TupD D (OV k)
  | 1,c=>(c.bM,c.ki,(c.jS,()),(c.iI,()),c.ej,())
  | 2,c=>(c.bM,c.ki,(c.jS,()),(c.iI,()),c.gE,())
  | 0,c=>()
  | _+3,c=>()
abbrev Tn (Q:bt.QT):Nat→List (bt.V→Prop)→bt.V→Prop
  | 1,[],c=>bt.K1 Q c
  | 2,[S2],c=>bt.B2 S2 Q c
  | _,_,_=>False
abbrev abu (Q:QT GA):Pts D:=Pts.kn OV abr abt (by intro k b t; match k,t with | 0,t | 1,t | 2,t | _+3,t=>rfl) (fun σ=>Tn (fun r0=>Q (r0,()) (()) σ))
abbrev C65:Ctrs D:=((79,GA)::C79)
abbrev GB:Ctr D:= {ps:=[.val (.vec .u8 32), .val (.vec .u8 12),vu,rb],rs:=[.own (.int .u8)],bk:=[],sg:=false,P:=fun x σ Q=>bV x.1 x.2.1 x.2.2.1 x.2.2.2.1 (fun r0=>Q (r0,()) (()) σ)}
noncomputable def c65:Code:=Tryz.f65.body.getD .skip
def A65:Ann:=(sl (sl (sl (.seq (sl (.block (.loop 1 [3,9,10,11] (.seq (sl (.cond lf lf)) (.seq (.block (.plan (.take 0 [12] (.take 1 [12] (.take 2 [12] (.take 3 [12] (.take 4 [12] (.take 5 [12] (.take 6 [12] (.take 7 [12] (.take 8 [12] (.take 9 [12] (.take 10 [12] (.take 11 [12] (.all (.alt 12 .done .nil)))))))))))))))) lf))))) s2))))
abbrev OW:Nat→List Ds
  | 1=>[rb, .own (.int .u8), .own (.int .u8),vi]
  | _=>[]
abbrev abw: ∀ k,bV.V→TupD D (OW k)→bV.V
  | 1,c,t=> {c with b3:=t.1,s9:=t.2.1,qt:=t.2.2.1,i11:=t.2.2.2.1}
  | _,c,_=>c
abbrev abx: ∀ k,bV.V→TupD D (OW k)
  | 1,c=>(c.b3,c.s9,c.qt,c.i11,())
  | 0,c=>()
  | _+2,c=>()
abbrev To (Q:bV.QT):Nat→List (bV.V→Prop)→bV.V→Prop
  | 1,[S1],c=>bV.B1 S1 Q c
  | _,_,_=>False
abbrev aby (Q:QT GB):Pts D:=Pts.kn OW abw abx (by intro k b t; match k,t with | 0,t | 1,t | _+2,t=>rfl) (fun σ=>To (fun r0=>Q (r0,()) (()) σ))
abbrev C66:Ctrs D:=((65,GB)::C65)
abbrev GC:Ctr D:= {ps:=[vu, .val (.int .u64)],rs:=[.val (.vec .u8 12)],bk:=[],sg:=false,P:=fun x σ Q=>bx x.1 x.2.1 (fun r0=>Q (r0,()) (()) σ)}
noncomputable def c66:Code:=Tryz.f66.body.getD .skip
def A66:Ann:=(sl (sl (.seq (sl (.block (.loop 1 [0,1,4,5,6] (.seq (sl (.cond lf lf)) (.seq (.block lf) lf))))) (.seq (sl (.block (.loop 2 [1,4,5,7] (.seq (sl (.cond lf lf)) (.seq (.block lf) lf))))) s2))))
abbrev OX:Nat→List Ds
  | 1=>[vu, .val (.int .u64), .blk 130 [.v (.vec .u8 12)], .blk 130 [.v (.vec .u8 12)],vi]
  | 2=>[.val (.int .u64), .blk 130 [.v (.vec .u8 12)], .blk 130 [.v (.vec .u8 12)],vi]
  | _=>[]
abbrev abA: ∀ k,bx.V→TupD D (OX k)→bx.V
  | 1,c,t=> {c with iz:=t.1,gu:=t.2.1,v4:=t.2.2.1.1,eD:=t.2.2.2.1.1,i6:=t.2.2.2.2.1}
  | 2,c,t=> {c with gu:=t.1,v4:=t.2.1.1,eD:=t.2.2.1.1,i7:=t.2.2.2.1}
  | _,c,_=>c
abbrev abB: ∀ k,bx.V→TupD D (OX k)
  | 1,c=>(c.iz,c.gu,(c.v4,()),(c.eD,()),c.i6,())
  | 2,c=>(c.gu,(c.v4,()),(c.eD,()),c.i7,())
  | 0,c=>()
  | _+3,c=>()
abbrev Tp (Q:bx.QT):Nat→List (bx.V→Prop)→bx.V→Prop
  | 1,[S1],c=>bx.B1 S1 Q c
  | 2,[S2],c=>bx.B2 S2 Q c
  | _,_,_=>False
abbrev abC (Q:QT GC):Pts D:=Pts.kn OX abA abB (by intro k b t; match k,t with | 0,t | 1,t | 2,t | _+3,t=>rfl) (fun σ=>Tp (fun r0=>Q (r0,()) (()) σ))
abbrev C52:Ctrs D:=((66,GC)::C66)
abbrev GD:Ctr D:= {ps:=[.val (.vec .u8 32),vu,vi,rb],rs:=[.own (.int .u8),vi],bk:=[],sg:=false,P:=fun x σ Q=>cr x.1 x.2.1 x.2.2.1 x.2.2.2.1 (fun r0 r1=>Q (r0,r1,()) (()) σ)}
noncomputable def c52:Code:=Tryz.f52.body.getD .skip
def A52:Ann:=(sl (.seq (.join 1 [1,2,3,4,16] lf (.cond s2 lf)) (.seq (.plan (.take 0 [6] (.take 1 [4,6] (.take 2 [4,6] (.take 3 [4,6] (.take 5 [6] (.all (.alt 4 (.all (.alt 6 (.take 7 [] (.take 8 [] .done)) .nil)) .nil)))))))) lf)))
abbrev OY:Nat→List Ds
  | 1=>[vu,vi,rb, .blk 22 [.v (.vec .u8 32)],vb]
  | _=>[]
abbrev abE: ∀ k,cr.V→TupD D (OY k)→cr.V
  | 1,c,t=> {c with cT:=t.1,gO:=t.2.1,jU:=t.2.2.1,jS:=t.2.2.2.1.1,ej:=t.2.2.2.2.1}
  | _,c,_=>c
abbrev abF: ∀ k,cr.V→TupD D (OY k)
  | 1,c=>(c.cT,c.gO,c.jU,(c.jS,()),c.ej,())
  | 0,c=>()
  | _+2,c=>()
abbrev Tq (Q:cr.QT):Nat→List (cr.V→Prop)→cr.V→Prop
  | 1,[],c=>cr.K1 Q c
  | _,_,_=>False
abbrev abG (Q:QT GD):Pts D:=Pts.kn OY abE abF (by intro k b t; match k,t with | 0,t | 1,t | _+2,t=>rfl) (fun σ=>Tq (fun r0 r1=>Q (r0,r1,()) (()) σ))
abbrev C80:Ctrs D:=((52,GD)::C52)
abbrev GF:Ctr D:= {ps:=[vi],rs:=[.own (.int .u64)],bk:=[],sg:=false,P:=fun x σ Q=>aG x.1 (fun r0=>Q (r0,()) (()) σ)}
noncomputable def c80:Code:=Tryz.f80.body.getD .skip
def A80:Ann:=(sl (sl (.seq (sl (.block (.loop 1 [0,3,4] (.seq (sl (.cond lf lf)) (.join 4 [0,3,4] (.block (sl (.seq (sl (.block (.loop 2 [0,3,4,5,6] (.seq (sl (.cond lf lf)) (.join 3 [0,3,4,5,6] (.block lf) lf))))) (sl (.cond lf lf))))) lf))))) s2)))
abbrev OZ:Nat→List Ds
  | 1=>[vi, .own (.int .u64), .val (.int .u64)]
  | 4=>[vi, .own (.int .u64), .val (.int .u64)]
  | 2=>[vi, .own (.int .u64), .val (.int .u64),vb,vi]
  | 3=>[vi, .own (.int .u64), .val (.int .u64),vb,vi]
  | _=>[]
abbrev abI: ∀ k,aG.V→TupD D (OZ k)→aG.V
  | 1,c,t=> {c with n0:=t.1,di:=t.2.1,p4:=t.2.2.1}
  | 4,c,t=> {c with n0:=t.1,di:=t.2.1,p4:=t.2.2.1}
  | 2,c,t=> {c with n0:=t.1,di:=t.2.1,p4:=t.2.2.1,Fx:=t.2.2.2.1,i6:=t.2.2.2.2.1}
  | 3,c,t=> {c with n0:=t.1,di:=t.2.1,p4:=t.2.2.1,Fx:=t.2.2.2.1,i6:=t.2.2.2.2.1}
  | _,c,_=>c
abbrev abJ: ∀ k,aG.V→TupD D (OZ k)
  | 1,c=>(c.n0,c.di,c.p4,())
  | 4,c=>(c.n0,c.di,c.p4,())
  | 2,c=>(c.n0,c.di,c.p4,c.Fx,c.i6,())
  | 3,c=>(c.n0,c.di,c.p4,c.Fx,c.i6,())
  | 0,c=>()
  | _+5,c=>()
abbrev Tr (Q:aG.QT):Nat→List (aG.V→Prop)→aG.V→Prop
  | 1,[S1],c=>aG.B1 S1 Q c
  | 4,[S1],c=>aG.K4 S1 Q c
  | 2,[S2,S1],c=>aG.B2 S1 S2 Q c
  | 3,[S2,S1],c=>aG.K3 S1 S2 Q c
  | _,_,_=>False
abbrev abK (Q:QT GF):Pts D:=Pts.kn OZ abI abJ (by intro k b t; match k,t with | 0,t | 1,t | 2,t | 3,t | 4,t | _+5,t=>rfl) (fun σ=>Tr (fun r0=>Q (r0,()) (()) σ))
abbrev O0:Ctrs D:=((80,GF)::C80)
abbrev zu:Ctr D:= {ps:=[.val (.int .u64), .val (.int .u64)],rs:=[.val (.int .u64), .val (.int .u64)],bk:=[],sg:=false,P:=fun x σ Q=>fo x.1 x.2.1 (fun r0 r1=>Q (r0,r1,()) (()) σ)}
noncomputable def abL:Code:=Tryz.f100.body.getD .skip
def abM:Ann:=(sl (sl (sl (sl (sl s2)))))
abbrev Ts (Q:QT zu):Pts D:=Pts.no
abbrev C81:Ctrs D:=((100,zu)::O0)
abbrev GG:Ctr D:= {ps:=[.val (.int .u64)],rs:=[vu],bk:=[],sg:=false,P:=fun x σ Q=>aW x.1 (fun r0=>Q (r0,()) (()) σ)}
noncomputable def c81:Code:=Tryz.f81.body.getD .skip
def A81:Ann:=(sl (sl (.seq (sl (.block (.loop 1 [0,3,4] (.seq (sl (.cond lf lf)) (.join 4 [0,3,4] (.block (sl (sl (sl (sl (sl (sl (.join 3 [0,3,4,5,9,12,13] (sl (.cond lf lf)) (sl (.join 2 [0,3,4,5,67] lf (.cond lf lf))))))))))) lf))))) s2)))
abbrev O1:Nat→List Ds
  | 1=>[.val (.int .u64), .val (.int .u64),vi]
  | 4=>[.val (.int .u64), .val (.int .u64),vi]
  | 3=>[.val (.int .u64), .val (.int .u64),vi, .val (.int .u64), .val (.int .u64), .val (.int .u64), .val (.int .u64)]
  | 2=>[.val (.int .u64), .val (.int .u64),vi, .val (.int .u64),vb]
  | _=>[]
abbrev abO: ∀ k,aW.V→TupD D (O1 k)→aW.V
  | 1,c,t=> {c with p0:=t.1,r3:=t.2.1,k4:=t.2.2.1}
  | 4,c,t=> {c with p0:=t.1,r3:=t.2.1,k4:=t.2.2.1}
  | 3,c,t=> {c with p0:=t.1,r3:=t.2.1,k4:=t.2.2.1,x5:=t.2.2.2.1,Rm:=t.2.2.2.2.1,uw:=t.2.2.2.2.2.1,wJ:=t.2.2.2.2.2.2.1}
  | 2,c,t=> {c with p0:=t.1,r3:=t.2.1,k4:=t.2.2.1,x5:=t.2.2.2.1,MW:=t.2.2.2.2.1}
  | _,c,_=>c
abbrev abP: ∀ k,aW.V→TupD D (O1 k)
  | 1,c=>(c.p0,c.r3,c.k4,())
  | 4,c=>(c.p0,c.r3,c.k4,())
  | 3,c=>(c.p0,c.r3,c.k4,c.x5,c.Rm,c.uw,c.wJ,())
  | 2,c=>(c.p0,c.r3,c.k4,c.x5,c.MW,())
  | 0,c=>()
  | _+5,c=>()
abbrev Tt (Q:aW.QT):Nat→List (aW.V→Prop)→aW.V→Prop
  | 1,[S1],c=>aW.B1 S1 Q c
  | 4,[S1],c=>aW.K4 S1 Q c
  | 3,[S1],c=>aW.K3 S1 Q c
  | 2,[S1],c=>aW.K2 S1 Q c
  | _,_,_=>False
abbrev abQ (Q:QT GG):Pts D:=Pts.kn O1 abO abP (by intro k b t; match k,t with | 0,t | 1,t | 2,t | 3,t | 4,t | _+5,t=>rfl) (fun σ=>Tt (fun r0=>Q (r0,()) (()) σ))
abbrev C82:Ctrs D:=((81,GG)::C81)
abbrev GH:Ctr D:= {ps:=[.val (.int .u64)],rs:=[vu],bk:=[],sg:=false,P:=fun x σ Q=>aU x.1 (fun r0=>Q (r0,()) (()) σ)}
noncomputable def c82:Code:=Tryz.f82.body.getD .skip
def A82:Ann:=(sl (sl (.seq (sl (.block (.loop 1 [0,3,4] (.seq (sl (.cond lf lf)) (.join 3 [0,3,4] (.block (sl (sl (.join 2 [0,3,4,5,33] lf (.cond lf lf))))) lf))))) s2)))
abbrev O2:Nat→List Ds
  | 1=>[.val (.int .u64), .val (.int .u64),vi]
  | 3=>[.val (.int .u64), .val (.int .u64),vi]
  | 2=>[.val (.int .u64), .val (.int .u64),vi, .val (.int .u64),vb]
  | _=>[]
abbrev abS: ∀ k,aU.V→TupD D (O2 k)→aU.V
  | 1,c,t=> {c with p0:=t.1,r3:=t.2.1,k4:=t.2.2.1}
  | 3,c,t=> {c with p0:=t.1,r3:=t.2.1,k4:=t.2.2.1}
  | 2,c,t=> {c with p0:=t.1,r3:=t.2.1,k4:=t.2.2.1,x5:=t.2.2.2.1,v33:=t.2.2.2.2.1}
  | _,c,_=>c
abbrev abT: ∀ k,aU.V→TupD D (O2 k)
  | 1,c=>(c.p0,c.r3,c.k4,())
  | 3,c=>(c.p0,c.r3,c.k4,())
  | 2,c=>(c.p0,c.r3,c.k4,c.x5,c.v33,())
  | 0,c=>()
  | _+4,c=>()
abbrev Tu (Q:aU.QT):Nat→List (aU.V→Prop)→aU.V→Prop
  | 1,[S1],c=>aU.B1 S1 Q c
  | 3,[S1],c=>aU.K3 S1 Q c
  | 2,[S1],c=>aU.K2 S1 Q c
  | _,_,_=>False
abbrev abU (Q:QT GH):Pts D:=Pts.kn O2 abS abT (by intro k b t; match k,t with | 0,t | 1,t | 2,t | 3,t | _+4,t=>rfl) (fun σ=>Tu (fun r0=>Q (r0,()) (()) σ))
abbrev C67:Ctrs D:=((82,GH)::C82)
abbrev GI:Ctr D:= {ps:=[],rs:=[.own (.int .u32), .own (.int .u32)],bk:=[],sg:=false,P:=fun x σ Q=>bF (fun r0 r1=>Q (r0,r1,()) (()) σ)}
noncomputable def c67:Code:=Tryz.f67.body.getD .skip
def A67:Ann:=(sl (sl (sl (.seq (sl (.block (.loop 1 [2,3,4,5] (.seq (sl (.cond lf lf)) (.seq (.block lf) lf))))) (.seq (sl (.block (.loop 2 [2,3,4,6] (.seq (sl (.cond lf lf)) (.seq (.block lf) lf))))) s2)))))
abbrev O3:Nat→List Ds
  | 1=>[.own (.int .u64), .own (.int .u32), .own (.int .u32),vi]
  | 2=>[.own (.int .u64), .own (.int .u32), .own (.int .u32),vi]
  | _=>[]
abbrev abW: ∀ k,bF.V→TupD D (O3 k)→bF.V
  | 1,c,t=> {c with l2:=t.1,k3:=t.2.1,lP:=t.2.2.1,t5:=t.2.2.2.1}
  | 2,c,t=> {c with l2:=t.1,k3:=t.2.1,lP:=t.2.2.1,t6:=t.2.2.2.1}
  | _,c,_=>c
abbrev abX: ∀ k,bF.V→TupD D (O3 k)
  | 1,c=>(c.l2,c.k3,c.lP,c.t5,())
  | 2,c=>(c.l2,c.k3,c.lP,c.t6,())
  | 0,c=>()
  | _+3,c=>()
abbrev Tv (Q:bF.QT):Nat→List (bF.V→Prop)→bF.V→Prop
  | 1,[S1],c=>bF.B1 S1 Q c
  | 2,[S2],c=>bF.B2 S2 Q c
  | _,_,_=>False
abbrev abY (Q:QT GI):Pts D:=Pts.kn O3 abW abX (by intro k b t; match k,t with | 0,t | 1,t | 2,t | _+3,t=>rfl) (fun σ=>Tv (fun r0 r1=>Q (r0,r1,()) (()) σ))
abbrev C68:Ctrs D:=((67,GI)::C67)
abbrev GJ:Ctr D:= {ps:=[rb],rs:=[.own (.int .u8)],bk:=[],sg:=false,P:=fun x σ Q=>bG x.1 (fun r0=>Q (r0,()) (()) σ)}
noncomputable def c68:Code:=Tryz.f68.body.getD .skip
def A68:Ann:=(sl (sl (.seq (.block (.loop 1 [0,3] (.seq (sl (.cond lf lf)) (.block lf)))) (sl (.seq (sl (.block (.loop 2 [3,4,5] (.seq (sl (.cond lf lf)) (.seq (.block lf) lf))))) s2)))))
abbrev O4:Nat→List Ds
  | 1=>[rb, .own (.int .u8)]
  | 2=>[.own (.int .u8), .val (.int .u64),vi]
  | _=>[]
abbrev ab0: ∀ k,bG.V→TupD D (O4 k)→bG.V
  | 1,c,t=> {c with b0:=t.1,di:=t.2.1}
  | 2,c,t=> {c with di:=t.1,n4:=t.2.1,i5:=t.2.2.1}
  | _,c,_=>c
abbrev ab1: ∀ k,bG.V→TupD D (O4 k)
  | 1,c=>(c.b0,c.di,())
  | 2,c=>(c.di,c.n4,c.i5,())
  | 0,c=>()
  | _+3,c=>()
abbrev Tw (Q:bG.QT):Nat→List (bG.V→Prop)→bG.V→Prop
  | 1,[S1],c=>bG.B1 S1 Q c
  | 2,[S2],c=>bG.B2 S2 Q c
  | _,_,_=>False
abbrev ab2 (Q:QT GJ):Pts D:=Pts.kn O4 ab0 ab1 (by intro k b t; match k,t with | 0,t | 1,t | 2,t | _+3,t=>rfl) (fun σ=>Tw (fun r0=>Q (r0,()) (()) σ))
abbrev C83:Ctrs D:=((68,GJ)::C68)
abbrev GK:Ctr D:= {ps:=[vu,vi],rs:=[vu],bk:=[],sg:=false,P:=fun x σ Q=>bu x.1 x.2.1 (fun r0=>Q (r0,()) (()) σ)}
noncomputable def c83:Code:=Tryz.f83.body.getD .skip
def A83:Ann:=(sl (sl (.seq (sl (.block (.loop 1 [0,1,5] (.seq (sl (.cond lf lf)) (.seq (.block lf) lf))))) s2)))
abbrev O5:Nat→List Ds
  | 1=>[vu,vi,vi]
  | _=>[]
abbrev ab4: ∀ k,bu.V→TupD D (O5 k)→bu.V
  | 1,c,t=> {c with x0:=t.1,n1:=t.2.1,i5:=t.2.2.1}
  | _,c,_=>c
abbrev ab5: ∀ k,bu.V→TupD D (O5 k)
  | 1,c=>(c.x0,c.n1,c.i5,())
  | 0,c=>()
  | _+2,c=>()
abbrev Tz (Q:bu.QT):Nat→List (bu.V→Prop)→bu.V→Prop
  | 1,[S1],c=>bu.B1 S1 Q c
  | _,_,_=>False
abbrev ab6 (Q:QT GK):Pts D:=Pts.kn O5 ab4 ab5 (by intro k b t; match k,t with | 0,t | 1,t | _+2,t=>rfl) (fun σ=>Tz (fun r0=>Q (r0,()) (()) σ))
abbrev C69:Ctrs D:=((83,GK)::C83)
abbrev GL:Ctr D:= {ps:=[.rd (.int .u32), .rd (.int .u32),rb],rs:=[.own (.int .u32)],bk:=[],sg:=false,P:=fun x σ Q=>aK x.1 x.2.1 x.2.2.1 (fun r0=>Q (r0,()) (()) σ)}
noncomputable def c69:Code:=Tryz.f69.body.getD .skip
def A69:Ann:=(sl (sl (.seq (sl (.block (.loop 1 [0,1,2,7,8] (.seq (sl (.cond lf lf)) (.join 2 [0,1,2,7,8] (.block (.seq (sl (.cond (.seq (.plan (.take 0 [35] (.take 1 [34,35] (.take 2 [34,35] (.take 3 [34,35] (.take 4 [34,35] (.take 5 [34,35] (.take 6 [34,35] (.take 7 [34,35] (.take 8 [34,35] (.take 9 [34,35] (.take 10 [34,35] (.take 11 [34,35] (.take 12 [34,35] (.take 13 [34,35] (.take 14 [34,35] (.take 15 [34,35] (.take 16 [34,35] (.take 17 [34,35] (.take 18 [34,35] (.take 19 [34,35] (.take 20 [34,35] (.take 21 [34,35] (.take 22 [34,35] (.take 23 [34,35] (.take 24 [34,35] (.take 25 [34,35] (.take 26 [34,35] (.take 27 [34,35] (.take 28 [34,35] (.take 29 [34,35] (.take 30 [34,35] (.take 31 [34,35] (.take 32 [34,35] (.take 33 [34,35] (.all (.alt 34 (.all (.alt 35 (.take 36 [] .done) .nil)) .nil))))))))))))))))))))))))))))))))))))) lf) lf)) (.seq (.plan (.take 0 [] (.take 1 [] (.take 2 [] (.take 3 [] (.take 4 [] (.take 5 [] (.take 6 [] (.take 7 [] (.take 8 [] (.take 9 [] (.take 10 [] (.take 11 [] .done))))))))))))) (sl (sl (.plan (.take 0 [17] (.take 1 [16,17] (.take 2 [16,17] (.take 3 [16,17] (.take 4 [16,17] (.take 5 [16,17] (.take 6 [16,17] (.take 7 [16,17] (.take 8 [16,17] (.take 9 [16,17] (.take 10 [16,17] (.take 11 [16,17] (.take 12 [16,17] (.take 13 [16,17] (.take 14 [16,17] (.take 15 [16,17] (.all (.alt 16 (.all (.alt 17 (.take 18 [] .done) .nil)) .nil)))))))))))))))))))))))) lf))))) (sl (.seq (sl (.block (.loop 3 [0,1,7,13,14] (.seq (sl (.cond lf lf)) (.seq (.block (.seq (.plan (.take 0 [] (.take 1 [] (.take 2 [] (.take 3 [] (.take 4 [] (.take 5 [] (.take 6 [] (.take 7 [] .done))))))))) (.seq (.plan (.take 0 [] (.take 1 [] (.take 2 [] (.take 3 [4,6,9] (.take 5 [6,9] (.take 8 [9] (.take 12 [] (.take 13 [] (.take 14 [] (.take 15 [] (.take 16 [] (.take 17 [] (.take 18 [] (.take 19 [] (.take 20 [] (.take 21 [] (.take 22 [] (.take 23 [] (.take 25 [] (.take 26 [] (.take 27 [] (.take 28 [] (.take 30 [] (.take 31 [] (.take 32 [] (.take 33 [] (.all (.alt 4 (.all (.alt 6 (.take 7 [] (.all (.alt 9 (.take 10 [] (.take 11 [] (.take 24 [] (.take 29 [] (.take 34 [] (.take 35 [] .done)))))) .nil))) .nil)) .nil))))))))))))))))))))))))))))) (.seq (.plan (.take 0 [1,3,6] (.take 2 [3,6] (.take 5 [6] (.take 8 [] (.take 9 [] (.take 10 [] (.take 11 [] (.take 12 [] (.take 13 [] (.take 14 [] (.take 15 [] (.take 16 [] (.take 17 [] (.take 18 [] (.take 19 [] (.take 20 [] (.take 21 [] (.take 22 [] (.take 23 [] (.take 24 [] (.take 25 [] (.take 26 [] (.all (.alt 1 (.all (.alt 3 (.take 4 [] (.all (.alt 6 (.take 7 [] (.take 27 [] (.take 28 [] .done))) .nil))) .nil)) .nil))))))))))))))))))))))))) (.plan (.take 0 [26] (.take 1 [26] (.take 2 [26] (.take 3 [26] (.take 4 [26] (.take 5 [26] (.take 6 [26] (.take 7 [26] (.take 8 [26] (.take 9 [26] (.take 10 [26] (.take 11 [26] (.take 12 [26] (.take 13 [26] (.take 14 [26] (.take 15 [26] (.take 16 [26] (.take 17 [26] (.take 18 [26] (.take 19 [26] (.take 20 [26] (.take 21 [26] (.take 22 [26] (.take 23 [26] (.take 24 [26] (.take 25 [26] (.all (.alt 26 (.take 27 [] .done) .nil))))))))))))))))))))))))))))))))) lf))))) (sl (.seq (sl (.block (.loop 4 [1,13,19,20] (.seq (sl (.cond lf lf)) (.seq (.block (.plan (.take 0 [11] (.take 1 [10,11] (.take 2 [10,11] (.take 3 [10,11] (.take 4 [10,11] (.take 5 [10,11] (.take 6 [10,11] (.take 7 [10,11] (.take 8 [10,11] (.take 9 [10,11] (.all (.alt 10 (.all (.alt 11 (.take 12 [] .done) .nil)) .nil)))))))))))))) lf))))) s2)))))))
abbrev O6:Nat→List Ds
  | 1=>[.rd (.int .u32), .rd (.int .u32),rb, .own (.int .u32),vi]
  | 2=>[.rd (.int .u32), .rd (.int .u32),rb, .own (.int .u32),vi]
  | 3=>[.rd (.int .u32), .rd (.int .u32), .own (.int .u32), .own (.int .u32),vi]
  | 4=>[.rd (.int .u32), .own (.int .u32), .own (.int .u32),vi]
  | _=>[]
abbrev ab8: ∀ k,aK.V→TupD D (O6 k)→aK.V
  | 1,c,t=> {c with k0:=t.1,s1:=t.2.1,b2:=t.2.2.1,w7:=t.2.2.2.1,t8:=t.2.2.2.2.1}
  | 2,c,t=> {c with k0:=t.1,s1:=t.2.1,b2:=t.2.2.1,w7:=t.2.2.2.1,t8:=t.2.2.2.2.1}
  | 3,c,t=> {c with k0:=t.1,s1:=t.2.1,w7:=t.2.2.1,nP:=t.2.2.2.1,t14:=t.2.2.2.2.1}
  | 4,c,t=> {c with s1:=t.1,nP:=t.2.1,qz:=t.2.2.1,i20:=t.2.2.2.1}
  | _,c,_=>c
abbrev ab9: ∀ k,aK.V→TupD D (O6 k)
  | 1,c=>(c.k0,c.s1,c.b2,c.w7,c.t8,())
  | 2,c=>(c.k0,c.s1,c.b2,c.w7,c.t8,())
  | 3,c=>(c.k0,c.s1,c.w7,c.nP,c.t14,())
  | 4,c=>(c.s1,c.nP,c.qz,c.i20,())
  | 0,c=>()
  | _+5,c=>()
abbrev TA (Q:aK.QT):Nat→List (aK.V→Prop)→aK.V→Prop
  | 1,[S1],c=>aK.B1 S1 Q c
  | 2,[S1],c=>aK.K2 S1 Q c
  | 3,[S3],c=>aK.B3 S3 Q c
  | 4,[S4],c=>aK.B4 S4 Q c
  | _,_,_=>False
abbrev acd (Q:QT GL):Pts D:=Pts.kn O6 ab8 ab9 (by intro k b t; match k,t with | 0,t | 1,t | 2,t | 3,t | 4,t | _+5,t=>rfl) (fun σ=>TA (fun r0=>Q (r0,()) (()) σ))
abbrev C53:Ctrs D:=((69,GL)::C69)
abbrev GM:Ctr D:= {ps:=[rb],rs:=[.val (.vec .u8 32)],bk:=[],sg:=false,P:=fun x σ Q=>bH x.1 (fun r0=>Q (r0,()) (()) σ)}
noncomputable def c53:Code:=Tryz.f53.body.getD .skip
def A53:Ann:=(sl (sl (sl (.seq (sl (.block (.loop 1 [2,3,4,5,6] (.seq (sl (.cond lf lf)) (.seq (.block lf) lf))))) (sl (.seq (sl (.block (.loop 2 [2,4,7,8] (.seq (sl (.cond lf lf)) (.seq (.block lf) lf))))) s2))))))
abbrev O7:Nat→List Ds
  | 1=>[.blk 22 [.v (.vec .u8 32)], .own (.int .u32), .own (.int .u32), .own (.int .u8),vi]
  | 2=>[.blk 22 [.v (.vec .u8 32)], .own (.int .u32), .blk 22 [.v (.vec .u8 32)],vi]
  | _=>[]
abbrev acf: ∀ k,bH.V→TupD D (O7 k)→bH.V
  | 1,c,t=> {c with v2:=t.1.1,k3:=t.2.1,s4:=t.2.2.1,p5:=t.2.2.2.1,i6:=t.2.2.2.2.1}
  | 2,c,t=> {c with v2:=t.1.1,s4:=t.2.1,fh:=t.2.2.1.1,i8:=t.2.2.2.1}
  | _,c,_=>c
abbrev acg: ∀ k,bH.V→TupD D (O7 k)
  | 1,c=>((c.v2,()),c.k3,c.s4,c.p5,c.i6,())
  | 2,c=>((c.v2,()),c.s4,(c.fh,()),c.i8,())
  | 0,c=>()
  | _+3,c=>()
abbrev TB (Q:bH.QT):Nat→List (bH.V→Prop)→bH.V→Prop
  | 1,[S1],c=>bH.B1 S1 Q c
  | 2,[S2],c=>bH.B2 S2 Q c
  | _,_,_=>False
abbrev ach (Q:QT GM):Pts D:=Pts.kn O7 acf acg (by intro k b t; match k,t with | 0,t | 1,t | 2,t | _+3,t=>rfl) (fun σ=>TB (fun r0=>Q (r0,()) (()) σ))
abbrev C33:Ctrs D:=((53,GM)::C53)
abbrev GN:Ctr D:= {ps:=[.val (.vec .u8 32),vu,vi,vi,rb],rs:=[.own (.int .u8), .val (.st 2),vi],bk:=[],sg:=false,P:=fun x σ Q=>cj x.1 x.2.1 x.2.2.1 x.2.2.2.1 x.2.2.2.2.1 (fun r0 r1 r2=>Q (r0,r1,r2,()) (()) σ)}
noncomputable def c33:Code:=Tryz.f33.body.getD .skip
def A33:Ann:=(sl (sl (.seq (.join 1 [1,2,11,13,32] lf (.cond s2 lf)) s2)))
abbrev O8:Nat→List Ds
  | 1=>[vu,vi, .blk 25 [.v (.st 2)], .own (.int .u8),vb]
  | _=>[]
abbrev acj: ∀ k,cj.V→TupD D (O8 k)→cj.V
  | 1,c,t=> {c with cT:=t.1,dg:=t.2.1,v11:=t.2.2.1.1,O9:=t.2.2.2.1,Bh:=t.2.2.2.2.1}
  | _,c,_=>c
abbrev ack: ∀ k,cj.V→TupD D (O8 k)
  | 1,c=>(c.cT,c.dg,(c.v11,()),c.O9,c.Bh,())
  | 0,c=>()
  | _+2,c=>()
abbrev TC (Q:cj.QT):Nat→List (cj.V→Prop)→cj.V→Prop
  | 1,[],c=>cj.K1 Q c
  | _,_,_=>False
abbrev acm (Q:QT GN):Pts D:=Pts.kn O8 acj ack (by intro k b t; match k,t with | 0,t | 1,t | _+2,t=>rfl) (fun σ=>TC (fun r0 r1 r2=>Q (r0,r1,r2,()) (()) σ))
abbrev C12:Ctrs D:=((33,GN)::C33)
abbrev GO:Ctr D:= {ps:=[.val (.vec .u8 32),vu, .val (.st 1), .val (.st 2), .rd (.st 3), .rd (.st 4)],rs:=[.val (.st 11)],bk:=[],sg:=false,P:=fun x σ Q=>ai x.1 x.2.1 x.2.2.1 x.2.2.2.1 x.2.2.2.2.1 x.2.2.2.2.2.1 (fun r0=>Q (r0,()) (()) σ)}
noncomputable def c12:Code:=Tryz.f12.body.getD .skip
def A12:Ann:=(sl (.seq (.join 1 [1,4,5,6,8,9,12,44] lf (.cond s2 lf)) (sl (.seq (.plan (.take 0 [3] (.take 1 [2,3] (.all (.alt 2 (.all (.alt 3 (.take 4 [] .done) .nil)) .nil))))) (sl (sl (.seq (sl (.block (.loop 2 [1,4,5,6,8,9,12,13,14,15,16,17] (.seq (sl (.cond lf lf)) (.join 9 [1,4,5,6,8,9,12,13,14,15,16,17] (.block (sl (.join 8 [1,4,5,6,8,9,12,13,14,15,16,17,18] (sl (.cond (sl (.block (.loop 3 [1,4,5,6,8,9,12,13,14,15,16,17,18,19] (.seq (sl (.cond lf lf)) (.join 4 [1,4,5,6,8,9,12,13,14,15,16,17,18,19] (.block (sl (.cond lf lf))) lf))))) (sl (.cond (sl (sl (sl (.seq (sl (.block (.loop 5 [1,4,5,6,8,9,12,13,14,15,16,17,22,23,24] (.seq (sl (.cond lf lf)) (.join 6 [1,4,5,6,8,9,12,13,14,15,16,17,22,23,24] (.block (sl (.cond lf lf))) lf))))) s2)))) lf)))) (sl (.join 7 [1,4,5,6,8,9,12,13,14,15,16,17,18,25] (sl (sl (.cond s2 lf))) (sl (sl (sl (sl (sl (.cond lf lf))))))))))) lf))))) s2)))))))
abbrev Pa:Nat→List Ds
  | 1=>[vu, .rd (.st 3), .rd (.st 4), .blk 22 [.v (.vec .u8 32)], .blk 37 [.v (.st 1)], .blk 25 [.v (.st 2)], .blk 54 [.own (.st 10), .own (.st 3), .v (.int .i64), .v (.int .u32), .v (.vec .u8 32), .v (.int .i64)],vb]
  | 2=>[vu, .rd (.st 3), .rd (.st 4), .blk 22 [.v (.vec .u8 32)], .blk 37 [.v (.st 1)], .blk 25 [.v (.st 2)], .blk 54 [.own (.st 10), .own (.st 3), .v (.int .i64), .v (.int .u32), .v (.vec .u8 32), .v (.int .i64)], .blk 54 [.own (.st 10), .own (.st 3), .v (.int .i64), .v (.int .u32), .v (.vec .u8 32), .v (.int .i64)], .own (.int .i64), .own (.st 2), .own .bool,vi]
  | 9=>[vu, .rd (.st 3), .rd (.st 4), .blk 22 [.v (.vec .u8 32)], .blk 37 [.v (.st 1)], .blk 25 [.v (.st 2)], .blk 54 [.own (.st 10), .own (.st 3), .v (.int .i64), .v (.int .u32), .v (.vec .u8 32), .v (.int .i64)], .blk 54 [.own (.st 10), .own (.st 3), .v (.int .i64), .v (.int .u32), .v (.vec .u8 32), .v (.int .i64)], .own (.int .i64), .own (.st 2), .own .bool,vi]
  | 8=>[vu, .rd (.st 3), .rd (.st 4), .blk 22 [.v (.vec .u8 32)], .blk 37 [.v (.st 1)], .blk 25 [.v (.st 2)], .blk 54 [.own (.st 10), .own (.st 3), .v (.int .i64), .v (.int .u32), .v (.vec .u8 32), .v (.int .i64)], .blk 54 [.own (.st 10), .own (.st 3), .v (.int .i64), .v (.int .u32), .v (.vec .u8 32), .v (.int .i64)], .own (.int .i64), .own (.st 2), .own .bool,vi, .val (.list (.int .u8))]
  | 3=>[vu, .rd (.st 3), .rd (.st 4), .blk 22 [.v (.vec .u8 32)], .blk 37 [.v (.st 1)], .blk 25 [.v (.st 2)], .blk 54 [.own (.st 10), .own (.st 3), .v (.int .i64), .v (.int .u32), .v (.vec .u8 32), .v (.int .i64)], .blk 54 [.own (.st 10), .own (.st 3), .v (.int .i64), .v (.int .u32), .v (.vec .u8 32), .v (.int .i64)], .own (.int .i64), .own (.st 2), .own .bool,vi, .val (.list (.int .u8)),vi]
  | 4=>[vu, .rd (.st 3), .rd (.st 4), .blk 22 [.v (.vec .u8 32)], .blk 37 [.v (.st 1)], .blk 25 [.v (.st 2)], .blk 54 [.own (.st 10), .own (.st 3), .v (.int .i64), .v (.int .u32), .v (.vec .u8 32), .v (.int .i64)], .blk 54 [.own (.st 10), .own (.st 3), .v (.int .i64), .v (.int .u32), .v (.vec .u8 32), .v (.int .i64)], .own (.int .i64), .own (.st 2), .own .bool,vi, .val (.list (.int .u8)),vi]
  | 5=>[vu, .rd (.st 3), .rd (.st 4), .blk 22 [.v (.vec .u8 32)], .blk 37 [.v (.st 1)], .blk 25 [.v (.st 2)], .blk 54 [.own (.st 10), .own (.st 3), .v (.int .i64), .v (.int .u32), .v (.vec .u8 32), .v (.int .i64)], .blk 54 [.own (.st 10), .own (.st 3), .v (.int .i64), .v (.int .u32), .v (.vec .u8 32), .v (.int .i64)], .own (.int .i64), .own (.st 2), .own .bool,vi, .own (.st 2), .own (.int .i64),vi]
  | 6=>[vu, .rd (.st 3), .rd (.st 4), .blk 22 [.v (.vec .u8 32)], .blk 37 [.v (.st 1)], .blk 25 [.v (.st 2)], .blk 54 [.own (.st 10), .own (.st 3), .v (.int .i64), .v (.int .u32), .v (.vec .u8 32), .v (.int .i64)], .blk 54 [.own (.st 10), .own (.st 3), .v (.int .i64), .v (.int .u32), .v (.vec .u8 32), .v (.int .i64)], .own (.int .i64), .own (.st 2), .own .bool,vi, .own (.st 2), .own (.int .i64),vi]
  | 7=>[vu, .rd (.st 3), .rd (.st 4), .blk 22 [.v (.vec .u8 32)], .blk 37 [.v (.st 1)], .blk 25 [.v (.st 2)], .blk 54 [.own (.st 10), .own (.st 3), .v (.int .i64), .v (.int .u32), .v (.vec .u8 32), .v (.int .i64)], .blk 54 [.own (.st 10), .own (.st 3), .v (.int .i64), .v (.int .u32), .v (.vec .u8 32), .v (.int .i64)], .own (.int .i64), .own (.st 2), .own .bool,vi, .val (.list (.int .u8)), .blk 25 [.v (.st 2)]]
  | _=>[]
abbrev aco: ∀ k,ai.V→TupD D (Pa k)→ai.V
  | 1,c,t=> {c with cT:=t.1,l4:=t.2.1,c5:=t.2.2.1,lu:=t.2.2.2.1.1,s8:=t.2.2.2.2.1.1,gX:=t.2.2.2.2.2.1.1,v12:=⟨t.2.2.2.2.2.2.1.1,t.2.2.2.2.2.2.1.2.1,⟨t.2.2.2.2.2.2.1.2.2.1,t.2.2.2.2.2.2.1.2.2.2.1,t.2.2.2.2.2.2.1.2.2.2.2.1⟩,t.2.2.2.2.2.2.1.2.2.2.2.2.1⟩,nS:=t.2.2.2.2.2.2.2.1}
  | 2,c,t=> {c with cT:=t.1,l4:=t.2.1,c5:=t.2.2.1,lu:=t.2.2.2.1.1,s8:=t.2.2.2.2.1.1,gX:=t.2.2.2.2.2.1.1,v12:=⟨t.2.2.2.2.2.2.1.1,t.2.2.2.2.2.2.1.2.1,⟨t.2.2.2.2.2.2.1.2.2.1,t.2.2.2.2.2.2.1.2.2.2.1,t.2.2.2.2.2.2.1.2.2.2.2.1⟩,t.2.2.2.2.2.2.1.2.2.2.2.2.1⟩,cQ:=⟨t.2.2.2.2.2.2.2.1.1,t.2.2.2.2.2.2.2.1.2.1,⟨t.2.2.2.2.2.2.2.1.2.2.1,t.2.2.2.2.2.2.2.1.2.2.2.1,t.2.2.2.2.2.2.2.1.2.2.2.2.1⟩,t.2.2.2.2.2.2.2.1.2.2.2.2.2.1⟩,gv:=t.2.2.2.2.2.2.2.2.1,dW:=t.2.2.2.2.2.2.2.2.2.1,dB:=t.2.2.2.2.2.2.2.2.2.2.1,dw:=t.2.2.2.2.2.2.2.2.2.2.2.1}
  | 9,c,t=> {c with cT:=t.1,l4:=t.2.1,c5:=t.2.2.1,lu:=t.2.2.2.1.1,s8:=t.2.2.2.2.1.1,gX:=t.2.2.2.2.2.1.1,v12:=⟨t.2.2.2.2.2.2.1.1,t.2.2.2.2.2.2.1.2.1,⟨t.2.2.2.2.2.2.1.2.2.1,t.2.2.2.2.2.2.1.2.2.2.1,t.2.2.2.2.2.2.1.2.2.2.2.1⟩,t.2.2.2.2.2.2.1.2.2.2.2.2.1⟩,cQ:=⟨t.2.2.2.2.2.2.2.1.1,t.2.2.2.2.2.2.2.1.2.1,⟨t.2.2.2.2.2.2.2.1.2.2.1,t.2.2.2.2.2.2.2.1.2.2.2.1,t.2.2.2.2.2.2.2.1.2.2.2.2.1⟩,t.2.2.2.2.2.2.2.1.2.2.2.2.2.1⟩,gv:=t.2.2.2.2.2.2.2.2.1,dW:=t.2.2.2.2.2.2.2.2.2.1,dB:=t.2.2.2.2.2.2.2.2.2.2.1,dw:=t.2.2.2.2.2.2.2.2.2.2.2.1}
  | 8,c,t=> {c with cT:=t.1,l4:=t.2.1,c5:=t.2.2.1,lu:=t.2.2.2.1.1,s8:=t.2.2.2.2.1.1,gX:=t.2.2.2.2.2.1.1,v12:=⟨t.2.2.2.2.2.2.1.1,t.2.2.2.2.2.2.1.2.1,⟨t.2.2.2.2.2.2.1.2.2.1,t.2.2.2.2.2.2.1.2.2.2.1,t.2.2.2.2.2.2.1.2.2.2.2.1⟩,t.2.2.2.2.2.2.1.2.2.2.2.2.1⟩,cQ:=⟨t.2.2.2.2.2.2.2.1.1,t.2.2.2.2.2.2.2.1.2.1,⟨t.2.2.2.2.2.2.2.1.2.2.1,t.2.2.2.2.2.2.2.1.2.2.2.1,t.2.2.2.2.2.2.2.1.2.2.2.2.1⟩,t.2.2.2.2.2.2.2.1.2.2.2.2.2.1⟩,gv:=t.2.2.2.2.2.2.2.2.1,dW:=t.2.2.2.2.2.2.2.2.2.1,dB:=t.2.2.2.2.2.2.2.2.2.2.1,dw:=t.2.2.2.2.2.2.2.2.2.2.2.1,jv:=t.2.2.2.2.2.2.2.2.2.2.2.2.1}
  | 3,c,t=> {c with cT:=t.1,l4:=t.2.1,c5:=t.2.2.1,lu:=t.2.2.2.1.1,s8:=t.2.2.2.2.1.1,gX:=t.2.2.2.2.2.1.1,v12:=⟨t.2.2.2.2.2.2.1.1,t.2.2.2.2.2.2.1.2.1,⟨t.2.2.2.2.2.2.1.2.2.1,t.2.2.2.2.2.2.1.2.2.2.1,t.2.2.2.2.2.2.1.2.2.2.2.1⟩,t.2.2.2.2.2.2.1.2.2.2.2.2.1⟩,cQ:=⟨t.2.2.2.2.2.2.2.1.1,t.2.2.2.2.2.2.2.1.2.1,⟨t.2.2.2.2.2.2.2.1.2.2.1,t.2.2.2.2.2.2.2.1.2.2.2.1,t.2.2.2.2.2.2.2.1.2.2.2.2.1⟩,t.2.2.2.2.2.2.2.1.2.2.2.2.2.1⟩,gv:=t.2.2.2.2.2.2.2.2.1,dW:=t.2.2.2.2.2.2.2.2.2.1,dB:=t.2.2.2.2.2.2.2.2.2.2.1,dw:=t.2.2.2.2.2.2.2.2.2.2.2.1,jv:=t.2.2.2.2.2.2.2.2.2.2.2.2.1,i19:=t.2.2.2.2.2.2.2.2.2.2.2.2.2.1}
  | 4,c,t=> {c with cT:=t.1,l4:=t.2.1,c5:=t.2.2.1,lu:=t.2.2.2.1.1,s8:=t.2.2.2.2.1.1,gX:=t.2.2.2.2.2.1.1,v12:=⟨t.2.2.2.2.2.2.1.1,t.2.2.2.2.2.2.1.2.1,⟨t.2.2.2.2.2.2.1.2.2.1,t.2.2.2.2.2.2.1.2.2.2.1,t.2.2.2.2.2.2.1.2.2.2.2.1⟩,t.2.2.2.2.2.2.1.2.2.2.2.2.1⟩,cQ:=⟨t.2.2.2.2.2.2.2.1.1,t.2.2.2.2.2.2.2.1.2.1,⟨t.2.2.2.2.2.2.2.1.2.2.1,t.2.2.2.2.2.2.2.1.2.2.2.1,t.2.2.2.2.2.2.2.1.2.2.2.2.1⟩,t.2.2.2.2.2.2.2.1.2.2.2.2.2.1⟩,gv:=t.2.2.2.2.2.2.2.2.1,dW:=t.2.2.2.2.2.2.2.2.2.1,dB:=t.2.2.2.2.2.2.2.2.2.2.1,dw:=t.2.2.2.2.2.2.2.2.2.2.2.1,jv:=t.2.2.2.2.2.2.2.2.2.2.2.2.1,i19:=t.2.2.2.2.2.2.2.2.2.2.2.2.2.1}
  | 5,c,t=> {c with cT:=t.1,l4:=t.2.1,c5:=t.2.2.1,lu:=t.2.2.2.1.1,s8:=t.2.2.2.2.1.1,gX:=t.2.2.2.2.2.1.1,v12:=⟨t.2.2.2.2.2.2.1.1,t.2.2.2.2.2.2.1.2.1,⟨t.2.2.2.2.2.2.1.2.2.1,t.2.2.2.2.2.2.1.2.2.2.1,t.2.2.2.2.2.2.1.2.2.2.2.1⟩,t.2.2.2.2.2.2.1.2.2.2.2.2.1⟩,cQ:=⟨t.2.2.2.2.2.2.2.1.1,t.2.2.2.2.2.2.2.1.2.1,⟨t.2.2.2.2.2.2.2.1.2.2.1,t.2.2.2.2.2.2.2.1.2.2.2.1,t.2.2.2.2.2.2.2.1.2.2.2.2.1⟩,t.2.2.2.2.2.2.2.1.2.2.2.2.2.1⟩,gv:=t.2.2.2.2.2.2.2.2.1,dW:=t.2.2.2.2.2.2.2.2.2.1,dB:=t.2.2.2.2.2.2.2.2.2.2.1,dw:=t.2.2.2.2.2.2.2.2.2.2.2.1,jV:=t.2.2.2.2.2.2.2.2.2.2.2.2.1,mB:=t.2.2.2.2.2.2.2.2.2.2.2.2.2.1,CU:=t.2.2.2.2.2.2.2.2.2.2.2.2.2.2.1}
  | 6,c,t=> {c with cT:=t.1,l4:=t.2.1,c5:=t.2.2.1,lu:=t.2.2.2.1.1,s8:=t.2.2.2.2.1.1,gX:=t.2.2.2.2.2.1.1,v12:=⟨t.2.2.2.2.2.2.1.1,t.2.2.2.2.2.2.1.2.1,⟨t.2.2.2.2.2.2.1.2.2.1,t.2.2.2.2.2.2.1.2.2.2.1,t.2.2.2.2.2.2.1.2.2.2.2.1⟩,t.2.2.2.2.2.2.1.2.2.2.2.2.1⟩,cQ:=⟨t.2.2.2.2.2.2.2.1.1,t.2.2.2.2.2.2.2.1.2.1,⟨t.2.2.2.2.2.2.2.1.2.2.1,t.2.2.2.2.2.2.2.1.2.2.2.1,t.2.2.2.2.2.2.2.1.2.2.2.2.1⟩,t.2.2.2.2.2.2.2.1.2.2.2.2.2.1⟩,gv:=t.2.2.2.2.2.2.2.2.1,dW:=t.2.2.2.2.2.2.2.2.2.1,dB:=t.2.2.2.2.2.2.2.2.2.2.1,dw:=t.2.2.2.2.2.2.2.2.2.2.2.1,jV:=t.2.2.2.2.2.2.2.2.2.2.2.2.1,mB:=t.2.2.2.2.2.2.2.2.2.2.2.2.2.1,CU:=t.2.2.2.2.2.2.2.2.2.2.2.2.2.2.1}
  | 7,c,t=> {c with cT:=t.1,l4:=t.2.1,c5:=t.2.2.1,lu:=t.2.2.2.1.1,s8:=t.2.2.2.2.1.1,gX:=t.2.2.2.2.2.1.1,v12:=⟨t.2.2.2.2.2.2.1.1,t.2.2.2.2.2.2.1.2.1,⟨t.2.2.2.2.2.2.1.2.2.1,t.2.2.2.2.2.2.1.2.2.2.1,t.2.2.2.2.2.2.1.2.2.2.2.1⟩,t.2.2.2.2.2.2.1.2.2.2.2.2.1⟩,cQ:=⟨t.2.2.2.2.2.2.2.1.1,t.2.2.2.2.2.2.2.1.2.1,⟨t.2.2.2.2.2.2.2.1.2.2.1,t.2.2.2.2.2.2.2.1.2.2.2.1,t.2.2.2.2.2.2.2.1.2.2.2.2.1⟩,t.2.2.2.2.2.2.2.1.2.2.2.2.2.1⟩,gv:=t.2.2.2.2.2.2.2.2.1,dW:=t.2.2.2.2.2.2.2.2.2.1,dB:=t.2.2.2.2.2.2.2.2.2.2.1,dw:=t.2.2.2.2.2.2.2.2.2.2.2.1,jv:=t.2.2.2.2.2.2.2.2.2.2.2.2.1,ux:=t.2.2.2.2.2.2.2.2.2.2.2.2.2.1.1}
  | _,c,_=>c
abbrev acp: ∀ k,ai.V→TupD D (Pa k)
  | 1,c=>(c.cT,c.l4,c.c5,(c.lu,()),(c.s8,()),(c.gX,()),(c.v12.fL,c.v12.fC,c.v12.cH.Place,c.v12.cH.bO,c.v12.cH.bD,c.v12.nZ,()),c.nS,())
  | 2,c=>(c.cT,c.l4,c.c5,(c.lu,()),(c.s8,()),(c.gX,()),(c.v12.fL,c.v12.fC,c.v12.cH.Place,c.v12.cH.bO,c.v12.cH.bD,c.v12.nZ,()),(c.cQ.fL,c.cQ.fC,c.cQ.cH.Place,c.cQ.cH.bO,c.cQ.cH.bD,c.cQ.nZ,()),c.gv,c.dW,c.dB,c.dw,())
  | 9,c=>(c.cT,c.l4,c.c5,(c.lu,()),(c.s8,()),(c.gX,()),(c.v12.fL,c.v12.fC,c.v12.cH.Place,c.v12.cH.bO,c.v12.cH.bD,c.v12.nZ,()),(c.cQ.fL,c.cQ.fC,c.cQ.cH.Place,c.cQ.cH.bO,c.cQ.cH.bD,c.cQ.nZ,()),c.gv,c.dW,c.dB,c.dw,())
  | 8,c=>(c.cT,c.l4,c.c5,(c.lu,()),(c.s8,()),(c.gX,()),(c.v12.fL,c.v12.fC,c.v12.cH.Place,c.v12.cH.bO,c.v12.cH.bD,c.v12.nZ,()),(c.cQ.fL,c.cQ.fC,c.cQ.cH.Place,c.cQ.cH.bO,c.cQ.cH.bD,c.cQ.nZ,()),c.gv,c.dW,c.dB,c.dw,c.jv,())
  | 3,c=>(c.cT,c.l4,c.c5,(c.lu,()),(c.s8,()),(c.gX,()),(c.v12.fL,c.v12.fC,c.v12.cH.Place,c.v12.cH.bO,c.v12.cH.bD,c.v12.nZ,()),(c.cQ.fL,c.cQ.fC,c.cQ.cH.Place,c.cQ.cH.bO,c.cQ.cH.bD,c.cQ.nZ,()),c.gv,c.dW,c.dB,c.dw,c.jv,c.i19,())
  | 4,c=>(c.cT,c.l4,c.c5,(c.lu,()),(c.s8,()),(c.gX,()),(c.v12.fL,c.v12.fC,c.v12.cH.Place,c.v12.cH.bO,c.v12.cH.bD,c.v12.nZ,()),(c.cQ.fL,c.cQ.fC,c.cQ.cH.Place,c.cQ.cH.bO,c.cQ.cH.bD,c.cQ.nZ,()),c.gv,c.dW,c.dB,c.dw,c.jv,c.i19,())
  | 5,c=>(c.cT,c.l4,c.c5,(c.lu,()),(c.s8,()),(c.gX,()),(c.v12.fL,c.v12.fC,c.v12.cH.Place,c.v12.cH.bO,c.v12.cH.bD,c.v12.nZ,()),(c.cQ.fL,c.cQ.fC,c.cQ.cH.Place,c.cQ.cH.bO,c.cQ.cH.bD,c.cQ.nZ,()),c.gv,c.dW,c.dB,c.dw,c.jV,c.mB,c.CU,())
  | 6,c=>(c.cT,c.l4,c.c5,(c.lu,()),(c.s8,()),(c.gX,()),(c.v12.fL,c.v12.fC,c.v12.cH.Place,c.v12.cH.bO,c.v12.cH.bD,c.v12.nZ,()),(c.cQ.fL,c.cQ.fC,c.cQ.cH.Place,c.cQ.cH.bO,c.cQ.cH.bD,c.cQ.nZ,()),c.gv,c.dW,c.dB,c.dw,c.jV,c.mB,c.CU,())
  | 7,c=>(c.cT,c.l4,c.c5,(c.lu,()),(c.s8,()),(c.gX,()),(c.v12.fL,c.v12.fC,c.v12.cH.Place,c.v12.cH.bO,c.v12.cH.bD,c.v12.nZ,()),(c.cQ.fL,c.cQ.fC,c.cQ.cH.Place,c.cQ.cH.bO,c.cQ.cH.bD,c.cQ.nZ,()),c.gv,c.dW,c.dB,c.dw,c.jv,(c.ux,()),())
  | 0,c=>()
  | _+10,c=>()
abbrev TD (Q:ai.QT):Nat→List (ai.V→Prop)→ai.V→Prop
  | 1,[],c=>ai.K1 Q c
  | 2,[S2],c=>ai.B2 S2 Q c
  | 9,[S2],c=>ai.K9 S2 Q c
  | 8,[S2],c=>ai.K8 S2 Q c
  | 3,[S3,S2],c=>ai.B3 S2 S3 Q c
  | 4,[S3,S2],c=>ai.K4 S2 S3 Q c
  | 5,[S5,S2],c=>ai.B5 S2 S5 Q c
  | 6,[S5,S2],c=>ai.K6 S2 S5 Q c
  | 7,[S2],c=>ai.K7 S2 Q c
  | _,_,_=>False
abbrev acq (Q:QT GO):Pts D:=Pts.kn Pa aco acp (by intro k b t; match k,t with | 0,t | 1,t | 2,t | 3,t | 4,t | 5,t | 6,t | 7,t | 8,t | 9,t | _+10,t=>rfl) (fun σ=>TD (fun r0=>Q (r0,()) (()) σ))
abbrev C34:Ctrs D:=((12,GO)::C12)
abbrev GP:Ctr D:= {ps:=[rb,rb],rs:=[vb],bk:=[],sg:=false,P:=fun x σ Q=>bZ x.1 x.2.1 (fun r0=>Q (r0,()) (()) σ)}
noncomputable def c34:Code:=Tryz.f34.body.getD .skip
def A34:Ann:=(sl (.seq (sl (.cond s2 lf)) (.seq (sl (.block (.loop 1 [0,1,5] (.seq (sl (.cond lf lf)) (.seq (.block (.seq (.plan (.take 0 [] (.take 1 [] (.take 2 [] (.take 3 [] (.take 4 [] (.take 5 [] (.take 6 [] (.take 7 [] (.take 8 [] .done)))))))))) (.cond s2 lf))) lf))))) s2)))
abbrev Pb:Nat→List Ds
  | 1=>[rb,rb,vi]
  | _=>[]
abbrev acs: ∀ k,bZ.V→TupD D (Pb k)→bZ.V
  | 1,c,t=> {c with a0:=t.1,b1:=t.2.1,i5:=t.2.2.1}
  | _,c,_=>c
abbrev acu: ∀ k,bZ.V→TupD D (Pb k)
  | 1,c=>(c.a0,c.b1,c.i5,())
  | 0,c=>()
  | _+2,c=>()
abbrev TE (Q:bZ.QT):Nat→List (bZ.V→Prop)→bZ.V→Prop
  | 1,[S1],c=>bZ.B1 S1 Q c
  | _,_,_=>False
abbrev acv (Q:QT GP):Pts D:=Pts.kn Pb acs acu (by intro k b t; match k,t with | 0,t | 1,t | _+2,t=>rfl) (fun σ=>TE (fun r0=>Q (r0,()) (()) σ))
abbrev C13:Ctrs D:=((34,GP)::C34)
abbrev GQ:Ctr D:= {ps:=[.rd (.st 9), .val (.st 11)],rs:=[vb],bk:=[],sg:=false,P:=fun x σ Q=>bP x.1 x.2.1 (fun r0=>Q (r0,()) (()) σ)}
noncomputable def c13:Code:=Tryz.f13.body.getD .skip
def A13:Ann:=(sl (.seq (sl (.cond s2 lf)) (.seq (sl (.block (.loop 1 [0,3,13,14] (sl (.seq (.cond lf lf) (.seq (.block (sl (.join 2 [0,3,13,14,43] (.plan (.take 0 [24] (.take 1 [24] (.take 2 [24] (.take 3 [24] (.take 4 [24] (.take 5 [24] (.take 6 [24] (.take 7 [24] (.take 8 [24] (.take 9 [24] (.take 10 [24] (.take 11 [24] (.take 12 [24] (.take 13 [24] (.take 14 [24] (.take 15 [24] (.take 16 [24] (.take 17 [24] (.take 18 [24] (.take 19 [24] (.take 20 [24] (.take 21 [24] (.take 22 [24] (.take 23 [24] (.all (.alt 24 (.take 25 [] (.take 26 [] .done)) .nil))))))))))))))))))))))))))) (.cond s2 lf)))) lf)))))) s2)))
abbrev Pc:Nat→List Ds
  | 1=>[.rd (.st 9), .blk 54 [.v (.st 11)],vi,vi]
  | 2=>[.rd (.st 9), .blk 54 [.v (.st 11)],vi,vi,vb]
  | _=>[]
abbrev acy: ∀ k,bP.V→TupD D (Pc k)→bP.V
  | 1,c,t=> {c with a0:=t.1,b3:=t.2.1.1,gF:=t.2.2.1,kO:=t.2.2.2.1}
  | 2,c,t=> {c with a0:=t.1,b3:=t.2.1.1,gF:=t.2.2.1,kO:=t.2.2.2.1,GR:=t.2.2.2.2.1}
  | _,c,_=>c
abbrev acz: ∀ k,bP.V→TupD D (Pc k)
  | 1,c=>(c.a0,(c.b3,()),c.gF,c.kO,())
  | 2,c=>(c.a0,(c.b3,()),c.gF,c.kO,c.GR,())
  | 0,c=>()
  | _+3,c=>()
abbrev TF (Q:bP.QT):Nat→List (bP.V→Prop)→bP.V→Prop
  | 1,[S1],c=>bP.B1 S1 Q c
  | 2,[S1],c=>bP.K2 S1 Q c
  | _,_,_=>False
abbrev acA (Q:QT GQ):Pts D:=Pts.kn Pc acy acz (by intro k b t; match k,t with | 0,t | 1,t | 2,t | _+3,t=>rfl) (fun σ=>TF (fun r0=>Q (r0,()) (()) σ))
abbrev C14:Ctrs D:=((13,GQ)::C13)
abbrev GS:Ctr D:= {ps:=[.rd (.st 7), .rd (.st 3)],rs:=[vb],bk:=[],sg:=false,P:=fun x σ Q=>bn x.1 x.2.1 (fun r0=>Q (r0,()) (()) σ)}
noncomputable def c14:Code:=Tryz.f14.body.getD .skip
def A14:Ann:=(sl (.seq (sl (.cond s2 lf)) (.seq (sl (.block (.loop 1 [0,1,14,15] (sl (.seq (.cond lf lf) (.seq (.block (sl (.seq (.join 2 [0,1,5,14,15,43] (.plan (.take 0 [] (.take 1 [] (.take 2 [] (.take 3 [] (.take 4 [] (.take 5 [] (.take 6 [] (.take 7 [] (.take 8 [] (.take 9 [] (.take 10 [] (.take 11 [] (.take 12 [] (.take 13 [] (.take 14 [] (.take 15 [] (.take 16 [] (.take 17 [] (.take 18 [] (.take 19 [] (.take 20 [] (.take 21 [] (.take 22 [] (.take 23 [] (.take 24 [] (.take 25 [] .done))))))))))))))))))))))))))) (.cond s2 lf)) (sl (.block (.loop 3 [0,1,5,14,15,48,49,50] (sl (.seq (.cond lf lf) (.seq (.block (sl (.seq (.plan (.take 0 [] (.take 1 [] (.take 2 [] (.take 3 [] (.take 4 [] (.take 5 [] (.take 6 [] (.take 7 [] (.take 8 [] (.take 9 [] .done))))))))))) (.cond s2 lf)))) lf))))))))) lf)))))) s2)))
abbrev Pd:Nat→List Ds
  | 1=>[.rd (.st 7), .rd (.st 3),vi,vi]
  | 2=>[.rd (.st 7), .rd (.st 3),vi,vi,vi,vb]
  | 3=>[.rd (.st 7), .rd (.st 3),vi,vi,vi, .val (.list (.st 6)),vi,vi]
  | _=>[]
abbrev acC: ∀ k,bn.V→TupD D (Pd k)→bn.V
  | 1,c,t=> {c with a0:=t.1,b1:=t.2.1,kO:=t.2.2.1,nw:=t.2.2.2.1}
  | 2,c,t=> {c with a0:=t.1,b1:=t.2.1,i5:=t.2.2.1,kO:=t.2.2.2.1,nw:=t.2.2.2.2.1,GR:=t.2.2.2.2.2.1}
  | 3,c,t=> {c with a0:=t.1,b1:=t.2.1,i5:=t.2.2.1,kO:=t.2.2.2.1,nw:=t.2.2.2.2.1,RX:=t.2.2.2.2.2.1,v49:=t.2.2.2.2.2.2.1,uu:=t.2.2.2.2.2.2.2.1}
  | _,c,_=>c
abbrev acD: ∀ k,bn.V→TupD D (Pd k)
  | 1,c=>(c.a0,c.b1,c.kO,c.nw,())
  | 2,c=>(c.a0,c.b1,c.i5,c.kO,c.nw,c.GR,())
  | 3,c=>(c.a0,c.b1,c.i5,c.kO,c.nw,c.RX,c.v49,c.uu,())
  | 0,c=>()
  | _+4,c=>()
abbrev TG (Q:bn.QT):Nat→List (bn.V→Prop)→bn.V→Prop
  | 1,[S1],c=>bn.B1 S1 Q c
  | 2,[S1],c=>bn.K2 S1 Q c
  | 3,[S3,S1],c=>bn.B3 S1 S3 Q c
  | _,_,_=>False
abbrev acE (Q:QT GS):Pts D:=Pts.kn Pd acC acD (by intro k b t; match k,t with | 0,t | 1,t | 2,t | 3,t | _+4,t=>rfl) (fun σ=>TG (fun r0=>Q (r0,()) (()) σ))
abbrev C3:Ctrs D:=((14,GS)::C14)
abbrev RA:Ctr D:= {ps:=[.val (.st 12), .rd (.st 3), .val (.list (.st 4))],rs:=[vb],bk:=[],sg:=true,P:=fun x o Q=>match o with
  | some σ=>aj x.1 x.2.1 x.2.2.1 σ (fun r0 σ1=>Q (r0,()) (()) (some σ1))
  | none=>False}
noncomputable def c3:Code:=Tryz.f3.body.getD .skip
def A3:Ann:=(sl (sl (sl (sl (.seq (.join 1 [1,2,3,8,9,10,40] lf (.cond s2 lf)) (.seq (sl (.block (.loop 2 [1,3,8,10,49,50,51] (sl (.seq (.cond lf lf) (.seq (.block (sl (.join 4 [1,3,8,10,13,14,15,16,17,49,50,51] (.plan (.take 0 [11,20] (.take 1 [11,20] (.take 2 [11,20] (.take 3 [11,20] (.take 4 [11,20] (.take 5 [11,20] (.take 6 [11,20] (.take 7 [8,10,11,20] (.take 9 [10,11,20] (.all (.alt 8 (.all (.alt 10 (.all (.alt 11 (.take 12 [20] (.take 13 [20] (.take 14 [20] (.take 15 [20] (.take 16 [] (.all (.alt 17 (.take 18 [20] (.take 19 [20] (.all (.alt 20 (.take 21 [] .done) .nil)))) .nil))))))) (.alt 17 (.all (.alt 11 (.take 12 [20] (.take 13 [20] (.take 14 [20] (.take 15 [20] (.take 16 [] (.take 18 [20] (.take 19 [20] (.all (.alt 20 (.take 21 [] .done) .nil))))))))) .nil)) .nil))) (.alt 17 (.all (.alt 10 (.all (.alt 11 (.take 12 [20] (.take 13 [20] (.take 14 [20] (.take 15 [20] (.take 16 [] (.take 18 [20] (.take 19 [20] (.all (.alt 20 (.take 21 [] .done) .nil))))))))) .nil)) .nil)) .nil))) (.alt 17 (.all (.alt 8 (.all (.alt 10 (.all (.alt 11 (.take 12 [20] (.take 13 [20] (.take 14 [20] (.take 15 [20] (.take 16 [] (.take 18 [20] (.take 19 [20] (.all (.alt 20 (.take 21 [] .done) .nil))))))))) .nil)) .nil)) .nil)) .nil))))))))))))) (sl (.join 3 [1,3,8,10,49,50,51,104] lf (.cond s2 lf)))))) lf)))))) s2))))))
abbrev pd3:Nat→List Ds
  | 1=>[.rd (.st 3), .val (.list (.st 4)), .blk 27 [.v (.st 12)], .blk 32 [.v (.st 0)],vi, .blk 37 [.v (.st 1)],vb]
  | 2=>[.rd (.st 3), .blk 27 [.v (.st 12)], .blk 32 [.v (.st 0)], .blk 37 [.v (.st 1)], .own (.list (.st 4)),vi,vi]
  | 4=>[.rd (.st 3), .blk 27 [.v (.st 12)], .blk 32 [.v (.st 0)], .blk 37 [.v (.st 1)], .val (.list (.st 4)), .own (.st 9), .own (.st 7), .blk 46 [.v (.st 6)],vi, .own (.list (.st 4)),vi,vi]
  | 3=>[.rd (.st 3), .blk 27 [.v (.st 12)], .blk 32 [.v (.st 0)], .blk 37 [.v (.st 1)], .own (.list (.st 4)),vi,vi,vb]
  | _=>[]
abbrev up3: ∀ k,aj.V→TupD D (pd3 k)→aj.V
  | 1,c,t=> {c with l1:=t.1,c2:=t.2.1,a3:=t.2.2.1.1,s8:=t.2.2.2.1.1,e9:=t.2.2.2.2.1,tv:=t.2.2.2.2.2.1.1,v40:=t.2.2.2.2.2.2.1}
  | 2,c,t=> {c with l1:=t.1,a3:=t.2.1.1,s8:=t.2.2.1.1,tv:=t.2.2.2.1.1,v49:=t.2.2.2.2.1,uu:=t.2.2.2.2.2.1,v51:=t.2.2.2.2.2.2.1}
  | 4,c,t=> {c with l1:=t.1,a3:=t.2.1.1,s8:=t.2.2.1.1,tv:=t.2.2.2.1.1,nP:=t.2.2.2.2.1,Kf:=t.2.2.2.2.2.1,Kg:=t.2.2.2.2.2.2.1,Ei:=t.2.2.2.2.2.2.2.1.1,f17:=t.2.2.2.2.2.2.2.2.1,v49:=t.2.2.2.2.2.2.2.2.2.1,uu:=t.2.2.2.2.2.2.2.2.2.2.1,v51:=t.2.2.2.2.2.2.2.2.2.2.2.1}
  | 3,c,t=> {c with l1:=t.1,a3:=t.2.1.1,s8:=t.2.2.1.1,tv:=t.2.2.2.1.1,v49:=t.2.2.2.2.1,uu:=t.2.2.2.2.2.1,v51:=t.2.2.2.2.2.2.1,y7:=t.2.2.2.2.2.2.2.1}
  | _,c,_=>c
abbrev ls3: ∀ k,aj.V→TupD D (pd3 k)
  | 1,c=>(c.l1,c.c2,(c.a3,()),(c.s8,()),c.e9,(c.tv,()),c.v40,())
  | 2,c=>(c.l1,(c.a3,()),(c.s8,()),(c.tv,()),c.v49,c.uu,c.v51,())
  | 4,c=>(c.l1,(c.a3,()),(c.s8,()),(c.tv,()),c.nP,c.Kf,c.Kg,(c.Ei,()),c.f17,c.v49,c.uu,c.v51,())
  | 3,c=>(c.l1,(c.a3,()),(c.s8,()),(c.tv,()),c.v49,c.uu,c.v51,c.y7,())
  | 0,c=>()
  | _+5,c=>()
abbrev acG (Q:aj.QT):Nat→List (aj.V→St Pt.Obj→Prop)→aj.V→St Pt.Obj→Prop
  | 1,[],c,σ=>aj.K1 Q c σ
  | 2,[S2],c,σ=>aj.B2 S2 Q c σ
  | 4,[S2],c,σ=>aj.K4 S2 Q c σ
  | 3,[S2],c,σ=>aj.K3 S2 Q c σ
  | _,_,_,_=>False
abbrev pt3 (Q:QT RA):Pts D:=Pts.mkS pd3 up3 ls3 (by intro k b t; match k,t with | 0,t | 1,t | 2,t | 3,t | 4,t | _+5,t=>rfl) (acG (fun r0 σ1=>Q (r0,()) (()) (some σ1)))
end Go.Proofs.YtpjehkdneiclnaaGreat.Ek
