import Derived.Test.YtpjehkdneiclnaaCnPt
import Derived.Test.YtpjehkdneiclnaaCnLw1
set_option linter.unusedVariables false
set_option linter.unusedSimpArgs false
namespace Go.Pt
open Go Go.Wc Go.Pu Go.Laws
def N_carlingref09_Ref (x:carlingref09_Ref):Prop:=(fun n:Int=>(Lit.int .i64 n).wf=true) x.Place∧(fun n:Int=>(Lit.int .u32 n).wf=true) x.Epoch∧(fun v:Vector Int 32=> ∀ x ∈ v.toList,(Lit.int .u8 x).wf=true) x.Digest
theorem opens_carlingref09_Ref {P:Program} {t t0 t1 t2:TypeId} (hf:fieldsOf P t=[(t0,0),(t1,1),(t2,2)]) (hc:P.cellsOf t=34) (o0:Opens P t0 (rI .i64) (fun n:Int=>(Lit.int .i64 n).wf=true)) (o1:Opens P t1 (rI .u32) (fun n:Int=>(Lit.int .u32 n).wf=true)) (o2:Opens P t2 (rV .u8 32) (fun v:Vector Int 32=> ∀ x ∈ v.toList,(Lit.int .u8 x).wf=true)):Opens P t R_carlingref09_Ref N_carlingref09_Ref:=by
  refine ⟨hc,fun {_ _ w _ _ _} hd=> ?_⟩
  obtain ⟨hl,hfs⟩:=trod_fields hf (by simp) hd
  rw [hc] at hl
  obtain ⟨v0,r0,rfl,hl0⟩:=cells_succ hl
  obtain ⟨v1,r1,rfl,hl1⟩:=cells_succ hl0
  obtain ⟨u2,w2,rfl,hu2,hw2⟩:=cells_split (n:=32) (m:=0) hl1
  obtain rfl:=List.length_eq_zero_iff.1 hw2
  obtain ⟨_,_,d0⟩:=hfs (t0,0) (by simp)
  obtain ⟨x0,p0,q0⟩:=o0.2 d0
  dsimp only at p0
  rw [o0.1] at p0
  have e0:=p0
  have e0:[v0]=[.int .i64 x0]:=e0
  simp only [List.cons.injEq,and_true] at e0
  subst e0
  obtain ⟨_,_,d1⟩:=hfs (t1,1) (by simp)
  obtain ⟨x1,p1,q1⟩:=o1.2 d1
  dsimp only at p1
  rw [o1.1] at p1
  have e1:=p1
  have e1:[v1]=[.int .u32 x1]:=e1
  simp only [List.cons.injEq,and_true] at e1
  subst e1
  obtain ⟨_,_,d2⟩:=hfs (t2,2) (by simp)
  obtain ⟨x2,p2,q2⟩:=o2.2 d2
  dsimp only at p2
  rw [o2.1] at p2
  have e2:u2=lumpV .u8 32 x2.toList:=by have q:List.take 32 _=_:=p2; simpa [hu2,List.take_of_length_le (Nat.le_of_eq hu2)] using q
  subst e2
  exact ⟨⟨x0,x1,x2⟩,(by show _=_; simp),q0,q1,q2⟩
def N_carlingref16_Node (x:carlingref16_Node):Prop:=(fun n:Int=>(Lit.int .i64 n).wf=true) x.Item∧(fun l:List carlingref09_Ref=>l.length≤maxLen∧ ∀ x ∈ l,N_carlingref09_Ref x) x.Refs
theorem opens_carlingref16_Node {P:Program} {t t0 t1:TypeId} (hf:fieldsOf P t=[(t0,0),(t1,1)]) (hc:P.cellsOf t=2) (o0:Opens P t0 (rI .i64) (fun n:Int=>(Lit.int .i64 n).wf=true)) (o1:Opens P t1 (rS R_carlingref09_Ref) (fun l:List carlingref09_Ref=>l.length≤maxLen∧ ∀ x ∈ l,N_carlingref09_Ref x)):Opens P t R_carlingref16_Node N_carlingref16_Node:=by
  refine ⟨hc,fun {_ _ w _ _ _} hd=> ?_⟩
  obtain ⟨hl,hfs⟩:=trod_fields hf (by simp) hd
  rw [hc] at hl
  obtain ⟨v0,r0,rfl,hl0⟩:=cells_succ hl
  obtain ⟨v1,r1,rfl,hl1⟩:=cells_succ hl0
  obtain rfl:=List.length_eq_zero_iff.1 hl1
  obtain ⟨_,_,d0⟩:=hfs (t0,0) (by simp)
  obtain ⟨x0,p0,q0⟩:=o0.2 d0
  dsimp only at p0
  rw [o0.1] at p0
  have e0:=p0
  have e0:[v0]=[.int .i64 x0]:=e0
  simp only [List.cons.injEq,and_true] at e0
  subst e0
  obtain ⟨_,_,d1⟩:=hfs (t1,1) (by simp)
  obtain ⟨x1,p1,q1⟩:=o1.2 d1
  dsimp only at p1
  rw [o1.1] at p1
  obtain ⟨a1,c1,e1,s1⟩:=p1
  change [v1]=_ at e1
  simp only [List.cons.injEq,and_true] at e1
  subst e1
  exact ⟨⟨x0,x1⟩,⟨a1,c1,rfl,s1⟩,q0,q1⟩
def N_carlingref16_Change (x:carlingref16_Change):Prop:=(fun n:Int=>(Lit.int .i64 n).wf=true) x.Page∧(fun l:List Int=>l.length≤maxLen∧ ∀ x ∈ l,(fun n:Int=>(Lit.int .u8 n).wf=true) x) x.Bytes
theorem opens_carlingref16_Change {P:Program} {t t0 t1:TypeId} (hf:fieldsOf P t=[(t0,0),(t1,1)]) (hc:P.cellsOf t=2) (o0:Opens P t0 (rI .i64) (fun n:Int=>(Lit.int .i64 n).wf=true)) (o1:Opens P t1 (rS (rI .u8)) (fun l:List Int=>l.length≤maxLen∧ ∀ x ∈ l,(fun n:Int=>(Lit.int .u8 n).wf=true) x)):Opens P t R_carlingref16_Change N_carlingref16_Change:=by
  refine ⟨hc,fun {_ _ w _ _ _} hd=> ?_⟩
  obtain ⟨hl,hfs⟩:=trod_fields hf (by simp) hd
  rw [hc] at hl
  obtain ⟨v0,r0,rfl,hl0⟩:=cells_succ hl
  obtain ⟨v1,r1,rfl,hl1⟩:=cells_succ hl0
  obtain rfl:=List.length_eq_zero_iff.1 hl1
  obtain ⟨_,_,d0⟩:=hfs (t0,0) (by simp)
  obtain ⟨x0,p0,q0⟩:=o0.2 d0
  dsimp only at p0
  rw [o0.1] at p0
  have e0:=p0
  have e0:[v0]=[.int .i64 x0]:=e0
  simp only [List.cons.injEq,and_true] at e0
  subst e0
  obtain ⟨_,_,d1⟩:=hfs (t1,1) (by simp)
  obtain ⟨x1,p1,q1⟩:=o1.2 d1
  dsimp only at p1
  rw [o1.1] at p1
  obtain ⟨a1,c1,e1,s1⟩:=p1
  change [v1]=_ at e1
  simp only [List.cons.injEq,and_true] at e1
  subst e1
  exact ⟨⟨x0,x1⟩,⟨a1,c1,rfl,s1⟩,q0,q1⟩
theorem carlinglaw16_CommitNeeds_law {ρ:Ids} {h:Hp} {x0:Int} {x1:List carlingref16_Node} {a1:Option Addr} {c1:Nat} {x2:List carlingref16_Change} {a2:Option Addr} {c2:Nat} (h1:SlE R_carlingref16_Node h [] a1 c1 x1) (h2:SlE R_carlingref16_Change h [] a2 c2 x2) (HP:carlinglaw16_CommitNeeds x0 x1 x2 st0 (fun b _=>b=true)):
    Tx.carlinglaw16_CommitNeeds_S ρ [.int .u8 x0, .slice a1 x1.length c1, .slice a2 x2.length c2] h (fun v h'=>v= .bool true∧Keep [] h h'):=by
  unfold Tx.carlinglaw16_CommitNeeds_S
  dsimp only [List.cons_append,List.nil_append,List.toList_toArray,tI,tA,tN,tS,tB,tT,tP,tM,tV,tG,cnd,sameKind]
  have I:Inv h (roS R_carlingref16_Node a1 x1.length c1 x1::roS R_carlingref16_Change a2 x2.length c2 x2::hpA (obA ρ) st0::[leA h []]):=inv_law (A:=[roS R_carlingref16_Node a1 x1.length c1 x1,roS R_carlingref16_Change a2 x2.length c2 x2,hpA (obA ρ) st0]) (by
    intro a ha
    simp only [List.mem_cons,List.not_mem_nil,or_false] at ha
    rcases ha with rfl | rfl | rfl
    · exact ro0 h1
    · exact ro0 h2
    · exact hp0)
  refine carlinglaw16_CommitNeeds_r rd_ro rd_ro I HP fun r h' σ I H=> ?_
  exact ⟨by rw [show r=true from H],inv_end (I.drop1.drop1.drop1)⟩
end Go.Pt
