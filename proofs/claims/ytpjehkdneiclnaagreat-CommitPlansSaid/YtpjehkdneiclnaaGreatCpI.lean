import Derived.Test.YtpjehkdneiclnaaGreatCpH
import Derived.Test.YtpjehkdneiclnaaGreatCpM
set_option linter.unusedVariables false
set_option linter.unusedSimpArgs false
set_option maxHeartbeats 4000000
set_option maxRecDepth 100000
namespace Go.Pt
open Go Go.Wc Go.Pu
def okP (n : Int) : Bool :=
  let b:=newB n
  let h:=hOf n
  let len:=h.Level.length
  (List.range len).all (fun i=>
    decide (0≤levelS b i) &&
    (if i+1<len then (parentR h i).2.2 && decide (n≤(parentR h i).1) && decide ((parentR h i).1<len) && decide (0≤(parentR h i).2.1) && decide ((kidsR h (parentR h i).1)[(parentR h i).2.1.toNat]? =some (i:Int)) else !(parentR h i).2.2) &&
    (if (i:Int)<n then decide ((pathR h i).head? =some (i:Int)) && (pathR h i).all (fun x=>decide (0≤x) && decide (x<len) && (decide (x+1=len) || decide ((parentR h x).1 ∈ pathR h i)))
     else decide (1≤(kidsR h i).length) && decide ((kidsR h i).length≤6) &&
      (List.range (kidsR h i).length).all (fun k=>decide (0≤(kidsR h i).getD k 0) && decide ((kidsR h i).getD k 0<len) && decide (parentR h ((kidsR h i).getD k 0)=((i:Int),(k:Int),true)))))
theorem LN:((List.range 14).all fun n=>okP ((n:Int)+1))=true:=by decide+kernel
structure POk (n:Int):Prop where
  N:NOk n
  lev: ∀ i:Nat,i<(hOf n).Level.length→0≤levelS (newB n) i
  par: ∀ i:Nat,i+1<(hOf n).Level.length→(parentR (hOf n) i).2.2=true∧n≤(parentR (hOf n) i).1∧(parentR (hOf n) i).1<(hOf n).Level.length∧0≤(parentR (hOf n) i).2.1∧(kidsR (hOf n) (parentR (hOf n) i).1)[(parentR (hOf n) i).2.1.toNat]? =some (i:Int)
  top: ∀ i:Nat,i+1=(hOf n).Level.length→(parentR (hOf n) i).2.2=false
  path: ∀ i:Nat,(i:Int)<n→(pathR (hOf n) i).head? =some (i:Int)∧ ∀ x ∈ pathR (hOf n) i,0≤x∧x<(hOf n).Level.length∧(x+1=(hOf n).Level.length∨(parentR (hOf n) x).1 ∈ pathR (hOf n) i)
  kid: ∀ i:Nat,n≤(i:Int)→i<(hOf n).Level.length→1≤(kidsR (hOf n) i).length∧(kidsR (hOf n) i).length≤6∧ ∀ k:Nat,k<(kidsR (hOf n) i).length→0≤(kidsR (hOf n) i).getD k 0∧(kidsR (hOf n) i).getD k 0<(hOf n).Level.length∧parentR (hOf n) ((kidsR (hOf n) i).getD k 0)=((i:Int),(k:Int),true)
theorem pok {n:Int} (hn:1≤n∧n≤14):POk n:=by
  have h:=List.all_eq_true.1 LN (n - 1).toNat (List.mem_range.2 (by omega))
  rw [show (((n - 1).toNat:Nat):Int)+1=n by omega] at h
  have N:=nok hn
  unfold okP at h
  dsimp only at h
  have h2: ∀ i:Nat,i<(hOf n).Level.length→_:=fun i hi=>List.all_eq_true.1 h i (List.mem_range.2 hi)
  have hp:=N.pos
  refine ⟨N, ?_, ?_, ?_, ?_, ?_⟩
  · intro i hi
    have h3:=h2 i hi
    rw [Bool.and_eq_true,Bool.and_eq_true] at h3
    exact of_decide_eq_true h3.1.1
  · intro i hi
    have h3:=h2 i (by omega)
    rw [Bool.and_eq_true,Bool.and_eq_true,if_pos hi] at h3
    have h4:=h3.1.2
    simp only [Bool.and_eq_true,decide_eq_true_eq] at h4
    exact ⟨h4.1.1.1.1,h4.1.1.1.2,h4.1.1.2,h4.1.2,h4.2⟩
  · intro i hi
    have h3:=h2 i (by omega)
    rw [Bool.and_eq_true,Bool.and_eq_true,if_neg (show ¬ (i+1<(hOf n).Level.length) by omega)] at h3
    simpa using h3.1.2
  · intro i hi
    have h3:=h2 i (by omega)
    rw [Bool.and_eq_true,Bool.and_eq_true,if_pos hi] at h3
    have h4:=h3.2
    simp only [Bool.and_eq_true,decide_eq_true_eq,List.all_eq_true,Bool.or_eq_true] at h4
    exact ⟨h4.1,fun x hx=>⟨(h4.2 x hx).1.1,(h4.2 x hx).1.2,(h4.2 x hx).2⟩⟩
  · intro i hi yQ
    have h3:=h2 i yQ
    rw [Bool.and_eq_true,Bool.and_eq_true,if_neg (show ¬ ((i:Int)<n) by omega)] at h3
    have h4:=h3.2
    simp only [Bool.and_eq_true,decide_eq_true_eq,List.all_eq_true,List.mem_range] at h4
    exact ⟨h4.1.1,h4.1.2,fun k hk=>⟨(h4.2 k hk).1.1,(h4.2 k hk).1.2,(h4.2 k hk).2⟩⟩
theorem EN {h:HS} {it pl:Int} {Q:bg.QT} (hi:0≤it∧it<(h.Level.length:Int)) (hs:h.Level.length≤400) (hp:pl=0∨pl=1) (H:Q (2+2*it+pl)):bg h it pl Q:=by
  unfold bg
  refine zP ?_
  have e:hasS h it=true:=by unfold hasS; simp; exact hi
  rw [e,show (!true)=false from rfl,aa,decide_eq_false (by omega),aa,decide_eq_false (by omega)]
  unfold bg.K1; dsimp only
  rw [aa,wrap64 (n:=2*it) (by omega) (by omega),wrap64 (n:=2+2*it) (by omega) (by omega),wrap64 (n:=2+2*it+pl) (by omega) (by omega)]
  exact H
theorem wS {n : Int} : ∀ (L : List (Int × Nat)) (last : Int), chk n last L = true → (L.map (·.1)).Pairwise (· < ·) ∧ ∀ x ∈ L, last < x.1 ∧ x.1 < n ∧ x.2 = 256
  | [],_,_=>⟨List.Pairwise.nil,fun _ h=>by cases h⟩
  | (p, k) :: r, last, h => by
    simp only [chk,Bool.and_eq_true,decide_eq_true_eq,beq_iff_eq] at h
    obtain ⟨h1,h2,h3,h4⟩:=h
    have ih:=wS r p h4
    refine ⟨List.pairwise_cons.2 ⟨?_,ih.1⟩, ?_⟩
    · intro q hq
      obtain ⟨y,hy,rfl⟩:=List.mem_map.1 hq
      exact (ih.2 y hy).1
    · intro x hx
      rcases List.mem_cons.1 hx with rfl | hx
      · exact ⟨h1,h2,h3⟩
      · have := ih.2 x hx
        exact ⟨by omega,this.2⟩
structure PC (n:Int) (l:List aq) (cs:List an) (root:ax) (key:Vector Int 32) (e:Int):Prop where
  P:POk n
  may:mayS n (hOf n) l cs=true
  Il:root.Place=0∨root.Place=1
  key:bytesL key.toList
  ep:lM e
  eps: ∀ x ∈ l,∀ r ∈ x.Refs,lM r.bO
  ll:l.length≤60
  rl: ∀ x ∈ l,x.Refs.length≤20
  cl:cs.length≤20
variable {n:Int} {l:List aq} {cs:List an} {root:ax} {key:Vector Int 32} {e:Int}
def pgs (cs:List an):List Int:=cs.map (·.dx)
theorem PC.chk (C:PC n l cs root key e):(pgs cs).Pairwise (· < ·)∧ ∀ x ∈ cs,0≤x.dx∧x.dx<n∧x.Bytes.length=256:=by
  have h:=C.may
  unfold mayS at h
  rw [Bool.and_eq_true] at h
  have h2:=wS _ _ h.1
  rw [List.map_map] at h2
  refine ⟨h2.1,fun x hx=> ?_⟩
  have:=h2.2 (x.dx,x.Bytes.length) (List.mem_map.2 ⟨x,hx,rfl⟩)
  dsimp only at this
  omega
theorem FI {p:Int} (h:rgt p=true):p=0∨p=1:=by
  unfold rgt at h
  simpa using h
theorem PC.need (C:PC n l cs root key e) {it:Int} (hi:it ∈ needS (hOf n) (pgs cs)):(fnd l it).isSome=true∧(refsOf (fnd l it)).length=(kidsR (hOf n) it).length∧ ∀ r ∈ refsOf (fnd l it),(r.Place=0∨r.Place=1)∧lM r.bO:=by
  have h:=C.may
  unfold mayS at h
  rw [Bool.and_eq_true] at h
  have h2:=List.all_eq_true.1 h.2 it hi
  unfold okOne at h2
  simp only [Bool.and_eq_true,beq_iff_eq,List.all_eq_true] at h2
  refine ⟨h2.1.1,h2.1.2,fun r hr=>⟨FI (h2.2 r hr), ?_⟩⟩
  cases hf:fnd l it with
  | none=>rw [hf] at hr; cases hr
  | some x =>
    rw [hf] at hr
    exact C.eps x (List.mem_of_find?_eq_some hf) r hr
theorem PC.needr (C:PC n l cs root key e) {it:Int} (hi:it ∈ needS (hOf n) (pgs cs)):n≤it∧it<((hOf n).Level.length:Int):=by
  have h:=wO hi
  have hP:=C.P.N.P
  have hr:=C.P.N.Fz
  rw [hP] at h
  exact ⟨h.1,h.2 (by omega)⟩
def act (n:Int) (cs:List an) (it:Int):Prop:=it ∈ pgs cs∨it ∈ needS (hOf n) (pgs cs)
theorem PC.Im (C:PC n l cs root key e) {it pg:Int} (hp:pg ∈ pgs cs) (hi:n≤it∧it<((hOf n).Level.length:Int)) (h:it ∈ pathR (hOf n) pg):it ∈ needS (hOf n) (pgs cs):=by
  unfold needS
  refine List.mem_filter.2 ⟨List.mem_map.2 ⟨(it - (hOf n).P).toNat,List.mem_range.2 ?_, ?_⟩,List.any_eq_true.2 ⟨pg,hp,decide_eq_true h⟩⟩
  · rw [C.P.N.P]; have:=C.P.N.Fz; omega
  · rw [C.P.N.P]; omega
theorem PC.actr (C:PC n l cs root key e) {it:Int} (h:act n cs it):0≤it∧it<((hOf n).Level.length:Int):=by
  rcases h with h | h
  · obtain ⟨x, hx, rfl⟩ := List.mem_map.1 h
    have:=C.chk.2 x hx
    have:=C.P.N.pos
    omega
  · have := C.needr h
    have:=C.P.N.Fz
    omega
theorem PC.parent (C:PC n l cs root key e) {it:Int} (h:act n cs it) (ht:it+1<((hOf n).Level.length:Int)):(parentR (hOf n) it).1 ∈ needS (hOf n) (pgs cs):=by
  have hr:=C.actr h
  have hp:=C.P.par it.toNat (by omega)
  rw [show ((it.toNat:Nat):Int)=it by omega] at hp
  have key: ∀ pg ∈ pgs cs,it ∈ pathR (hOf n) pg→(parentR (hOf n) it).1 ∈ needS (hOf n) (pgs cs):=by
    intro pg hpg hi
    obtain ⟨x,hx,rfl⟩:=List.mem_map.1 hpg
    have hc:=C.chk.2 x hx
    have hpa:=C.P.path x.dx.toNat (by omega)
    rw [show ((x.dx.toNat:Nat):Int)=x.dx by omega] at hpa
    have:=hpa.2 it hi
    refine C.Im hpg ⟨hp.2.1,hp.2.2.1⟩ ?_
    rcases this.2.2 with h1 | h1
    · omega
    · exact h1
  rcases h with h | h
  · refine key it h ?_
    obtain ⟨x,hx,hxe⟩:=List.mem_map.1 h
    have hc:=C.chk.2 x hx
    have hpa:=C.P.path it.toNat (by omega)
    rw [show ((it.toNat:Nat):Int)=it by omega] at hpa
    exact List.mem_of_mem_head? (by rw [hpa.1]; rfl)
  · unfold needS at h
    obtain ⟨h1,h2⟩:=List.mem_filter.1 h
    obtain ⟨pg,hpg,h3⟩:=List.any_eq_true.1 h2
    exact key pg hpg (of_decide_eq_true h3)
end Go.Pt
namespace Go.Pt
open Go Go.Wc Go.Pu
abbrev gL:=ax
def zR:gL:=⟨0,0,Vector.replicate 32 0⟩
structure PS where
  dL:List (Int × List Int)
  nodes:List (Int × List gL)
  fr:Int→Option gL
  root:gL
variable {n:Int} {l:List aq} {cs:List an} {root:gL} {key:Vector Int 32} {e:Int}
def frS (fr:Int→Option gL) (it:Int) (r:gL):Int→Option gL:=fun j=>if j=it then some r else fr j
def wasS (h:HS) (l:List aq) (root:gL) (it:Int):gL:=if (parentR h it).2.2 then (refsOf (fnd l (parentR h it).1)).getD (parentR h it).2.1.toNat zR else root
def refsW (h:HS) (l:List aq) (fr:Int→Option gL) (it:Int):List gL:=List.zipWith (fun r k=>(fr k).getD r) (refsOf (fnd l it)) (kidsR h it)
def blkN (h:HS) (l:List aq) (root:gL) (it:Int):Int:=2+2*it+(1 - (wasS h l root it).Place)
def newRf (h:HS) (l:List aq) (root:gL) (key:Vector Int 32) (e:Int) (it:Int) (pg:List Int):gL:=⟨1 - (wasS h l root it).Place,e,digV (hidB key e (blkN h l root it) pg)⟩
def hid (h:HS) (l:List aq) (root:gL) (key:Vector Int 32) (e:Int) (s:PS) (it:Int) (pg:List Int):PS:=
  {dL:=s.dL++[(blkN h l root it,hidB key e (blkN h l root it) pg)],nodes:=s.nodes,fr:=frS s.fr it (newRf h l root key e it pg),root:=if it+1=(h.Level.length:Int) then newRf h l root key e it pg else s.root}
def stpN (h:HS) (l:List aq) (root:gL) (key:Vector Int 32) (e:Int) (s:PS) (it:Int):PS:=
  hid h l root key e {s with nodes:=s.nodes++[(it,refsW h l s.fr it)]} it (layS (refsW h l s.fr it))
theorem PC.was (C:PC n l cs root key e) {it:Int} (h:act n cs it):(wasS (hOf n) l root it).Place=0∨(wasS (hOf n) l root it).Place=1:=by
  have hr:=C.actr h
  unfold wasS
  by_cases ht:it+1<((hOf n).Level.length:Int)
  · have hp := C.P.par it.toNat (by omega)
    rw [show ((it.toNat:Nat):Int)=it by omega] at hp
    rw [if_pos hp.1]
    have hn:=C.need (C.parent h ht)
    have hlt:(parentR (hOf n) it).2.1.toNat<(refsOf (fnd l (parentR (hOf n) it).1)).length:=by
      rw [hn.2.1]
      exact (List.getElem?_eq_some_iff.1 hp.2.2.2.2).1
    rw [List.getD_eq_getElem?_getD,List.getElem?_eq_getElem hlt]
    exact (hn.2.2 _ (List.getElem_mem hlt)).1
  · have hp := C.P.top it.toNat (by omega)
    rw [show ((it.toNat:Nat):Int)=it by omega] at hp
    rw [if_neg (by rw [hp]; decide)]
    exact C.Il
theorem PC.kidp (C:PC n l cs root key e) {p:Int} (hp:p ∈ needS (hOf n) (pgs cs)) {k:Nat} (hk:k<(kidsR (hOf n) p).length):parentR (hOf n) ((kidsR (hOf n) p)[k])=(p,(k:Int),true)∧0≤(kidsR (hOf n) p)[k]∧(kidsR (hOf n) p)[k]<((hOf n).Level.length:Int):=by
  have hr:=C.needr hp
  have hn:=C.P.N.Fz
  have h:=C.P.kid p.toNat (by omega) (by omega)
  rw [show ((p.toNat:Nat):Int)=p by omega] at h
  have h2:=h.2.2 k hk
  rw [List.getD_eq_getElem?_getD,List.getElem?_eq_getElem hk] at h2
  exact ⟨h2.2.2,h2.1,h2.2.1⟩
theorem PC.klen (C:PC n l cs root key e) {p:Int} (hp:p ∈ needS (hOf n) (pgs cs)):1≤(kidsR (hOf n) p).length∧(kidsR (hOf n) p).length≤6:=by
  have hr:=C.needr hp
  have hn:=C.P.N.Fz
  have h:=C.P.kid p.toNat (by omega) (by omega)
  rw [show ((p.toNat:Nat):Int)=p by omega] at h
  exact ⟨h.1,h.2.1⟩
theorem PC.rwlen (C:PC n l cs root key e) {p:Int} (hp:p ∈ needS (hOf n) (pgs cs)) (fr:Int→Option gL):(refsW (hOf n) l fr p).length=(kidsR (hOf n) p).length:=by
  unfold refsW
  rw [List.length_zipWith,(C.need hp).2.1,Nat.min_self]
theorem jE {h:HS} {fr:Int→Option gL} {p:Int} {j:Nat} (hj:j<(refsW h l fr p).length) (h1:j<(refsOf (fnd l p)).length) (h2:j<(kidsR h p).length):(refsW h l fr p)[j]=(fr ((kidsR h p)[j])).getD ((refsOf (fnd l p))[j]):=by
  unfold refsW; exact List.getElem_zipWith
theorem PC.Ng (C:PC n l cs root key e) {p it:Int} (hp:p ∈ needS (hOf n) (pgs cs)) (fr:Int→Option gL) (r:gL) (h: ∀ k:Nat,parentR (hOf n) it ≠ (p,(k:Int),true)):refsW (hOf n) l (frS fr it r) p=refsW (hOf n) l fr p:=by
  apply List.ext_getElem
  · rw [C.rwlen hp,C.rwlen hp]
  · intro j h1 h2
    have hk:j<(kidsR (hOf n) p).length:=by rw [C.rwlen hp] at h1; exact h1
    have hf:j<(refsOf (fnd l p)).length:=by rw [(C.need hp).2.1]; exact hk
    rw [jE h1 hf hk,jE h2 hf hk]
    unfold frS
    rw [if_neg]
    intro e
    exact h j (by rw [← e]; exact (C.kidp hp hk).1)
theorem PC.P6 (C:PC n l cs root key e) {p it:Int} {k:Nat} (hp:p ∈ needS (hOf n) (pgs cs)) (fr:Int→Option gL) (r:gL) (h:parentR (hOf n) it=(p,(k:Int),true)) (hk:(kidsR (hOf n) p)[k]? =some it):refsW (hOf n) l (frS fr it r) p=(refsW (hOf n) l fr p).set k r:=by
  obtain ⟨hkl,hke⟩:=List.getElem?_eq_some_iff.1 hk
  apply List.ext_getElem
  · rw [List.length_set,C.rwlen hp,C.rwlen hp]
  · intro j h1 h2
    have hj:j<(kidsR (hOf n) p).length:=by rw [C.rwlen hp] at h1; exact h1
    have hf:j<(refsOf (fnd l p)).length:=by rw [(C.need hp).2.1]; exact hj
    rw [jE h1 hf hj,List.getElem_set]
    by_cases e1:k=j
    · subst e1
      rw [if_pos rfl,hke]
      unfold frS
      rw [if_pos rfl]; rfl
    · rw [if_neg e1, jE (by rw [C.rwlen hp]; exact hj) hf hj]
      unfold frS
      rw [if_neg]
      intro e2
      have:=(C.kidp hp hj).1
      rw [e2,h] at this
      simp only [Prod.mk.injEq] at this
      omega
theorem PC.LM (C:PC n l cs root key e) {p:Int} (hp:p ∈ needS (hOf n) (pgs cs)):refsW (hOf n) l (fun _=>none) p=refsOf (fnd l p):=by
  apply List.ext_getElem
  · rw [C.rwlen hp,(C.need hp).2.1]
  · intro j h1 h2
    rw [jE h1 h2 (by rw [C.rwlen hp] at h1; exact h1)]; rfl
def frOk (fr:Int→Option gL):Prop:= ∀ it r,fr it=some r→(r.Place=0∨r.Place=1)∧lM r.bO
theorem PC.Nd (C:PC n l cs root key e) {p:Int} (hp:p ∈ needS (hOf n) (pgs cs)) {fr:Int→Option gL} (h:frOk fr):okR (refsW (hOf n) l fr p):=by
  intro r hr
  obtain ⟨j,hj,rfl⟩:=List.getElem_of_mem hr
  have hk:j<(kidsR (hOf n) p).length:=by rw [C.rwlen hp] at hj; exact hj
  have hf:j<(refsOf (fnd l p)).length:=by rw [(C.need hp).2.1]; exact hk
  rw [jE hj hf hk]
  cases e1:fr ((kidsR (hOf n) p)[j]) with
  | none=>exact (C.need hp).2.2 _ (List.getElem_mem hf)
  | some r=>exact h _ r e1
theorem PC.Io (C:PC n l cs root key e) {it:Int} (ha:act n cs it) {fr:Int→Option gL} (h:frOk fr) (pg:List Int):frOk (frS fr it (newRf (hOf n) l root key e it pg)):=by
  intro j r hr
  unfold frS at hr
  split at hr
  · cases hr
    have:=C.was ha
    exact ⟨by show 1 - _=_∨1 - _=_; omega,C.ep⟩
  · exact h j r hr
theorem PC.blk (C:PC n l cs root key e) {it:Int} (ha:act n cs it):0≤blkN (hOf n) l root it∧blkN (hOf n) l root it<1000000:=by
  have:=C.was ha
  have:=C.actr ha
  have:=C.P.N.wh.small
  unfold blkN; omega
theorem PC.blkS (C:PC n l cs root key e) {it:Int} (ha:act n cs it):blockS (newB n) it (1 - (wasS (hOf n) l root it).Place)=blkN (hOf n) l root it:=by
  have h1:=C.was ha
  have h2:=C.actr ha
  have h3:=C.P.lev it.toNat (by omega)
  rw [show ((it.toNat:Nat):Int)=it by omega] at h3
  unfold blockS
  rw [if_neg (by omega)]; rfl
theorem PC.parS (C:PC n l cs root key e) {it:Int} (ha:act n cs it):parentS (newB n) it=parentR (hOf n) it:=by
  have h2:=C.actr ha
  have:=C.P.N.Vx it.toNat (by omega)
  rwa [show ((it.toNat:Nat):Int)=it by omega] at this
def toPut (x:Int × List Int):cv:=⟨x.1,x.2⟩
structure CI (n:Int) (l:List aq) (cs:List an) (root:gL) (key:Vector Int 32) (e:Int) (s:PS) (x:aD):Prop where
  eq: ∃ L,x=⟨none,key,e,⟨newB n⟩,sr s.root,some L,s.dL.map toPut⟩∧ ∀ it ∈ needS (hOf n) (pgs cs),Pu.look L it=some ((refsW (hOf n) l s.fr it).map sr)
  rt:s.fr (((hOf n).Level.length:Int) - 1)=none→s.root=root
  fk:frOk s.fr
  pl:s.dL.length≤1000
theorem uN (C : PC n l cs root key e) {s : PS} {x : aD} {p : Addr} {it : Int} {pg : List Int} {σ : St Obj} {Q : St Obj → Prop} (I : CI n l cs root key e s x) (ha : act n cs it) (hf : s.fr it = none) (hpg : pg.length = 256) (hx : σ p = some (.aD x)) (hpl : s.dL.length < 1000)
    (H: ∀ x',CI n l cs root key e (hid (hOf n) l root key e s it pg) x'→Q (sset σ p (.aD x'))):cB (some p) it pg σ Q:=by
  obtain ⟨⟨L,ex,hL⟩,hrt,hfk,P4⟩:=I
  subst ex
  have hr:=C.actr ha
  have hw:=C.was ha
  have hb:=C.blk ha
  unfold cB
  refine ⟨_,hx, ?_⟩
  dsimp only
  refine kC C.P.N.wb ?_
  rw [C.parS ha]
  have Vd: ∀ w:Int,w=0∨w=1→IntKind.wrap .i64 (1 - w)=1 - w:=fun w h=>eL (by omega)
  by_cases ht:it+1<((hOf n).Level.length:Int)
  · have hp := C.P.par it.toNat (by omega)
    rw [show ((it.toNat:Nat):Int)=it by omega] at hp
    have hpn:=C.parent ha ht
    obtain ⟨k,hk⟩: ∃ k:Nat,(parentR (hOf n) it).2.1=(k:Int):=⟨_,(Int.toNat_of_nonneg hp.2.2.2.1).symm⟩
    have hke:=hp.2.2.2.2
    rw [hk,Int.toNat_natCast] at hke
    obtain ⟨hkl,hkv⟩:=List.getElem?_eq_some_iff.1 hke
    have hpar:parentR (hOf n) it=((parentR (hOf n) it).1,(k:Int),true):=by rw [← hk,← hp.1]
    obtain ⟨pp,hpp⟩: ∃ pp,pp=(parentR (hOf n) it).1:=⟨_,rfl⟩
    have hrl:=C.rwlen hpn s.fr
    have hfl:k<(refsOf (fnd l (parentR (hOf n) it).1)).length:=by rw [(C.need hpn).2.1]; exact hkl
    have hkr:k<(refsW (hOf n) l s.fr (parentR (hOf n) it).1).length:=by rw [hrl]; exact hkl
    have hwas:(refsW (hOf n) l s.fr (parentR (hOf n) it).1)[k]=wasS (hOf n) l root it:=by
      rw [jE hkr hfl hkl,hkv,hf]
      unfold wasS
      rw [if_pos hp.1,hk,Int.toNat_natCast,List.getD_eq_getElem?_getD,List.getElem?_eq_getElem hfl]; rfl
    rw [hp.1,ak,hk]
    refine ⟨L,_,rfl,hL _ hpn, ?_⟩
    refine cK (by rw [List.length_map]; exact hkr) ?_
    rw [List.getElem_map,hwas,show (sr (wasS (hOf n) l root it)).Place=(wasS (hOf n) l root it).Place from rfl,Vd _ hw]
    refine xF C.P.N.wb (C.blkS ha) ?_
    have fin: ∀ σ',σ'=sset σ p (.aD ⟨none,key,e,⟨newB n⟩,sr s.root,(some L).map (Pu.upd · (parentR (hOf n) it).1 (((refsW (hOf n) l s.fr (parentR (hOf n) it).1).map sr).set k (sr (newRf (hOf n) l root key e it pg)))),s.dL.map toPut++[⟨blkN (hOf n) l root it,hidB key e (blkN (hOf n) l root it) pg⟩]⟩)→Q σ':=by
      intro σ' hσ
      rw [hσ]
      refine H _ ⟨⟨Pu.upd L (parentR (hOf n) it).1 (((refsW (hOf n) l s.fr (parentR (hOf n) it).1).map sr).set k (sr (newRf (hOf n) l root key e it pg))), ?_, ?_⟩, ?_,C.Io ha hfk pg, ?_⟩
      · have e1 : (hid (hOf n) l root key e s it pg).root = s.root := by
          show (if it+1=((hOf n).Level.length:Int) then _ else s.root)=_
          rw [if_neg (by omega)]
        rw [e1]
        have e2:(hid (hOf n) l root key e s it pg).dL.map toPut=s.dL.map toPut++[⟨blkN (hOf n) l root it,hidB key e (blkN (hOf n) l root it) pg⟩]:=by
          show (s.dL++[_]).map toPut=_
          rw [List.map_append]; rfl
        rw [e2]; rfl
      · intro q hq
        show _=some ((refsW (hOf n) l (frS s.fr it (newRf (hOf n) l root key e it pg)) q).map sr)
        rw [Pu.ot]
        by_cases hqe:q=(parentR (hOf n) it).1
        · rw [if_pos hqe,hqe,C.P6 hpn s.fr _ hpar hke,List.map_set]
        · rw [if_neg hqe,hL q hq,C.Ng hq s.fr _ (by intro k2 h2; rw [h2] at hqe; exact hqe rfl)]
      · intro hn0
        show (if it+1=((hOf n).Level.length:Int) then _ else s.root)=_
        rw [if_neg (by omega)]
        refine hrt ?_
        have:frS s.fr it (newRf (hOf n) l root key e it pg) (((hOf n).Level.length:Int) - 1)=none:=hn0
        unfold frS at this
        rwa [if_neg (by omega)] at this
      · show (s.dL ++ [_]).length ≤ _
        rw [List.length_append]; simp only [List.length_cons,List.length_nil]; omega
    have hbnd:Bnd ((s.dL.map toPut).length+1):=ct (by rw [List.length_map]; omega)
    refine ⟨?_, ?_⟩
    · refine oR C.key C.ep.1 hpg hb (by omega) ⟨hbnd, fun _ => ?_⟩
      refine fin _ ?_
      rw [mK]; rfl
    · refine oR C.key C.ep.1 hpg hb (by omega) ⟨hbnd, fun _ => ?_⟩
      refine fin _ ?_
      rw [mK]; rfl
  · have hp := C.P.top it.toNat (by omega)
    rw [show ((it.toNat:Nat):Int)=it by omega] at hp
    rw [hp,aa]
    have hsr:s.root=root:=hrt (by rw [show ((hOf n).Level.length:Int) - 1=it by omega]; exact hf)
    have hwas:wasS (hOf n) l root it=root:=by unfold wasS; rw [if_neg (by rw [hp]; decide)]
    have aet:(sr s.root).Place=(wasS (hOf n) l root it).Place:=by rw [hwas,hsr]; rfl
    rw [aet,Vd _ hw]
    refine xF C.P.N.wb (C.blkS ha) ?_
    have fin:Q (sset σ p (.aD ⟨none,key,e,⟨newB n⟩,sr (newRf (hOf n) l root key e it pg),some L,s.dL.map toPut++[⟨blkN (hOf n) l root it,hidB key e (blkN (hOf n) l root it) pg⟩]⟩)):=by
      refine H _ ⟨⟨L, ?_, ?_⟩, ?_,C.Io ha hfk pg, ?_⟩
      · have e1 : (hid (hOf n) l root key e s it pg).root = newRf (hOf n) l root key e it pg := by
          show (if it+1=((hOf n).Level.length:Int) then _ else s.root)=_
          rw [if_pos (by omega)]
        rw [e1]
        have e2:(hid (hOf n) l root key e s it pg).dL.map toPut=s.dL.map toPut++[⟨blkN (hOf n) l root it,hidB key e (blkN (hOf n) l root it) pg⟩]:=by
          show (s.dL++[_]).map toPut=_
          rw [List.map_append]; rfl
        rw [e2]
      · intro q hq
        show _=some ((refsW (hOf n) l (frS s.fr it (newRf (hOf n) l root key e it pg)) q).map sr)
        rw [hL q hq,C.Ng hq s.fr _ (by intro k2 h2; rw [h2] at hp; cases hp)]
      · intro hn0
        have:frS s.fr it (newRf (hOf n) l root key e it pg) (((hOf n).Level.length:Int) - 1)=none:=hn0
        unfold frS at this
        rw [if_pos (by omega)] at this
        cases this
      · show (s.dL ++ [_]).length ≤ _
        rw [List.length_append]; simp only [List.length_cons,List.length_nil]; omega
    have hbnd:Bnd ((s.dL.map toPut).length+1):=ct (by rw [List.length_map]; omega)
    refine ⟨?_, ?_⟩
    · exact oR C.key C.ep.1 hpg hb (by omega) ⟨_,hx,hbnd,fin⟩
    · exact oR C.key C.ep.1 hpg hb (by omega) ⟨_,hx,hbnd,fin⟩
end Go.Pt
namespace Go.Pt
open Go Go.Wc Go.Pu
variable {n:Int} {l:List aq} {cs:List an} {root:gL} {key:Vector Int 32} {e:Int}
def s0 (root:gL):PS:=⟨[],[],fun _=>none,root⟩
def hidC (h:HS) (l:List aq) (root:gL) (key:Vector Int 32) (e:Int) (s:PS) (c:an):PS:=hid h l root key e s c.dx c.Bytes
def planC (h:HS) (l:List aq) (root:gL) (key:Vector Int 32) (e:Int) (cs:List an):PS:=(needS h (pgs cs)).foldl (stpN h l root key e) (cs.foldl (hidC h l root key e) (s0 root))
def toNd (x:Int × List gL):aO:=⟨x.1,x.2.map sr⟩
theorem Ij {h:HS} {s:PS} {it:Int} {pg:List Int} {j:Int} (hj:(hid h l root key e s it pg).fr j ≠ none):j=it∨s.fr j ≠ none:=by
  by_cases e1:j=it
  · exact .inl e1
  · right
    have:(hid h l root key e s it pg).fr j=s.fr j:=by show frS s.fr it _ j=_; unfold frS; rw [if_neg e1]
    rwa [this] at hj
theorem mN {h:HS} {s:PS} {it:Int} {pg:List Int}:(hid h l root key e s it pg).dL.length=s.dL.length+1:=by
  show (s.dL++[_]).length=_
  rw [List.length_append]; rfl
theorem sG {L:List Int} (h:L.Pairwise (· < ·)) {i:Nat} (hi:i<L.length):L[i] ∉ L.take i:=by
  intro hm
  obtain ⟨j,hj,e1⟩:=List.getElem_of_mem hm
  rw [List.length_take] at hj
  rw [List.getElem_take] at e1
  have:=List.pairwise_iff_getElem.1 h j i (by omega) hi (by omega)
  omega
theorem NV (C : PC n l cs root key e) {σ : St Obj} {Q : aE.QT} (H : ∀ σ', Q ((planC (hOf n) l root key e cs).dL.map toPut) ((planC (hOf n) l root key e cs).nodes.map toNd) (sr (planC (hOf n) l root key e cs).root) 0 σ') :
    aE none key e ⟨newB n⟩ (sr root) (l.map tn) (cs.map tc) σ Q:=by
  have hll:l.length≤100000:=by have:=C.ll; omega
  have hrl: ∀ x ∈ l,x.Refs.length≤100000:=fun x hx=>by have:=C.rl x hx; omega
  have hcl:=C.cl
  have hsm:=C.P.N.wh.small
  have hnl:=lI (hOf n) (pgs cs)
  obtain ⟨need,hneed⟩: ∃ need,need=needS (hOf n) (pgs cs):=⟨_,rfl⟩
  have hns:need.Pairwise (· < ·):=by rw [hneed]; exact lD _ _
  have hnlen:need.length≤400:=by rw [hneed]; omega
  obtain ⟨s1,hs1⟩: ∃ s,s=cs.foldl (hidC (hOf n) l root key e) (s0 root):=⟨_,rfl⟩
  have l4 : ∀ (j i : Nat) (m : aE.V) (σ : St Obj) (x : aD) (s : PS), i + j = need.length → m.pM = need → m.vY = (need.length : Int) → m.v85 = (i : Int) → σ m.mD = some (.aD x) → s = (need.take i).foldl (stpN (hOf n) l root key e) s1 → CI n l cs root key e s x → s.dL.length = cs.length + i → (∀ k, s.fr k ≠ none → k ∈ pgs cs ∨ k ∈ need.take i) → m.dz = s.nodes.map toNd → s.nodes.length = i → aE.L4 Q m σ := by
    intro j
    induction j with
    | zero =>
      intro i m σ x s hi e1 e2 e3 hx hs I hp hfr LK Ik
      obtain rfl:i=need.length:=by omega
      refine aE.kg ?_
      unfold aE.B4
      rw [e2,e3,dge (by omega),aa]
      obtain ⟨⟨L,ex,hL⟩,hrt,hfk,P4⟩:=I
      refine ⟨x,hx, ?_⟩
      rw [ex,LK]
      have:planC (hOf n) l root key e cs=s:=by
        unfold planC
        rw [hs,List.take_of_length_le (Nat.le_refl _),hs1,hneed]
      rw [← this]
      exact H _
    | succ j ih =>
      intro i m σ x s hi e1 e2 e3 hx hs I hp hfr LK Ik
      have hii:i<need.length:=by omega
      have hmem:need[i] ∈ needS (hOf n) (pgs cs):=by rw [← hneed]; exact List.getElem_mem hii
      have hnr:=C.needr hmem
      have hfn:s.fr need[i]=none:=by
        cases h:s.fr need[i] with
        | none=>rfl
        | some r =>
          rcases hfr need[i] (by rw [h]; simp) with h1 | h1
          · obtain ⟨y, hy, hye⟩ := List.mem_map.1 h1
            have:=C.chk.2 y hy
            omega
          · exact absurd h1 (sG hns hii)
      refine aE.kg ?_
      unfold aE.B4
      rw [e1,e2,e3,dlt hii,ak]
      refine cK hii ?_
      obtain ⟨⟨L,ex,hL⟩,hrt,hfk,P4⟩:=I
      refine ⟨x,hx, ?_⟩
      subst ex
      have Nc:=hL _ hmem
      refine ⟨L,_,rfl,Nc, ?_⟩
      have hrw:=C.rwlen hmem s.fr
      have hkl:=C.klen hmem
      refine ⟨ct (by rw [List.length_map,hrw]; omega),ct (by rw [LK,List.length_map,Ik]; simp only [List.length_cons,List.length_nil]; omega), ?_⟩
      refine ⟨_,((refsW (hOf n) l s.fr need[i]).map sr),rfl,by rw [Pu.ot,if_pos rfl], ?_⟩
      have hok:=C.Nd hmem hfk
      refine EM (by rw [hrw]; exact hkl) hok ?_
      refine uN C (s:= {s with nodes:=s.nodes++[(need[i],refsW (hOf n) l s.fr need[i])]}) (x:=⟨none,key,e,⟨newB n⟩,sr s.root,some (Pu.upd (Pu.upd L need[i] ((refsW (hOf n) l s.fr need[i]).map sr)) need[i] ((refsW (hOf n) l s.fr need[i]).map sr)),s.dL.map toPut⟩) ?_ (.inr hmem) hfn (qv (by rw [hrw]; exact hkl.2)) (iu _ _ _) (by show s.dL.length<1000; omega) fun x' I'=> ?_
      · refine ⟨⟨_, rfl, ?_⟩, hrt, hfk, P4⟩
        intro q hq
        show Pu.look _ q=some ((refsW (hOf n) l s.fr q).map sr)
        rw [Pu.ot,Pu.ot]
        by_cases hqe:q=need[i]
        · rw [if_pos hqe,hqe]
        · rw [if_neg hqe,if_neg hqe]; exact hL q hq
      · rw [mL, cW (by omega)]
        have hst:stpN (hOf n) l root key e s need[i]=hid (hOf n) l root key e {s with nodes:=s.nodes++[(need[i],refsW (hOf n) l s.fr need[i])]} need[i] (layS (refsW (hOf n) l s.fr need[i])):=rfl
        refine ih (i+1) _ _ x' (stpN (hOf n) l root key e s need[i]) (by omega) (by first | exact e1 | rfl) (by first | exact e2 | rfl) rfl (iu _ _ _) ?_ I' ?_ ?_ ?_ ?_
        · rw [dJ hii,List.foldl_append,← hs]; rfl
        · rw [hst,mN]; show s.dL.length+1=_; omega
        · intro k hk
          rcases Ij hk with h1 | h1
          · right; rw [dJ hii]; exact List.mem_append_right _ (List.mem_singleton.2 h1)
          · rcases hfr k h1 with h2 | h2
            · exact .inl h2
            · right; rw [dJ hii]; exact List.mem_append_left _ h2
        · show m.dz ++ _ = (s.nodes ++ [_]).map toNd
          rw [LK,List.map_append]; rfl
        · show (s.nodes ++ [_]).length = _
          rw [List.length_append,Ik]; rfl
  have l3 : ∀ (j i : Nat) (m : aE.V) (σ : St Obj) (x : aD) (s : PS), i + j = cs.length → m.v70 = cs.map tc → m.nA = (cs.length : Int) → m.v72 = (i : Int) → m.cL = need → σ m.mD = some (.aD x) → s = (cs.take i).foldl (hidC (hOf n) l root key e) (s0 root) → CI n l cs root key e s x → s.dL.length = i → s.nodes = [] → (∀ k, s.fr k ≠ none → k ∈ pgs (cs.take i)) → aE.L3 Q m σ := by
    intro j
    induction j with
    | zero =>
      intro i m σ x s hi e1 e2 e3 e4 hx hs I hp hnn hfr
      obtain rfl:i=cs.length:=by omega
      rw [List.take_of_length_le (Nat.le_refl _)] at hs hfr
      refine aE.ff ?_
      unfold aE.B3
      rw [e2,e3,dge (by omega),aa,e4]
      refine l4 need.length 0 _ σ x s (by omega) rfl rfl rfl hx (by rw [List.take_zero,hs1]; exact hs) I (by omega) (fun k hk=> .inl (hfr k hk)) ?_ ?_
      · dsimp only; rw [hnn]; rfl
      · rw [hnn]; rfl
    | succ j ih =>
      intro i m σ x s hi e1 e2 e3 e4 hx hs I hp hnn hfr
      have hii:i<cs.length:=by omega
      have hc:=C.chk.2 cs[i] (List.getElem_mem hii)
      have hpg:cs[i].dx ∈ pgs cs:=List.mem_map.2 ⟨_,List.getElem_mem hii,rfl⟩
      have hfn:s.fr cs[i].dx=none:=by
        cases h:s.fr cs[i].dx with
        | none=>rfl
        | some r =>
          have h1:=hfr cs[i].dx (by rw [h]; simp)
          have h2:=sG C.chk.1 (i:=i) (by unfold pgs; rw [List.length_map]; exact hii)
          unfold pgs at h1 h2
          rw [List.getElem_map,← List.map_take] at h2
          exact absurd h1 h2
      refine aE.ff ?_
      unfold aE.B3
      rw [e1,e2,e3,dlt hii,ak]
      refine cK (by rw [List.length_map]; exact hii) ?_
      rw [List.getElem_map]
      refine uN C I (.inl hpg) hfn hc.2.2 hx (by omega) fun x' I'=> ?_
      rw [cW (by omega)]
      refine ih (i+1) _ _ x' (hidC (hOf n) l root key e s cs[i]) (by omega) (by first | exact e1 | rfl) (by first | exact e2 | rfl) rfl e4 (iu _ _ _) ?_ I' ?_ hnn ?_
      · rw [dJ hii,List.foldl_append,← hs]; rfl
      · show (hid _ _ _ _ _ s _ _).dL.length = _
        rw [mN]; omega
      · intro k hk
        unfold pgs
        rw [dJ hii,List.map_append]
        rcases Ij hk with h1 | h1
        · rw [h1]; simp
        · exact List.mem_append_left _ (hfr k h1)
  have l2: ∀ (j i:Nat) (m:aE.V) (σ:St Obj) (L:List (Int × List aF)),i+j=need.length→m.cP=l.map tn→m.bT=cs.map tc→m.pL=need→m.cL=need→m.v53=(need.length:Int)→m.rC=(i:Int)→σ m.mD=some (.aD ⟨none,key,e,⟨newB n⟩,sr root,some L,[]⟩)→(∀ it ∈ need.take i,Pu.look L it=some ((refsOf (fnd l it)).map sr))→aE.L2 Q m σ:=by
    intro j
    induction j with
    | zero =>
      intro i m σ L hi e1 e2 e3 e6 e4 e5 hx hL
      obtain rfl:i=need.length:=by omega
      rw [List.take_of_length_le (Nat.le_refl _)] at hL
      refine aE.cM ?_
      unfold aE.B2
      rw [e4,e5,dge (by omega),aa,e2]
      refine l3 cs.length 0 _ σ _ (s0 root) (by omega) rfl (by dsimp only; rw [List.length_map]) rfl e6 hx rfl ⟨⟨L,rfl, ?_⟩,fun _=>rfl, ?_,Nat.zero_le _⟩ rfl rfl (fun k hk=>absurd rfl hk)
      · intro q hq
        show _=some ((refsW (hOf n) l (fun _=>none) q).map sr)
        rw [C.LM hq]
        exact hL q (by rw [hneed]; exact hq)
      · intro it r h; cases h
    | succ j ih =>
      intro i m σ L hi e1 e2 e3 e6 e4 e5 hx hL
      have hii:i<need.length:=by omega
      refine aE.cM ?_
      unfold aE.B2
      rw [e3,e4,e5,e1,dlt hii,ak]
      refine cK hii ⟨_,hx, ?_⟩
      refine find_spec hll hrl ⟨L,rfl, ?_⟩
      rw [cW (by omega)]
      refine ih (i+1) _ _ (Pu.upd L need[i] ((refsOf (fnd l need[i])).map sr)) (by omega) (by first | exact e1 | rfl) e2 (by first | exact e3 | rfl) e6 (by first | exact e4 | rfl) rfl (iu _ _ _) ?_
      intro it hit
      rw [Pu.ot]
      by_cases hqe:it=need[i]
      · rw [if_pos hqe,hqe]
      · rw [if_neg hqe]
        refine hL it ?_
        rw [dJ hii] at hit
        rcases List.mem_append.1 hit with h1 | h1
        · exact h1
        · exact absurd (List.mem_singleton.1 h1) hqe
  unfold aE
  refine ue C.P.N hll hrl (by omega) ?_
  rw [C.may,show (!true)=false from rfl,aa]
  refine k9 ?_
  have hrg:rgt (sr root).Place=true:=by
    show rgt root.Place=true
    rcases C.Il with h | h <;> rw [h] <;> rfl
  rw [hrg]
  unfold aE.K1; dsimp only
  rw [show (!true)=false from rfl,aa]
  intro p
  refine nt (by rw [List.length_map]; omega) ?_
  rw [List.map_map]
  refine oN C.P.N (by rw [List.length_map]; omega) ?_
  intro hp
  show aE.L2 Q _ _
  refine l2 need.length 0 _ _ [] (by omega) rfl rfl ?_ ?_ ?_ rfl (iu _ _ _) (fun _ h=>by cases h)
  · rw [hneed]; rfl
  · rw [hneed]; rfl
  · rw [hneed]; rfl
end Go.Pt
namespace Go.Pt
open Go Go.Wc Go.Pu
variable {n:Int} {l:List aq} {cs:List an} {root:gL} {key:Vector Int 32} {e:Int}
def pgF (it:Int) (pg:List Int) (c:an):List Int:=if c.dx=it then c.Bytes else pg
def pageL (cs:List an) (it:Int):List Int:=cs.foldl (pgF it) []
theorem uO {it:Int}: ∀ (cs:List an) (pg:List Int),(∀ c ∈ cs,c.dx ≠ it)→cs.foldl (pgF it) pg=pg
  | [],_,_=>rfl
  | d :: r, pg, h => by
    rw [List.foldl_cons,uO r _ fun c hc=>h c (by simp [hc])]
    unfold pgF; rw [if_neg (h d (by simp))]
theorem rL : ∀ (cs : List an) (pg : List Int), (pgs cs).Pairwise (· < ·) → ∀ c ∈ cs, cs.foldl (pgF c.dx) pg = c.Bytes
  | [],_,_,_,h=>by cases h
  | d :: r, pg, hs, c, hc => by
    have hs2:=List.pairwise_cons.1 hs
    rw [List.foldl_cons]
    rcases List.mem_cons.1 hc with rfl | hc
    · rw [uO r _ (fun x hx => by
        have h3:c.dx<x.dx:=hs2.1 x.dx (List.mem_map.2 ⟨x,hx,rfl⟩)
        omega)]
      unfold pgF; rw [if_pos rfl]
    · exact rL r _ hs2.2 c hc
def stp (n:Int) (l:List aq) (cs:List an) (root:gL) (key:Vector Int 32) (e:Int) (s:PS) (it:Int):PS:=
  if it ∈ pgs cs then hid (hOf n) l root key e s it (pageL cs it) else if it ∈ needS (hOf n) (pgs cs) then stpN (hOf n) l root key e s it else s
def items (n:Int):List Int:=(List.range (hOf n).Level.length).map fun i:Nat=>(i:Int)
theorem rM {X Y:Type} {f g:Y→X→Y}: ∀ (L:List X) (s:Y),(∀ x ∈ L,∀ s,f s x=g s x)→L.foldl f s=L.foldl g s
  | [],_,_=>rfl
  | x::L,s,h=>by rw [List.foldl_cons,List.foldl_cons,h x (by simp),rM L _ fun y hy=>h y (by simp [hy])]
theorem rN {X Y:Type} {f:Y→X→Y} {p:X→Bool}: ∀ (L:List X) (s:Y),(∀ x s,p x=false→f s x=s)→L.foldl f s=(L.filter p).foldl f s
  | [],_,_=>rfl
  | x :: L, s, h => by
    rw [List.foldl_cons,List.filter_cons]
    cases hp:p x with
    | false=>rw [h x s hp]; exact rN L s h
    | true=>rw [if_pos rfl,List.foldl_cons]; exact rN L _ h
theorem BK {a b:List Int} (ha:a.Pairwise (· < ·)) (hb:b.Pairwise (· < ·)) (h: ∀ x,x ∈ a↔x ∈ b):a=b:=by
  refine List.Perm.eq_of_pairwise (le:=fun x y:Int=>x≤y) (fun a b _ _ h1 h2=>Int.le_antisymm h1 h2) (ha.imp fun h=>by omega) (hb.imp fun h=>by omega) ?_
  exact (List.perm_ext_iff_of_nodup (ha.imp fun h=>by omega) (hb.imp fun h=>by omega)).2 h
theorem LO (C : PC n l cs root key e) : (items n).foldl (stp n l cs root key e) (s0 root) = planC (hOf n) l root key e cs := by
  rw [rN (p:=fun it=>decide (it ∈ pgs cs∨it ∈ needS (hOf n) (pgs cs))) (items n) (s0 root) ?_]
  · have e1 : (items n).filter (fun it => decide (it ∈ pgs cs ∨ it ∈ needS (hOf n) (pgs cs))) = pgs cs ++ needS (hOf n) (pgs cs) := by
      refine BK (List.Pairwise.filter _ ?_) ?_ ?_
      · unfold items
        rw [List.pairwise_map]
        exact List.pairwise_lt_range.imp fun h=>by omega
      · refine List.pairwise_append.2 ⟨C.chk.1, lD _ _, ?_⟩
        intro a ha b hb
        obtain ⟨x,hx,rfl⟩:=List.mem_map.1 ha
        have h1:=C.chk.2 x hx
        have h2:=C.needr hb
        omega
      · intro x
        rw [List.mem_filter,List.mem_append,decide_eq_true_eq]
        refine ⟨fun h=>h.2,fun h=>⟨?_,h⟩⟩
        have:=C.actr (it:=x) h
        exact List.mem_map.2 ⟨x.toNat,List.mem_range.2 (by omega),by omega⟩
    rw [e1,List.foldl_append]
    have e2:(pgs cs).foldl (stp n l cs root key e) (s0 root)=cs.foldl (hidC (hOf n) l root key e) (s0 root):=by
      unfold pgs
      rw [List.foldl_map]
      refine rM _ _ fun c hc s=> ?_
      unfold stp
      rw [if_pos (show c.dx ∈ pgs cs from List.mem_map.2 ⟨c,hc,rfl⟩)]
      unfold hidC pageL
      rw [rL cs [] C.chk.1 c hc]
    rw [e2]
    unfold planC
    refine rM _ _ fun it hit s=> ?_
    unfold stp
    rw [if_neg,if_pos hit]
    intro hp
    obtain ⟨x,hx,hxe⟩:=List.mem_map.1 hp
    have h1:=C.chk.2 x hx
    have h2:=C.needr hit
    omega
  · intro x s hx
    have hx:=of_decide_eq_false hx
    unfold stp
    rw [if_neg (fun h=>hx (.inl h)),if_neg (fun h=>hx (.inr h))]
def toPR (x:Int × List Int):cN:=⟨x.1,x.2⟩
def toNR (x:Int × List gL):aq:=⟨x.1,x.2⟩
def tot (s:PS):bS:=⟨s.dL.map toPR,s.nodes.map toNR,s.root,0⟩
structure RI (n:Int) (l:List aq) (cs:List an) (root:gL) (key:Vector Int 32) (e:Int) (s:PS) (m:ai.V):Prop where
  ep:m.cT=e
  l4:m.l4=l
  c5:m.c5=cs
  key:m.lu=key
  s8:m.s8=hOf n
  root:m.gX=root
  out:m.cQ=tot s
  need:m.gv=needS (hOf n) (pgs cs)
  fl:m.dW.length=(hOf n).Level.length
  tl:m.dB.length=(hOf n).Level.length
  fr: ∀ i:Nat,i<(hOf n).Level.length→m.dW[i]? =some ((s.fr i).getD zR)∧m.dB[i]? =some (s.fr i).isSome
  fk:frOk s.fr
theorem Df (C : PC n l cs root key e) {s : PS} {m : ai.V} {it : Nat} {pg : List Int} {S2 : ai.V → Prop} {Q : ai.QT} (R : RI n l cs root key e s m) (ha : act n cs it) (hit : m.dw = (it : Int)) (hw : m.ux = wasS (hOf n) l root it) (hp : m.jv = pg) (hpg : pg.length = 256) (hpl : s.dL.length ≤ 1000)
    (H: ∀ m',RI n l cs root key e (hid (hOf n) l root key e s it pg) m'→m'.dw=((it+1:Nat):Int)→S2 m'):ai.K7 S2 Q m:=by
  have hr:=C.actr ha
  have hwp:=C.was ha
  have hb:=C.blk ha
  have hsm:=C.P.N.wh.small
  unfold ai.K7
  rw [hw,R.s8,hit,R.key,R.ep,hp,eL (n:=1 - (wasS (hOf n) l root it).Place) (by omega)]
  refine EN hr hsm (by omega) ?_
  refine BL C.key C.ep.1 hpg hb (by omega) ⟨ct ?_, ?_⟩
  · rw [R.out]; show (s.dL.map toPR).length+1≤_; rw [List.length_map]; omega
  refine gB it rfl (by rw [R.fl]; omega) (gB it rfl (by rw [R.tl]; omega) ?_)
  have fin: ∀ m':ai.V,m'.cT=m.cT→m'.l4=m.l4→m'.c5=m.c5→m'.lu=m.lu→m'.s8=m.s8→m'.gX=m.gX→m'.gv=m.gv→m'.dw=(it:Int)→m'.cQ=tot (hid (hOf n) l root key e s it pg)→m'.dW=m.dW.set it (newRf (hOf n) l root key e it pg)→m'.dB=m.dB.set it true→ai.K9 S2 Q m':=by
    intro m' a1 a2 a3 a4 a5 a6 a7 a8 a9 Xr Xs
    unfold ai.K9
    rw [a8,cW (by omega)]
    refine H _ ⟨a1.trans R.ep,a2.trans R.l4,a3.trans R.c5,a4.trans R.key,a5.trans R.s8,a6.trans R.root,a9,a7.trans R.need, ?_, ?_, ?_,C.Io ha R.fk pg⟩ rfl
    · show m'.dW.length=_; rw [Xr,List.length_set]; exact R.fl
    · show m'.dB.length=_; rw [Xs,List.length_set]; exact R.tl
    · intro i hi
      show m'.dW[i]? =some ((frS s.fr it (newRf (hOf n) l root key e it pg) i).getD zR)∧m'.dB[i]? =some (frS s.fr it (newRf (hOf n) l root key e it pg) i).isSome
      rw [Xr,Xs,List.getElem?_set,List.getElem?_set]
      unfold frS
      by_cases h1:it=i
      · subst h1
        simp only [if_true]
        rw [if_pos (show it<m.dW.length by rw [R.fl]; omega),if_pos (show it<m.dB.length by rw [R.tl]; omega)]
        exact ⟨rfl,rfl⟩
      · rw [if_neg h1, if_neg h1, if_neg (by omega)]
        exact R.fr i hi
  rw [eL (n:=(((hOf n).Level.length:Nat):Int) - 1) (by omega)]
  have hout:(m.cQ.fL++[(⟨2+2*(it:Int)+(1 - (wasS (hOf n) l root it).Place),hidB key e (2+2*(it:Int)+(1 - (wasS (hOf n) l root it).Place)) pg⟩:cN)])=(hid (hOf n) l root key e s it pg).dL.map toPR:=by
    rw [R.out]
    show s.dL.map toPR++_=(s.dL++[_]).map toPR
    rw [List.map_append]; rfl
  by_cases ht:(it:Int)=(((hOf n).Level.length:Nat):Int) - 1
  · rw [show ((it : Int) == (((hOf n).Level.length : Nat) : Int) - 1) = true by rw [beq_iff_eq]; exact ht, ak]
    refine fin _ (by first | exact R.ep.symm | rfl) rfl rfl (by first | exact R.key.symm | rfl) (by first | exact R.s8.symm | rfl) rfl rfl rfl ?_ ?_ ?_
    · dsimp only
      rw [hout,R.out]
      unfold tot
      have e1:(hid (hOf n) l root key e s it pg).root=newRf (hOf n) l root key e it pg:=by
        show (if (it:Int)+1=((hOf n).Level.length:Int) then _ else s.root)=_
        rw [if_pos (by omega)]
      rw [e1]; rfl
    · dsimp only; rw [Int.toNat_natCast]; rfl
    · dsimp only; rw [Int.toNat_natCast]
  · rw [show ((it : Int) == (((hOf n).Level.length : Nat) : Int) - 1) = false by rw [beq_eq_false_iff_ne]; exact ht, aa]
    refine fin _ (by first | exact R.ep.symm | rfl) rfl rfl (by first | exact R.key.symm | rfl) (by first | exact R.s8.symm | rfl) rfl rfl rfl ?_ ?_ ?_
    · dsimp only
      rw [hout,R.out]
      unfold tot
      have e1:(hid (hOf n) l root key e s it pg).root=s.root:=by
        show (if (it:Int)+1=((hOf n).Level.length:Int) then _ else s.root)=_
        rw [if_neg (by omega)]
      rw [e1]; rfl
    · dsimp only; rw [Int.toNat_natCast]; rfl
    · dsimp only; rw [Int.toNat_natCast]
theorem Dg (C:PC n l cs root key e) {s:PS} {m:ai.V} {it:Nat} {pg:List Int} {S2:ai.V→Prop} {Q:ai.QT} (R:RI n l cs root key e s m) (ha:act n cs it) (hit:m.dw=(it:Int)) (hp:m.jv=pg) (hpg:pg.length=256) (hpl:s.dL.length≤1000)
    (H: ∀ m',RI n l cs root key e (hid (hOf n) l root key e s it pg) m'→m'.dw=((it+1:Nat):Int)→S2 m'):ai.K8 S2 Q m:=by
  have hr:=C.actr ha
  have hll:=C.ll
  have hwas:wasS (hOf n) l root it=if (parentR (hOf n) it).2.2 then (refsOf (fnd l (parentR (hOf n) it).1)).getD (parentR (hOf n) it).2.1.toNat zR else root:=rfl
  unfold ai.K8
  rw [R.s8,hit]
  refine qH C.P.N.wh ?_
  by_cases ht:(it:Int)+1<((hOf n).Level.length:Int)
  · have P5 := C.P.par it (by omega)
    rw [P5.1,ak,R.l4]
    refine pN (by omega) ?_
    have hn:=C.need (C.parent ha ht)
    have hkl:=(List.getElem?_eq_some_iff.1 P5.2.2.2.2).1
    have hlt:(parentR (hOf n) it).2.1.toNat<(refsOf (fnd l (parentR (hOf n) it).1)).length:=by rw [hn.2.1]; exact hkl
    refine gB (parentR (hOf n) it).2.1.toNat (Int.toNat_of_nonneg P5.2.2.2.1).symm hlt ?_
    refine Df C ⟨R.ep,by first | exact R.l4 | rfl,R.c5,R.key,by first | exact R.s8 | rfl,R.root,R.out,R.need,R.fl,R.tl,R.fr,R.fk⟩ ha (by first | exact hit | rfl) ?_ hp hpg hpl H
    · dsimp only
      rw [hwas,if_pos P5.1,List.getD_eq_getElem?_getD,List.getElem?_eq_getElem hlt]; rfl
  · have P5 := C.P.top it (by omega)
    rw [P5,aa]
    refine Df C ⟨R.ep,by first | exact R.l4 | rfl,R.c5,R.key,by first | exact R.s8 | rfl,R.root,R.out,R.need,R.fl,R.tl,R.fr,R.fk⟩ ha (by first | exact hit | rfl) ?_ hp hpg hpl H
    · dsimp only
      rw [hwas,if_neg (by rw [P5]; decide)]
      exact R.root
end Go.Pt
namespace Go.Pt
open Go Go.Wc Go.Pu
variable {n:Int} {l:List aq} {cs:List an} {root:gL} {key:Vector Int 32} {e:Int}
theorem EO (C:PC n l cs root key e) {it:Int}:(refsOf (fnd l it)).length≤20:=by
  cases h:fnd l it with
  | none=>exact Nat.zero_le _
  | some x=>exact C.rl x (List.mem_of_find?_eq_some h)
theorem Ip (C:PC n l cs root key e) {s:PS} {it:Nat} {S2:ai.V→Prop} {Q:ai.QT} (hit:(it:Int) ∈ pgs cs) (hpl:s.dL.length≤1000)
    (H: ∀ m',RI n l cs root key e (hid (hOf n) l root key e s it (pageL cs it)) m'→m'.dw=((it+1:Nat):Int)→S2 m'):
    ∀ (j i:Nat) (m:ai.V),i+j=cs.length→RI n l cs root key e s m→m.dw=(it:Int)→m.i19=(i:Int)→m.jv=(cs.take i).foldl (pgF it) []→ai.L3 S2 Q m:=by
  have hcl:=C.cl
  intro j
  induction j with
  | zero =>
    intro i m hi R e1 e2 e3
    obtain rfl:i=cs.length:=by omega
    refine ai.ff _ ?_
    unfold ai.B3
    rw [e2,R.c5,dge (by omega),aa]
    rw [List.take_of_length_le (Nat.le_refl _)] at e3
    obtain ⟨x,hx,hxe⟩:=List.mem_map.1 hit
    have hpg:(pageL cs it).length=256:=by
      unfold pageL
      rw [← hxe,rL cs [] C.chk.1 x hx]
      exact (C.chk.2 x hx).2.2
    refine Dg C ⟨R.ep,R.l4,by first | exact R.c5 | rfl,R.key,R.s8,R.root,R.out,R.need,R.fl,R.tl,R.fr,R.fk⟩ (.inl hit) (by first | exact e1 | rfl) e3 hpg hpl H
  | succ j ih =>
    intro i m hi R e1 e2 e3
    have hii:i<cs.length:=by omega
    refine ai.ff _ ?_
    unfold ai.B3
    rw [e2,R.c5,dlt hii,ak,e1]
    refine cK hii ?_
    have hsn:(cs.take (i+1)).foldl (pgF (it:Int)) []=pgF it ((cs.take i).foldl (pgF it) []) cs[i]:=by rw [dJ hii,List.foldl_append]; rfl
    by_cases h:cs[i].dx=(it:Int)
    · rw [show (cs[i].dx == (it : Int)) = true by rw [beq_iff_eq]; exact h, ak]
      refine cK hii ?_
      unfold ai.K4
      dsimp only
      rw [cW (by omega)]
      refine ih (i+1) _ (by omega) ⟨R.ep,R.l4,by first | exact R.c5 | rfl,R.key,R.s8,R.root,R.out,R.need,R.fl,R.tl,R.fr,R.fk⟩ (by first | exact e1 | rfl) rfl ?_
      rw [hsn]
      unfold pgF; rw [if_pos h]
    · rw [show (cs[i].dx == (it : Int)) = false by rw [beq_eq_false_iff_ne]; exact h, aa]
      unfold ai.K4
      rw [e2,cW (by omega)]
      refine ih (i+1) _ (by omega) ⟨R.ep,R.l4,by first | exact R.c5 | rfl,R.key,R.s8,R.root,R.out,R.need,R.fl,R.tl,R.fr,R.fk⟩ (by first | exact e1 | rfl) rfl ?_
      rw [hsn]
      unfold pgF; rw [if_neg h]
      exact e3
theorem Iq (C:PC n l cs root key e) {s:PS} {it:Nat} {S2:ai.V→Prop} {Q:ai.QT} (hit:(it:Int) ∈ needS (hOf n) (pgs cs)) (hpl:s.dL.length≤1000) (hnl:s.nodes.length≤1000)
    (H: ∀ m',RI n l cs root key e (stpN (hOf n) l root key e s it) m'→m'.dw=((it+1:Nat):Int)→S2 m'):
    ∀ (j k:Nat) (m:ai.V),k+j=(kidsR (hOf n) it).length→RI n l cs root key e s m→m.dw=(it:Int)→m.mB=kidsR (hOf n) it→m.CU=(k:Int)→m.jV=(refsW (hOf n) l s.fr it).take k++(refsOf (fnd l it)).drop k→ai.L5 S2 Q m:=by
  have hkl:=C.klen hit
  have hrw:=C.rwlen hit s.fr
  have hro:=(C.need hit).2.1
  intro j
  induction j with
  | zero =>
    intro k m hk R e1 e2 e3 e4
    obtain rfl:k=(kidsR (hOf n) it).length:=by omega
    rw [List.take_of_length_le (by omega),List.drop_of_length_le (by omega),List.append_nil] at e4
    refine ai.nV _ ?_
    unfold ai.B5
    rw [e3,e2,dge (by omega),aa,e4,e1,R.out]
    refine ⟨ct (by show (s.nodes.map toNR).length+1≤_; rw [List.length_map]; omega), ?_⟩
    refine BM (by rw [hrw]; exact hkl) (C.Nd hit R.fk) ?_
    refine Dg C (s:= {s with nodes:=s.nodes++[((it:Int),refsW (hOf n) l s.fr it)]}) ⟨R.ep,R.l4,R.c5,R.key,R.s8,R.root, ?_,R.need,R.fl,R.tl,R.fr,R.fk⟩ (.inr hit) (by first | exact e1 | rfl) rfl (qv (by rw [hrw]; exact hkl.2)) hpl H
    show (⟨(tot s).fL,(tot s).fC++[⟨(it:Int),refsW (hOf n) l s.fr it⟩],(tot s).cH,(tot s).nZ⟩:bS)=⟨s.dL.map toPR,(s.nodes++[((it:Int),refsW (hOf n) l s.fr it)]).map toNR,s.root,0⟩
    rw [List.map_append]; rfl
  | succ j ih =>
    intro k m hk R e1 e2 e3 e4
    have hkk:k<(kidsR (hOf n) it).length:=by omega
    have hkid:=C.kidp hit hkk
    have hfo:k<(refsOf (fnd l (it:Int))).length:=by rw [hro]; exact hkk
    have hfw:k<(refsW (hOf n) l s.fr it).length:=by rw [hrw]; exact hkk
    obtain ⟨kd,hkd⟩: ∃ kd:Nat,(kidsR (hOf n) it)[k]=(kd:Int):=⟨_,(Int.toNat_of_nonneg hkid.2.1).symm⟩
    have hkdl:kd<(hOf n).Level.length:=by have:=hkid.2.2; rw [hkd] at this; omega
    obtain ⟨hf,htn⟩:=R.fr kd hkdl
    obtain ⟨hfi,hfe⟩:=List.getElem?_eq_some_iff.1 hf
    obtain ⟨hti,hte⟩:=List.getElem?_eq_some_iff.1 htn
    have htk:((refsW (hOf n) l s.fr it).take k).length=k:=by rw [List.length_take]; omega
    have hdr:(refsOf (fnd l (it:Int))).drop k=(refsOf (fnd l (it:Int)))[k]::(refsOf (fnd l (it:Int))).drop (k+1):=List.drop_eq_getElem_cons hfo
    have hval:(refsW (hOf n) l s.fr it)[k]=(s.fr kd).getD ((refsOf (fnd l (it:Int)))[k]):=by rw [jE hfw hfo hkk,hkd]
    refine ai.nV _ ?_
    unfold ai.B5
    rw [e3,e2,dlt hkk,ak]
    refine cK hkk ?_
    rw [hkd]
    refine gB kd rfl hti ?_
    rw [hte]
    have k6: ∀ m':ai.V,RI n l cs root key e s m'→m'.dw=(it:Int)→m'.mB=kidsR (hOf n) it→m'.CU=(k:Int)→m'.jV=(refsW (hOf n) l s.fr it).take (k+1)++(refsOf (fnd l it)).drop (k+1)→ai.K6 S2 (ai.L5 S2 Q) Q m':=by
      intro m' R' a1 a2 a3 a4
      unfold ai.K6
      rw [a3,cW (by omega)]
      exact ih (k+1) _ (by omega) ⟨R'.ep,R'.l4,R'.c5,R'.key,R'.s8,R'.root,R'.out,R'.need,R'.fl,R'.tl,R'.fr,R'.fk⟩ a1 a2 rfl a4
    cases hfr:s.fr kd with
    | none =>
      rw [hfr] at hval
      rw [show (none:Option gL).isSome=false from rfl,aa]
      refine k6 _ ⟨R.ep,R.l4,R.c5,R.key,R.s8,R.root,R.out,R.need,R.fl,R.tl,R.fr,R.fk⟩ e1 (by first | exact e2 | rfl) (by first | exact e3 | rfl) ?_
      show m.jV=_
      rw [e4,hdr,dJ hfw,List.append_assoc,hval]; rfl
    | some r =>
      rw [hfr] at hval hfe
      rw [show (some r).isSome=true from rfl,ak]
      refine cK hkk ?_
      rw [hkd]
      refine gB kd rfl hfi ?_
      rw [hfe,e4]
      refine gB k rfl (by rw [List.length_append,htk,List.length_drop]; omega) ?_
      refine k6 _ ⟨R.ep,R.l4,R.c5,R.key,R.s8,R.root,R.out,R.need,R.fl,R.tl,R.fr,R.fk⟩ e1 (by first | exact e2 | rfl) (by first | exact e3 | rfl) ?_
      dsimp only
      rw [Int.toNat_natCast,List.set_append_right _ _ (by omega),htk,Nat.sub_self,hdr,List.set_cons_zero,dJ hfw,List.append_assoc,hval]; rfl
theorem NU (C : PC n l cs root key e) {Q : ai.QT} (H : Q (tot (planC (hOf n) l root key e cs))) : ai key e (hOf n) root l cs Q := by
  have hll:l.length≤100000:=by have:=C.ll; omega
  have hrl: ∀ x ∈ l,x.Refs.length≤100000:=fun x hx=>by have:=C.rl x hx; omega
  have hcl:=C.cl
  have hsm:=C.P.N.wh.small
  have hnl:=lI (hOf n) (pgs cs)
  have hil:(items n).length=(hOf n).Level.length:=by unfold items; simp
  have hig: ∀ i (h:i<(items n).length),(items n)[i]=(i:Int):=by
    intro i h
    have h2:(items n)[i]? =some (i:Int):=by
      unfold items
      rw [List.getElem?_map,List.getElem?_eq_getElem (by rw [List.length_range]; omega),List.getElem_range]; rfl
    rw [List.getElem?_eq_getElem h] at h2
    exact Option.some.inj h2
  rw [← LO C] at H
  have l2 : ∀ (j i : Nat) (m : ai.V) (s : PS), i + j = (hOf n).Level.length → s = ((items n).take i).foldl (stp n l cs root key e) (s0 root) → RI n l cs root key e s m → m.dw = (i : Int) → s.dL.length ≤ i → s.nodes.length ≤ i → ai.L2 Q m := by
    intro j
    induction j with
    | zero =>
      intro i m s hi hs R e1 hpl hnn
      obtain rfl:i=(hOf n).Level.length:=by omega
      refine ai.cM ?_
      unfold ai.B2
      rw [e1,R.s8,dge (by omega),aa,R.out,hs,List.take_of_length_le (by omega)]
      exact H
    | succ j ih =>
      intro i m s hi hs R e1 hpl hnn
      have hii:i<(items n).length:=by omega
      have hsn:((items n).take (i+1)).foldl (stp n l cs root key e) (s0 root)=stp n l cs root key e s (i:Int):=by rw [dJ hii,List.foldl_append,← hs,hig i hii]; rfl
      refine ai.cM ?_
      unfold ai.B2
      rw [e1,R.s8,dlt (by omega),ak,R.c5]
      refine oq (by omega) ?_
      refine pP (by rw [List.length_map]; omega) ?_
      by_cases hpg:(i:Int) ∈ pgs cs
      · rw [show decide ((i : Int) ∈ cs.map (·.dx)) = true from decide_eq_true hpg, ak]
        refine Ip C hpg (by omega) ?_ cs.length 0 _ (by omega) ⟨R.ep,R.l4,by first | exact R.c5 | rfl,R.key,by first | exact R.s8 | rfl,R.root,R.out,R.need,R.fl,R.tl,R.fr,R.fk⟩ (by first | exact e1 | rfl) rfl rfl
        intro m' R' e1'
        have hst:stp n l cs root key e s (i:Int)=hid (hOf n) l root key e s i (pageL cs i):=by unfold stp; rw [if_pos hpg]
        refine ih (i+1) m' _ (by omega) rfl (by rw [hsn,hst]; exact R') e1' ?_ ?_
        · rw [hsn,hst,mN]; omega
        · rw [hsn,hst]; show s.nodes.length≤_; omega
      · rw [show decide ((i : Int) ∈ cs.map (·.dx)) = false from decide_eq_false hpg, aa, R.need]
        refine pP (by omega) ?_
        by_cases hnd:(i:Int) ∈ needS (hOf n) (pgs cs)
        · rw [decide_eq_true hnd, ak, R.l4]
          refine pN hll ⟨ct ?_, ?_⟩
          · have:=EO C (it:=(i:Int)); simp only [List.length_nil]; omega
          refine pO C.P.N.wh ?_
          refine Iq C hnd (by omega) (by omega) ?_ (kidsR (hOf n) i).length 0 _ (by omega) ⟨R.ep,by first | exact R.l4 | rfl,by first | exact R.c5 | rfl,R.key,by first | exact R.s8 | rfl,R.root,R.out,by first | exact R.need | rfl,R.fl,R.tl,R.fr,R.fk⟩ (by first | exact e1 | rfl) rfl rfl rfl
          intro m' R' e1'
          have hst:stp n l cs root key e s (i:Int)=stpN (hOf n) l root key e s i:=by unfold stp; rw [if_neg hpg,if_pos hnd]
          refine ih (i+1) m' _ (by omega) rfl (by rw [hsn,hst]; exact R') e1' ?_ ?_
          · rw [hsn,hst]; unfold stpN; rw [mN]; show s.dL.length+1≤_; omega
          · rw [hsn,hst]; show (s.nodes++[_]).length≤_; rw [List.length_append]; simp only [List.length_cons,List.length_nil]; omega
        · rw [decide_eq_false hnd, aa]
          unfold ai.K9
          rw [e1,cW (by omega)]
          have hst:stp n l cs root key e s (i:Int)=s:=by unfold stp; rw [if_neg hpg,if_neg hnd]
          refine ih (i+1) _ _ (by omega) rfl (by rw [hsn,hst]; exact ⟨R.ep,by first | exact R.l4 | rfl,by first | exact R.c5 | rfl,R.key,by first | exact R.s8 | rfl,R.root,R.out,by first | exact R.need | rfl,R.fl,R.tl,R.fr,R.fk⟩) rfl ?_ ?_
          · rw [hsn,hst]; omega
          · rw [hsn,hst]; omega
  unfold ai
  refine wH C.P.N hll hrl (by omega) ?_
  rw [C.may,show (!true)=false from rfl,aa]
  refine pK ?_
  have hrg:rgt root.Place=true:=by rcases C.Il with h | h <;> rw [h] <;> rfl
  rw [hrg]
  unfold ai.K1; dsimp only
  rw [show (!true)=false from rfl,aa]
  refine oq (by omega) ?_
  refine uL C.P.N (by rw [List.length_map]; omega) ?_
  refine Nf ⟨by omega,by omega⟩ (Nf ⟨by omega,by omega⟩ ?_)
  refine l2 (hOf n).Level.length 0 _ (s0 root) (by omega) rfl ⟨rfl,rfl,rfl,rfl,rfl,rfl,rfl,rfl, ?_, ?_, ?_, ?_⟩ rfl (Nat.zero_le _) (Nat.zero_le _)
  · dsimp only; rw [List.length_replicate,Int.toNat_natCast]
  · dsimp only; rw [List.length_replicate,Int.toNat_natCast]
  · intro i hi
    dsimp only
    rw [Int.toNat_natCast,List.getElem?_replicate,List.getElem?_replicate,if_pos hi,if_pos hi]
    exact ⟨rfl,rfl⟩
  · intro it r h; cases h
end Go.Pt
namespace Go.Pt
open Go Go.Wc Go.Pu Go.Laws
theorem FG {l : List aq} {cs : List an} {Q : bq.QT}
    (Ht:Q true) (Hf:l.length≤60→cs.length≤20→(∀ x ∈ l,x.Refs.length≤20)→(∀ x ∈ cs,x.Bytes.length≤600)→Q false):bq l cs Q:=by
  unfold bq
  by_cases h1:(l.length:Int)>60
  · rw [decide_eq_true h1, ak]
    unfold bq.K1; dsimp only
    exact Ht
  rw [decide_eq_false h1,aa]
  unfold bq.K1; dsimp only
  by_cases h2:(cs.length:Int)>20
  · rw [decide_eq_true h2,ak]; exact Ht
  rw [decide_eq_false h2,aa]
  have l3:(∀ x ∈ l,x.Refs.length≤20)→ ∀ j (i:Nat) (m:bq.V),i+j=cs.length→m.v28=cs→m.KV=(cs.length:Int)→m.v30=(i:Int)→(∀ x ∈ cs.take i,x.Bytes.length≤600)→bq.L3 Q m:=by
    intro hr j
    induction j with
    | zero =>
      rintro i ⟨l0,c1,ej,kD,jO,fF,v28,KV,v30⟩ e e1 e2 e3 h
      dsimp only at e1 e2 e3
      subst e1 e2 e3
      refine bq.ff ?_
      unfold bq.B3; dsimp only
      rw [dge (by omega),aa]
      rw [List.take_of_length_le (by omega)] at h
      exact Hf (by omega) (by omega) hr h
    | succ j ih =>
      rintro i ⟨l0,c1,ej,kD,jO,fF,v28,KV,v30⟩ e e1 e2 e3 h
      dsimp only at e1 e2 e3
      subst e1 e2 e3
      have hi:i<v28.length:=by omega
      refine bq.ff ?_
      unfold bq.B3; dsimp only
      rw [dlt hi,ak]
      refine cK hi ?_
      by_cases h3:(v28[i].Bytes.length:Int)>600
      · rw [decide_eq_true h3]; exact Ht
      · rw [decide_eq_false h3, aa, cW (by omega)]
        refine ih (i+1) _ (by omega) rfl rfl rfl ?_
        intro x hx
        rw [dJ hi] at hx
        rcases List.mem_append.1 hx with hx | hx
        · exact h x hx
        · rw [List.mem_singleton.1 hx]; omega
  have l2: ∀ j (i:Nat) (m:bq.V),i+j=l.length→m.kD=l→m.jO=(l.length:Int)→m.fF=(i:Int)→m.c1=cs→(∀ x ∈ l.take i,x.Refs.length≤20)→bq.L2 Q m:=by
    intro j
    induction j with
    | zero =>
      rintro i ⟨l0,c1,ej,kD,jO,fF,v28,KV,v30⟩ e e1 e2 e3 e4 h
      dsimp only at e1 e2 e3 e4
      subst e1 e2 e3 e4
      refine bq.cM ?_
      unfold bq.B2; dsimp only
      rw [dge (by omega),aa]
      rw [List.take_of_length_le (by omega)] at h
      exact l3 h c1.length 0 _ (by omega) rfl rfl rfl (by simp)
    | succ j ih =>
      rintro i ⟨l0,c1,ej,kD,jO,fF,v28,KV,v30⟩ e e1 e2 e3 e4 h
      dsimp only at e1 e2 e3 e4
      subst e1 e2 e3 e4
      have hi:i<kD.length:=by omega
      refine bq.cM ?_
      unfold bq.B2; dsimp only
      rw [dlt hi,ak]
      refine cK hi ?_
      by_cases h3:(kD[i].Refs.length:Int)>20
      · rw [decide_eq_true h3]; exact Ht
      · rw [decide_eq_false h3, aa, cW (by omega)]
        refine ih (i+1) _ (by omega) rfl rfl rfl rfl ?_
        intro x hx
        rw [dJ hi] at hx
        rcases List.mem_append.1 hx with hx | hx
        · exact h x hx
        · rw [List.mem_singleton.1 hx]; omega
  exact l2 l.length 0 _ (by omega) rfl rfl rfl rfl (by simp)
theorem NT {a:List Int} {Q:bZ.QT} (ha:a.length≤100000) (H:Q true):bZ a a Q:=by
  unfold bZ
  rw [show ((a.length:Int) !=(a.length:Int))=false by simp,aa]
  have:=mA (B:=fun S=>bZ.B1 S Q) a.length (fun i=>({bZ.v0 with a0:=a,b1:=a,i5:=(i:Int)}:bZ.V)) ?_ ?_
  · exact this
  · intro i S hi hS
    unfold bZ.B1; dsimp only
    rw [dlt hi,ak]
    refine cK hi (cK hi ?_)
    rw [show (a[i] !=a[i])=false by simp,aa,cW (by omega)]
    exact hS
  · intro S
    unfold bZ.B1; dsimp only
    rw [dge (by omega),aa]
    exact H
def pc (x:cN):cv:=⟨x.Block,x.Bytes⟩
theorem Eg {T:bS} {Q:bP.QT} (hl:T.fL.length≤100000) (hb: ∀ x ∈ T.fL,x.Bytes.length≤100000) (H:Q true):bP (T.fL.map pc) T Q:=by
  unfold bP
  rw [show (((T.fL.map pc).length:Int) !=(T.fL.length:Int))=false by simp,aa]
  have key: ∀ (j i:Nat) (m:bP.V),i+j=T.fL.length→m.a0=T.fL.map pc→m.b3=T→m.gF=(T.fL.length:Int)→m.kO=(i:Int)→bP.L1 Q m:=by
    intro j
    induction j with
    | zero =>
      intro i m hi e1 e2 e3 e4
      refine bP.bY ?_
      unfold bP.B1
      rw [e3,e4,dge (by omega),aa]
      exact H
    | succ j ih =>
      intro i m hi e1 e2 e3 e4
      have hii:i<T.fL.length:=by omega
      have hia:i<(T.fL.map pc).length:=by rw [List.length_map]; exact hii
      refine bP.bY ?_
      unfold bP.B1
      rw [e1,e2,e3,e4,dlt hii,ak]
      refine cK hia (cK hii ?_)
      rw [List.getElem_map]
      rw [show ((pc T.fL[i]).Block !=T.fL[i].Block)=false by simp [pc],aa]
      refine cK hia (cK hii ?_)
      rw [List.getElem_map]
      refine NT (hb _ (List.getElem_mem hii)) ?_
      unfold bP.K2
      dsimp only
      rw [show (!true)=false from rfl,aa,cW (by omega)]
      exact ih (i+1) _ (by omega) (by first | exact e1 | rfl) (by first | exact e2 | rfl) (by first | exact e3 | rfl) rfl
  exact key T.fL.length 0 _ (by omega) rfl rfl (by dsimp only; rw [List.length_map]) rfl
theorem FH {A : List aq} {Q : bn.QT} (hl : A.length ≤ 100000) (hr : ∀ x ∈ A, x.Refs.length ≤ 100000) (H : Q true) : bn (A.map tn) A Q := by
  unfold bn
  rw [show (((A.map tn).length:Int) !=(A.length:Int))=false by simp,aa]
  have key: ∀ (j i:Nat) (m:bn.V),i+j=A.length→m.a0=A.map tn→m.b1=A→m.kO=(A.length:Int)→m.nw=(i:Int)→bn.L1 Q m:=by
    intro j
    induction j with
    | zero =>
      intro i m hi e1 e2 e3 e4
      refine bn.bY ?_
      unfold bn.B1
      rw [e3,e4,dge (by omega),aa]
      exact H
    | succ j ih =>
      intro i m hi e1 e2 e3 e4
      have hii:i<A.length:=by omega
      have hia:i<(A.map tn).length:=by rw [List.length_map]; exact hii
      have hrl:=hr _ (List.getElem_mem hii)
      refine bn.bY ?_
      unfold bn.B1
      rw [e1,e2,e3,e4,dlt hii,ak]
      refine cK hia (cK hii ?_)
      rw [List.getElem_map]
      rw [show ((tn A[i]).Item !=A[i].Item)=false by simp [tn],aa]
      refine cK hia (cK hii ?_)
      rw [List.getElem_map]
      unfold bn.K2
      dsimp only
      rw [show (((tn A[i]).Refs.length:Int) !=(A[i].Refs.length:Int))=false by simp [tn],aa]
      refine cK hia ?_
      rw [List.getElem_map]
      have l3: ∀ (j' k:Nat) (m':bn.V),k+j'=A[i].Refs.length→m'.a0=A.map tn→m'.b1=A→m'.kO=(A.length:Int)→m'.nw=(i:Int)→m'.i5=(i:Int)→m'.RX=A[i].Refs.map sr→m'.v49=(A[i].Refs.length:Int)→m'.uu=(k:Int)→bn.L3 (bn.L1 Q) Q m':=by
        intro j'
        induction j' with
        | zero =>
          intro k m' hk a1 a2 a3 a4 a5 a6 a7 a8
          refine bn.ff _ ?_
          unfold bn.B3
          rw [a7,a8,a4,dge (by omega),aa,cW (by omega)]
          exact ih (i+1) _ (by omega) a1 a2 a3 rfl
        | succ j' wF =>
          intro k m' hk a1 a2 a3 a4 a5 a6 a7 a8
          have hkk:k<A[i].Refs.length:=by omega
          refine bn.ff _ ?_
          unfold bn.B3
          rw [a7,a8,a6,a2,a5,dlt hkk,ak]
          refine cK (by rw [List.length_map]; exact hkk) (cK hii (cK hkk ?_))
          rw [List.getElem_map]
          rw [show (!(((sr A[i].Refs[k]).Place==A[i].Refs[k].Place) && (((sr A[i].Refs[k]).bO==A[i].Refs[k].bO) && (((sr A[i].Refs[k]).bD.toList==A[i].Refs[k].bD.toList) && true))))=false by simp [sr],aa,cW (by omega)]
          exact wF (k+1) _ (by omega) a1 (by first | exact a2 | rfl) a3 a4 (by first | exact a5 | rfl) (by first | exact a6 | rfl) (by first | exact a7 | rfl) rfl
      refine l3 A[i].Refs.length 0 _ (by omega) (by first | exact e1 | rfl) (by first | exact e2 | rfl) (by first | exact e3 | rfl) (by first | exact e4 | rfl) rfl rfl ?_ rfl
      dsimp only
      show (((A[i].Refs.map sr).length:Nat):Int)=_
      rw [List.length_map]
  exact key A.length 0 _ (by omega) rfl rfl (by dsimp only; rw [List.length_map]) rfl
variable {n:Int} {l:List aq} {cs:List an} {root:gL} {key:Vector Int 32} {e:Int}
def PB (k:Nat) (s:PS):Prop:=s.dL.length≤k∧s.nodes.length≤k∧(∀ x ∈ s.dL,x.2.length≤256)∧ ∀ x ∈ s.nodes,x.2.length≤6
theorem PB.hid {k:Nat} {s:PS} {it:Int} {pg:List Int} {h:HS} (B:PB k s) (hp:pg.length=256):PB (k+1) (Pt.hid h l root key e s it pg):=by
  refine ⟨by rw [mN]; have:=B.1; omega,Nat.le_succ_of_le B.2.1, ?_,B.2.2.2⟩
  intro x hx
  rcases List.mem_append.1 (show x ∈ s.dL++[_] from hx) with h1 | h1
  · exact B.2.2.1 x h1
  · rw [List.mem_singleton.1 h1]; show (hidB _ _ _ _).length≤_; rw [qu]; omega
theorem KW (C : PC n l cs root key e) : PB 1000 (planC (hOf n) l root key e cs) := by
  have f1: ∀ (L:List an) (k:Nat) (s:PS),(∀ c ∈ L,c.Bytes.length=256)→PB k s→PB (k+L.length) (L.foldl (hidC (hOf n) l root key e) s):=by
    intro L
    induction L with
    | nil=>intro k s _ B; exact B
    | cons c L ih =>
      intro k s h B
      rw [List.foldl_cons,List.length_cons,show k+(L.length+1)=(k+1)+L.length by omega]
      exact ih (k+1) _ (fun x hx=>h x (by simp [hx])) (B.hid (h c (by simp)))
  have f2: ∀ (L:List Int) (k:Nat) (s:PS),(∀ it ∈ L,it ∈ needS (hOf n) (pgs cs))→PB k s→PB (k+L.length) (L.foldl (stpN (hOf n) l root key e) s):=by
    intro L
    induction L with
    | nil=>intro k s _ B; exact B
    | cons it L ih =>
      intro k s h B
      have hit:=h it (by simp)
      have hrw:=C.rwlen hit s.fr
      have hkl:=C.klen hit
      rw [List.foldl_cons,List.length_cons,show k+(L.length+1)=(k+1)+L.length by omega]
      refine ih (k+1) _ (fun x hx=>h x (by simp [hx])) ?_
      have hp:(layS (refsW (hOf n) l s.fr it)).length=256:=qv (by omega)
      refine ⟨?_, ?_, ?_, ?_⟩
      · unfold stpN; rw [mN]; have:=B.1; show s.dL.length+1≤_; omega
      · show (s.nodes++[_]).length≤_; rw [List.length_append]; have:=B.2.1; simp only [List.length_cons,List.length_nil]; omega
      · intro x hx
        rcases List.mem_append.1 (show x ∈ s.dL++[_] from hx) with h1 | h1
        · exact B.2.2.1 x h1
        · rw [List.mem_singleton.1 h1]; show (hidB _ _ _ _).length≤_; rw [qu]; omega
      · intro x hx
        rcases List.mem_append.1 (show x ∈ s.nodes++[_] from hx) with h1 | h1
        · exact B.2.2.2 x h1
        · rw [List.mem_singleton.1 h1]; show (refsW _ _ _ _).length≤_; omega
  have h0:PB 0 (s0 root):=⟨Nat.le_refl _,Nat.le_refl _,(fun _ h=>by cases h),(fun _ h=>by cases h)⟩
  have h1:=f1 cs 0 _ (fun c hc=>(C.chk.2 c hc).2.2) h0
  have h2:=f2 (needS (hOf n) (pgs cs)) _ _ (fun _ h=>h) h1
  have hcl:=C.cl
  have hsm:=C.P.N.wh.small
  have hnl:=lI (hOf n) (pgs cs)
  refine ⟨Nat.le_trans h2.1 (by omega),Nat.le_trans h2.2.1 (by omega),h2.2.2⟩
theorem Eh (P : POk n) (hk : bytesL key.toList) (he : lM e) (heps : ∀ x ∈ l, ∀ r ∈ x.Refs, lM r.bO) (hl : l.length ≤ 60) (hr : ∀ x ∈ l, x.Refs.length ≤ 20) (hc : cs.length ≤ 20) :
    ∃ T : bS, (∀ (σ : St Obj) (Q : aE.QT), (∀ σ', Q (T.fL.map pc) (T.fC.map tn) (sr T.cH) T.nZ σ') → aE none key e ⟨newB n⟩ (sr root) (l.map tn) (cs.map tc) σ Q) ∧
      (∀ Q:ai.QT,Q T→ai key e (hOf n) root l cs Q)∧T.fL.length≤1000∧T.fC.length≤1000∧(∀ x ∈ T.fC,x.Refs.length≤1000)∧ ∀ x ∈ T.fL,x.Bytes.length≤1000:=by
  have hll:l.length≤100000:=by omega
  have hrl: ∀ x ∈ l,x.Refs.length≤100000:=fun x hx=>by have:=hr x hx; omega
  have bad:(mayS n (hOf n) l cs=false∨rgt root.Place=false)→_:=fun hb=>(⟨⟨[],[],zR,1⟩,by
      intro σ Q H
      unfold aE
      refine ue P.N hll hrl (by omega) ?_
      cases hm:mayS n (hOf n) l cs with
      | false =>
        rw [show (!false)=true from rfl,ak]
        unfold aE.K1; dsimp only
        rw [ak]
        exact H _
      | true =>
        rw [show (!true)=false from rfl,aa]
        refine k9 ?_
        have:rgt (sr root).Place=false:=by
          rcases hb with h | h
          · rw [hm] at h; cases h
          · exact h
        rw [this]
        unfold aE.K1; dsimp only
        rw [show (!false)=true from rfl,ak]
        exact H _,by
      intro Q H
      unfold ai
      refine wH P.N hll hrl (by omega) ?_
      cases hm:mayS n (hOf n) l cs with
      | false =>
        rw [show (!false)=true from rfl,ak]
        unfold ai.K1; dsimp only
        rw [ak]
        exact H
      | true =>
        rw [show (!true)=false from rfl,aa]
        refine pK ?_
        have:rgt root.Place=false:=by
          rcases hb with h | h
          · rw [hm] at h; cases h
          · exact h
        rw [this]
        unfold ai.K1; dsimp only
        rw [show (!false)=true from rfl,ak]
        exact H,Nat.zero_le _,Nat.zero_le _,(fun _ h=>by cases h),(fun _ h=>by cases h)⟩: ∃ T:bS,(∀ (σ:St Obj) (Q:aE.QT),(∀ σ',Q (T.fL.map pc) (T.fC.map tn) (sr T.cH) T.nZ σ')→aE none key e ⟨newB n⟩ (sr root) (l.map tn) (cs.map tc) σ Q)∧
      (∀ Q:ai.QT,Q T→ai key e (hOf n) root l cs Q)∧T.fL.length≤1000∧T.fC.length≤1000∧(∀ x ∈ T.fC,x.Refs.length≤1000)∧ ∀ x ∈ T.fL,x.Bytes.length≤1000)
  cases hm:mayS n (hOf n) l cs with
  | false=>exact bad (.inl hm)
  | true =>
    cases hg:rgt root.Place with
    | false=>exact bad (.inr hg)
    | true =>
      have C:PC n l cs root key e:=⟨P,hm,FI hg,hk,he,heps,hl,hr,hc⟩
      have B:=KW C
      refine ⟨tot (planC (hOf n) l root key e cs), ?_,fun Q H=>NU C H, ?_, ?_, ?_, ?_⟩
      · intro σ Q H
        refine NV C fun σ'=> ?_
        have:=H σ'
        unfold tot at this
        dsimp only at this
        rw [List.map_map,List.map_map] at this
        exact this
      · show (List.map _ _).length≤_; rw [List.length_map]; exact B.1
      · show (List.map _ _).length≤_; rw [List.length_map]; exact B.2.1
      · intro x hx
        obtain ⟨y,hy,rfl⟩:=List.mem_map.1 (show x ∈ List.map toNR _ from hx)
        have:=B.2.2.2 y hy
        show y.2.length≤_; omega
      · intro x hx
        obtain ⟨y,hy,rfl⟩:=List.mem_map.1 (show x ∈ List.map toPR _ from hx)
        have:=B.2.2.1 y hy
        show y.2.length≤_; omega
theorem wf_u32 {x:Int} (h:(Lit.int .u32 x).wf=true):lM x:=by
  have h1:IntKind.min .u32≤x∧x≤IntKind.max .u32:=by simpa [Lit.wf] using h
  have h2:IntKind.min .u32=0∧IntKind.max .u32=4294967295:=by decide
  unfold lM; omega
theorem wf_u8 {x:Int} (h:(Lit.int .u8 x).wf=true):0≤x∧x<256:=by
  have h1:IntKind.min .u8≤x∧x≤IntKind.max .u8:=by simpa [Lit.wf] using h
  have h2:IntKind.min .u8=0∧IntKind.max .u8=255:=by decide
  omega
theorem Ym (a:dr) (P:POk n) (hk:bytesL a.Key.toList) (he:lM a.bO) (heps: ∀ x ∈ l,∀ r ∈ x.Refs,lM r.bO) (hl:l.length≤60) (hr: ∀ x ∈ l,x.Refs.length≤20) (hc:cs.length≤20) {Q:aj.QT} (H: ∀ σ',Q true σ'):
    ∀ (j i:Nat) (m:aj.V) (σ:St Obj),i+j=2→m.l1=l→m.a3=a→m.s8=⟨newB n⟩→m.tv=hOf n→m.v49=[cs,cs.map fullS]→m.uu=2→m.v51=(i:Int)→aj.L2 Q m σ:=by
  have hll:l.length≤100000:=by omega
  have hrl: ∀ x ∈ l,x.Refs.length≤100000:=fun x hx=>by have:=hr x hx; omega
  intro j
  induction j with
  | zero =>
    intro i m σ hi e1 e2 e3 e4 e5 e6 e7
    refine aj.cM ?_
    unfold aj.B2
    rw [e6,e7,decide_eq_false (by omega),aa]
    exact uf H
  | succ j ih =>
    intro i m σ hi e1 e2 e3 e4 e5 e6 e7
    have hil:i<([cs,cs.map fullS]).length:=by show i<2; omega
    obtain ⟨x,hx⟩: ∃ x,x=([cs,cs.map fullS])[i]:=⟨_,rfl⟩
    have hxl:x.length≤20:=by
      have:i=0∨i=1:=by omega
      rcases this with h | h
      · subst h; rw [hx]; exact hc
      · subst h; rw [hx]; show (cs.map fullS).length≤20; rw [List.length_map]; exact hc
    obtain ⟨T,hcode,href,b1,b2,b3,b4⟩:=Eh (cs:=x) (root:=a.cH) P hk he heps hl hr hxl
    have nxt: ∀ (m':aj.V) (σ:St Obj),m'.l1=l→m'.a3=a→m'.s8=⟨newB n⟩→m'.tv=hOf n→m'.v49=[cs,cs.map fullS]→m'.uu=2→m'.v51=(i:Int)→m'.y7=false→aj.K3 (aj.L2 Q) Q m' σ:=by
      intro m' σ a1 a2 a3 a4 a5 a6 a7 a8
      unfold aj.K3
      rw [a8,aa,a7,cW (by omega)]
      exact ih (i+1) _ _ (by omega) a1 a2 a3 a4 a5 a6 rfl
    have k4: ∀ (m':aj.V) (σ:St Obj),m'.l1=l→m'.a3=a→m'.s8=⟨newB n⟩→m'.tv=hOf n→m'.v49=[cs,cs.map fullS]→m'.uu=2→m'.v51=(i:Int)→m'.nP=x→m'.Kf=T.fL.map pc→m'.Kg=T.fC.map tn→m'.Ei=sr T.cH→m'.f17=T.nZ→aj.K4 (aj.L2 Q) Q m' σ:=by
      intro m' σ a1 a2 a3 a4 a5 a6 a7 a8 a9 Xr Xs a12
      unfold aj.K4
      rw [a1,a2,a4,a8,a9,Xr,Xs,a12]
      refine href _ ?_
      rw [show (T.nZ !=T.nZ)=false by simp,aa]
      rw [show (!(((sr T.cH).Place==T.cH.Place) && (((sr T.cH).bO==T.cH.bO) && (((sr T.cH).bD.toList==T.cH.bD.toList) && true))))=false by simp [sr],aa]
      refine Eg (by omega) (fun x hx=>by have:=b4 x hx; omega) ?_
      rw [show (!true)=false from rfl,aa]
      refine FH (by omega) (fun x hx=>by have:=b3 x hx; omega) ?_
      exact nxt _ _ (by first | exact a1 | rfl) (by first | exact a2 | rfl) a3 (by first | exact a4 | rfl) a5 a6 a7 rfl
    refine aj.cM ?_
    unfold aj.B2
    rw [e6,e7,e5,e1,e2,e3,decide_eq_true (show (i:Int)<2 by omega),ak]
    refine cK hil ?_
    rw [← hx]
    have xK:x.length≤100000:=by omega
    refine ⟨?_, ?_⟩
    · refine sC hll hrl ⟨ny xK ⟨hcode _ _ fun σ' => ?_, hcode _ _ fun σ' => ?_⟩, ny xK (hcode _ _ fun σ' => ?_)⟩
      · exact k4 _ _ (by first | exact e1 | rfl) (by first | exact e2 | rfl) (by first | exact e3 | rfl) e4 (by first | exact e5 | rfl) (by first | exact e6 | rfl) (by first | exact e7 | rfl) rfl rfl rfl rfl rfl
      · exact k4 _ _ (by first | exact e1 | rfl) (by first | exact e2 | rfl) (by first | exact e3 | rfl) e4 (by first | exact e5 | rfl) (by first | exact e6 | rfl) (by first | exact e7 | rfl) rfl rfl rfl rfl rfl
      · exact k4 _ _ (by first | exact e1 | rfl) (by first | exact e2 | rfl) (by first | exact e3 | rfl) e4 (by first | exact e5 | rfl) (by first | exact e6 | rfl) (by first | exact e7 | rfl) rfl rfl rfl rfl rfl
    · refine sC hll hrl (ny xK (hcode _ _ fun σ' => ?_))
      exact k4 _ _ (by first | exact e1 | rfl) (by first | exact e2 | rfl) (by first | exact e3 | rfl) e4 (by first | exact e5 | rfl) (by first | exact e6 | rfl) (by first | exact e7 | rfl) rfl rfl rfl rfl rfl
theorem ld (a:dr) (na:lN a) (l:List aq) (n1:l.length≤maxLen∧ ∀ x ∈ l,kS x) (c:List an) (n2:c.length≤maxLen∧ ∀ x ∈ c,kj x):
    aj a l c RY (fun b _=>b=true):=by
  obtain ⟨w1,w2,w3,w4⟩:=na
  have ha:=wf_u8 w1
  unfold aj
  have e:IntKind.wrap .i64 (Int.tmod (IntKind.wrap .i64 a.me) 14+1)=a.me % 14+1:=by
    rw [wrap64 (n:=a.me) (by omega) (by omega),Int.tmod_eq_emod_of_nonneg (by omega),wrap64 (by omega) (by omega)]
  rw [e]
  have P:POk (a.me % 14+1):=pok (by omega)
  refine nT (by omega) ?_
  refine Ej (by omega) P.N.new ?_
  refine FG ?_ ?_
  · rw [ak]
    unfold aj.K1; dsimp only
    rw [ak,show ((0:Int)==0)=true from rfl,ak]
    exact uf fun _=>rfl
  · intro h1 h2 h3 h4
    rw [aa]
    unfold aj.K1; dsimp only
    rw [show ((0:Int) !=0)=false from rfl,aa]
    refine El (by omega) ?_
    refine Ym (n:=a.me % 14+1) (l:=l) (cs:=c) a P (fun x hx=>wf_u8 (w2 x hx)) (wf_u32 w3) ?_ h1 h3 h2 (fun _=>rfl) 2 0 _ _ (by omega) rfl rfl rfl rfl rfl rfl rfl
    intro x hx r hrr
    exact wf_u32 ((n1.2 x hx).2.2 r hrr).2.1
end Go.Pt
