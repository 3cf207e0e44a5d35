import Derived.Test.YtkgbogibfogjgaaGreatDoorTiA
import Derived.Test.YtkgbogibfogjgaaGreatDoorTiB
import GoSem.ClaimChange
import Derived.ChangeArms
import Derived.DataReads
import Derived.OpenShut
set_option linter.unusedVariables false
set_option linter.unusedSimpArgs false
set_option maxHeartbeats 4000000
set_option maxRecDepth 100000
namespace Go.Laws
open Go Go.Wc Go.Pu
theorem BS {h:Hp} {a:Addr} {v:Value} (H:hcell h a=some v):a.spot=none:=by
 unfold hcell at H;split at H
 ·cases hs:a.spot with
  | none=>rfl
  | some y=>rw [hs] at H; exact absurd H (by simp)
 ·cases H
theorem add_zero (x:Addr):x.add 0=x:=by unfold Addr.add; rw [if_pos rfl]
def Opens {X:Type} (P:Program) (t:TypeId) (E:Rp X) (N:X->Prop):Prop:=
 P.cellsOf t=E.n/\ ∀ {H:Type} {enc:TypeId × Value->H} {w:World} {fuel:Nat} {cs:List Value} {y:DataW H × List MemPlace},
  DataW.trod enc P w 0 (fun _=>true) true fuel t cs=some y-> ∃ x,E.P w.heap [] cs x/\N x
theorem oK {P:Program} {t:TypeId} {k:IntKind} (ht:P.underlying t=some (.int k)) (hc:P.cellsOf t=1):Opens P t (rI k) (fun n=>(Lit.int k n).wf=true):=by refine ⟨hc,fun hd=> ?_⟩;obtain ⟨n,rfl,_,hw⟩:=DataW.trod_int ht hd;exact ⟨n,rfl,hw⟩
theorem Az {X:Type} {P:Program} {e:TypeId} {E:Rp X} {N:X->Prop} (he:Opens P e E N) (hn:E.n ≠ 0) {H:Type} {enc:TypeId × Value->H} {w:World} {a:Addr} {n:Nat} {elems:List (DataW H × List MemPlace)} {len:Nat} (hl:elems.length=len)
  (hel: ∀ i,i<len->(w.cells? 0 (a.add (i*P.cellsOf e)) (P.cellsOf e)).bind (DataW.trod enc P w 0 (fun _=>true) true n e)=elems[i]?):
  ∀ m,m<=len-> ∃ (l:List X) (vs:List Value),l.length=m/\vs.length=m*E.n/\Els E w.heap [] vs l/\(∀ x ∈ l,N x)/\ ∀ i (hi:i<vs.length),hcell w.heap (a.add i)=some vs[i]:=by
 intro m
 induction m with
 | zero=>intro _; exact ⟨[],[],rfl,by simp,rfl,by simp,by simp⟩
 | succ m ih=>
  intro hm;obtain ⟨l,vs,h1,h2,h3,h4,h5⟩:=ih (by omega);have:=hel m (by omega);rw [List.getElem?_eq_getElem (by omega),Option.bind_eq_some_iff] at this;obtain ⟨cs,hcs,hd⟩:=this;obtain ⟨x,hx,hN⟩:=he.2 hd;obtain ⟨_,hcl,hcc⟩:=World.cells?_some hcs;rw [he.1] at hcl hcc;refine ⟨l++[x],vs++cs,by simp [h1],by rw [List.length_append,h2,hcl,Nat.succ_mul],h3.append ⟨cs,[],by simp,hx,rfl⟩, ?_, ?_⟩
  ·intro z hz
   rcases List.mem_append.1 hz with hz | hz
   ·exact h4 z hz
   ·rw [List.mem_singleton] at hz; subst hz; exact hN
  ·intro i hi
   rcases Nat.lt_or_ge i vs.length with hlt | hge
   ·rw [List.getElem_append_left hlt]; exact h5 i hlt
   ·rw [List.getElem_append_right hge]
    rw [List.length_append] at hi;have hj:i - vs.length<E.n:=by omega
    have hw:=hcc (i - vs.length) hj
    have hsp:a.spot=none:=by have h0:=hel 0 (by omega);rw [List.getElem?_eq_getElem (by omega),Option.bind_eq_some_iff] at h0;obtain ⟨c0,WV,_⟩:=h0;obtain ⟨_,Iq,hh0⟩:=World.cells?_some WV;rw [he.1] at Iq hh0;have h00:=hh0 0 (by omega);rw [Nat.zero_mul,add_zero,add_zero] at h00;exact BS (v:=c0[0]'(by omega)) (by rw [<- List.getElem?_eq_getElem]; exact h00)
    obtain ⟨b,o,sp⟩:=a;simp only at hsp; subst hsp;rw [dW,dW] at hw;rw [dW];have e1:o+i=o+m*E.n+(i - vs.length):=by rw [<- h2]; exact (show ∀ a b c:Nat,a<=b->c+b=c+a+(b - a) by intro a b c h; omega) _ _ _ hge
    rw [e1];have hw':hcell w.heap ⟨b,o+m*E.n+(i - vs.length),none⟩=cs[i - vs.length]? :=hw;rw [hw',List.getElem?_eq_getElem (by omega)]
theorem pQ {X:Type} {P:Program} {t e:TypeId} {E:Rp X} {N:X->Prop} (ht:P.underlying t=some (.slice e)) (hc:P.cellsOf t=1) (he:Opens P e E N) (hn:E.n ≠ 0):
  Opens P t (rS E) (fun l=>l.length<=maxLen/\ ∀ x ∈ l,N x):=by
 refine ⟨hc,fun hd=> ?_⟩;rcases DataW.trod_slice ht hd with ⟨rfl,_⟩ | ⟨a,len,cap,elems,rest,n,_,rfl,_,_,hl,hm,hlen,hel,_,_⟩
 ·exact ⟨[],⟨none,0,rfl,qd⟩,by simp,by simp⟩
 ·obtain ⟨l,vs,h1,h2,h3,h4,h5⟩:=Az he hn hlen hel len (Nat.le_refl _)
  subst h1
  have hsp:vs ≠ []->a.spot=none:=fun hne=>by have h0:0<vs.length:=List.length_pos_iff.2 hne;have:=h5 0 h0;rw [add_zero] at this;exact BS this
  refine ⟨l,⟨some a,cap,rfl,vs,⟨h2,hsp,fun i hi=> ?_⟩,hl,fun _ _ _=>by simp,h3⟩,by omega,h4⟩;have hs:=hsp fun e=>by subst e; exact absurd hi (Nat.not_lt_zero _)
  obtain ⟨b,o,sp⟩:=a;simp only at hs; subst hs;have:=h5 i hi;rw [dW] at this;exact this
def fieldsOf (P:Program) (t:TypeId):List (TypeId × Nat):=
 match P.underlying t with
 | some (.struct fs)=>fs.toList.map fun f=>(f.type,f.offset)
 | _=>[]
theorem xY {P:Program} {t:TypeId} {L:List (TypeId × Nat)} (h:fieldsOf P t=L) (hL:L ≠ []) {H:Type} {enc:TypeId × Value->H} {w:World} {fuel:Nat} {cs:List Value} {y:DataW H × List MemPlace}
  (hd:DataW.trod enc P w 0 (fun _=>true) true fuel t cs=some y):
  cs.length=P.cellsOf t/\ ∀ p ∈ L,∃ (fuel:Nat) (y:DataW H × List MemPlace),DataW.trod enc P w 0 (fun _=>true) true fuel p.1 ((cs.drop p.2).take (P.cellsOf p.1))=some y:=by
 subst h;unfold fieldsOf at hL |-
 split at hL
 ·rename_i fs ht
  obtain ⟨xs,n,_,_,hl,hx,hf⟩:=DataW.trod_struct ht hd;refine ⟨hl,fun p hp=> ?_⟩;obtain ⟨f,WW,rfl⟩:=List.mem_map.1 hp;obtain ⟨i,hi⟩:=List.getElem?_of_mem WW;have hi':fs[i]? =some f:=by simpa using hi
  have:=hf i f hi';have hlt:i<xs.length:=by rw [hx]; exact (Array.getElem?_eq_some_iff.1 hi').1
  rw [List.getElem?_eq_getElem hlt] at this;exact ⟨_,_,this⟩
 ·exact absurd rfl hL
theorem xZ {P:Program} {t e:TypeId} {k:IntKind} {n:Nat} (ht:P.underlying t=some (.array n e)) (hc:P.cellsOf t=n) (he:P.underlying e=some (.int k)) (hce:P.cellsOf e=1):
  Opens P t (rV k n) (fun v=> ∀ x ∈ v.toList,(Lit.int k x).wf=true):=by
 refine ⟨hc,fun {_ _ w _ cs _} hd=> ?_⟩;obtain ⟨xs,m,_,_,hl,hx,hf⟩:=DataW.trod_array ht hd;rw [hc] at hl
 have each: ∀ i,i<n-> ∃ z:Int,cs[i]? =some (.int k z)/\(Lit.int k z).wf=true:=by
  intro i hi;have h1:=hf i hi;rw [List.getElem?_eq_getElem (by omega),hce,Nat.mul_one] at h1;obtain ⟨z,hz,_,hw⟩:=DataW.trod_int he h1;refine ⟨z, ?_,hw⟩;have h2:((cs.drop i).take 1)[0]? =some (.int k z):=by rw [hz]; rfl
  simpa [List.getElem?_take,List.getElem?_drop] using h2
 have all: ∀ (cs:List Value),(∀ i,i<cs.length-> ∃ z:Int,cs[i]? =some (.int k z)/\(Lit.int k z).wf=true)-> ∃ l:List Int,cs=l.map (Value.int k)/\ ∀ x ∈ l,(Lit.int k x).wf=true:=by
  intro cs
  induction cs with
  | nil=>intro _; exact ⟨[],rfl,by simp⟩
  | cons c cs ih=>
   intro H;obtain ⟨z,hz,hw⟩:=H 0 (by simp)
   obtain ⟨l,hl,hlw⟩:=ih fun i hi=>by have:=H (i+1) (by simpa using hi);simpa using this
   have:c= .int k z:=by simpa using hz
   subst this hl;exact ⟨z::l,rfl,by simpa using ⟨hw,hlw⟩⟩
 obtain ⟨l,rfl,hw⟩:=all cs fun i hi=>each i (by omega);have hln:l.length=n:=by simpa using hl
 refine ⟨⟨l.toArray,by simpa using hln⟩, ?_,by simpa using hw⟩;show l.map (Value.int k)=lumpV k n _;rw [dZ];rfl
theorem x4 {n m:Nat} {cs:List Value} (h:cs.length=n+m): ∃ u w,cs=u++w/\u.length=n/\w.length=m:=
 ⟨cs.take n,cs.drop n,by simp,by rw [List.length_take]; omega,by rw [List.length_drop]; omega⟩
theorem x6 {k:IntKind} {rest:List Value}: ∀ {l:List Int} {f:List Int->LP},f l rest->takeI k l.length (l.map (Value.int k)++rest) f
 | [],f,H=>H
 | x::l,f,H=>by
  have hk:sameKind k k=true:=by cases k <;> rfl
  show cnd (sameKind k k) _ _;rw [hk];exact x6 (f:=fun l=>f (x::l)) H
theorem Ru {k:IntKind} {n:Nat} {f:List Int->LP} {v:Vector Int n} {rest:List Value} (H:f v.toList rest):tL k n f (lumpV k n v.toList++rest):=by rw [dZ];have:=x6 (k:=k) (l:=v.toList) H;simpa using this
theorem rQ {k:IntKind} {n:Nat} {f:List Int->LP} {v:Vector Int n} (H:f v.toList []):tL k n f (lumpV k n v.toList):=by
 have:=Ru (k:=k) (f:=f) (v:=v) (rest:=[]) H
 rwa [List.append_nil] at this
theorem rR {n:Nat} {cs:List Value} (h:cs.length=n+1): ∃ v r,cs=v::r/\r.length=n:=by
 cases cs with
 | nil=>simp at h
 | cons v r=>exact ⟨v,r,rfl,by simpa using h⟩
theorem Dk {P:Program} {w:World} {t:TypeId} {v:Value} (hf:fieldsOf P t ≠ []) (hv:Value.okWide P w .any 0 t v): ∃ cs,v= .agg cs:=by
 unfold Value.okWide at hv;unfold fieldsOf at hf;split at hf
 ·rename_i fs ht
  rw [ht] at hv;obtain ⟨cs,e,_⟩:=hv;exact ⟨cs,e⟩
 ·exact absurd rfl hf
theorem JC {h:Hp} {A:List At} (H: ∀ a ∈ A,a.P h [] []):Inv h (A++[leA h []]):=by
 refine ⟨(A++[leA h []]).map fun _=>[], ?_, ?_⟩
 ·have e:((A++[leA h []]).map fun _=>([]:List Nat)).flatten=[]:=by simp
  rw [e]
  have H2: ∀ a ∈ A++[leA h []],a.P h [] []:=by
   intro a ha;rcases List.mem_append.1 ha with ha | ha
   ·exact H a ha
   ·rw [List.mem_singleton] at ha; subst ha; exact ⟨rfl,Le.refl _ _⟩
  generalize A++[leA h []]=B at H2
  induction B with
  | nil=>trivial
  | cons b B ih=>exact ⟨H2 b (by simp),ih fun a ha=>H2 a (by simp [ha])⟩
 ·have e:((A++[leA h []]).map fun _=>([]:List Nat)).flatten=[]:=by simp
  rw [e]; exact List.nodup_nil
def ug {O:Type}:St O:=fun _=>none
theorem hp0 {O:Type} {rep:O->Addr->At} {h:Hp}:(hpA rep (ug (O:=O))).P h [] []:=by refine ⟨[],⟨⟨by simp,fun q=>rfl⟩, ?_⟩⟩;exact ⟨[],rfl,trivial⟩
theorem ro0 {X:Type} {E:Rp X} {h:Hp} {a:Option Addr} {c:Nat} {l:List X} (H:SlE E h [] a c l):(roS E a l.length c l).P h [] []:=⟨rfl,rfl,H⟩
end Go.Laws
