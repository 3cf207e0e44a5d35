import Derived.Test.YtpjehkdneiclnaaCnWc9
set_option linter.unusedSimpArgs false
set_option linter.unusedVariables false
namespace Go.Wc
variable {P:Program} {τ:Tys} {σ cl:Specs} {ops:Array Oper} {Q:Exit→Act→World→Prop}
def wpAnyG (P:Program) (ops:Array Oper) (Q:Exit→Act→World→Prop) (S:Array Bool→World→Prop):Nat→Array Bool→Act→World→Prop
  | 0,l,a,w=>Region.ready .any ops l=[]∧Q .normal a w
  | fuel+1,l,a,w=>(Region.ready .any ops l=[]→Q .normal a w)∧
      ∀ i ∈ Region.ready .any ops l,wpOp P ops Q i (fun a' w'=>S (l.setIfInBounds i true) w'∧wpAnyG P ops Q S fuel (l.setIfInBounds i true) a' w') a w
theorem wpAny_of_G {S:Array Bool→World→Prop}: ∀ (fuel:Nat) (l:Array Bool) (a:Act) (w:World),wpAnyG P ops Q S fuel l a w→wpAny P .any ops Q fuel l a w
  | 0,_,_,_,h=>h
  | fuel+1,_,_,_,h=>⟨h.1,fun i hi=>wpOp_mono (fun a' w' h'=>wpAny_of_G fuel _ a' w' h'.2) (h.2 i hi)⟩
theorem listed_grows {l:Array Bool} {i x:Nat} (h:l.getD x false=true):(l.setIfInBounds i true).getD x false=true:=getD_set_true h
theorem wpAnyG_mono {S S':Array Bool→World→Prop}: ∀ (fuel:Nat) (l:Array Bool) (a:Act) (w:World),
    (∀ l' w,(∀ x,l.getD x false=true→l'.getD x false=true)→S' l' w→S l' w)→wpAnyG P ops Q S' fuel l a w→wpAnyG P ops Q S fuel l a w
  | 0,_,_,_,_,h=>h
  | fuel+1,_,_,_,hm,h=>⟨h.1,fun i hi=>wpOp_mono (fun a' w' h'=>⟨hm _ _ (fun _ hx=>listed_grows hx) h'.1,
      wpAnyG_mono fuel _ a' w' (fun l' w hl=>hm l' w fun x hx=>hl x (listed_grows hx)) h'.2⟩) (h.2 i hi)⟩
def Cl (ops:Array Oper) (l:Array Bool):Prop:= ∀ x ox,ops[x]? =some ox→l.getD x false=true→ ∀ e ∈ ox.after,Region.binds .any e=true→l.getD e.on false=true
theorem Cl.set {l:Array Bool} {i:Nat} (h:Cl ops l) (hi:i ∈ Region.ready .any ops l):Cl ops (l.setIfInBounds i true):=by
  intro x ox hx hl e he hb
  by_cases hxi:i=x
  · subst hxi
    obtain ⟨_,oi,hoi,hall⟩:=mem_ready.1 hi
    rw [hoi] at hx; cases hx
    exact listed_grows (hall e he hb)
  · rw [getD_set_ne false hxi] at hl
    exact listed_grows (h x ox hx hl e he hb)
def descB (ops : Array Oper) : Nat → Nat → Nat → Bool
  | 0,_,_=>false
  | n + 1, i, d => match ops[d]? with
    | some o=>o.after.toList.any fun e=>Region.binds .any e && (Nat.beq e.on i || descB ops n i e.on)
    | none=>false
theorem descB_spec {l : Array Bool} {i : Nat} (hc : Cl ops l) (hi : l.getD i false = false) : ∀ (n d : Nat), descB ops n i d = true → l.getD d false = false
  | 0,_,h=>by simp [descB] at h
  | n + 1, d, h => by
    unfold descB at h
    split at h
    · rename_i o ho
      simp only [List.any_eq_true,Bool.and_eq_true,Bool.or_eq_true,Nat.beq_eq] at h
      obtain ⟨e,he,hb,hor⟩:=h
      cases hd:l.getD d false with
      | false=>rfl
      | true =>
        have h1:=hc d o ho hd e (by simpa using he) hb
        rcases hor with hor | hor
        · rw [hor,hi] at h1; cases h1
        · rw [descB_spec hc hi n _ hor] at h1; cases h1
    · cases h
theorem wpAnyG_first {S : Array Bool → World → Prop} {f : World → Prop} {i : Nat} {oi : Oper} {v : Value} {D : List Nat} (hi : ops[i]? = some oi)
    (hsel: ∀ (j:Nat) (o:Oper) cs b,ops[j]? =some o→o.op ≠ .select cs b) (hQ: ∀ c a w,Q (.panic c) (a.put oi.dst v) w→Q (.panic c) a w)
    (hDi:i ∉ D) (hD: ∀ d ∈ D,∃ n,descB ops n i d=true) (hS: ∀ l w,S (l.setIfInBounds i true) w↔S l w):
    ∀ (fuel : Nat) (l : Array Bool) (a : Act) (w : World), Cl ops l →
      (∀ j oj,ops[j]? =some oj→j ≠ i→l.getD j true=false→(∀ e ∈ oj.after,Region.binds .any e=true→e.on ≠ i)→oi.apart ops oj=true)→
      i ∈ Region.ready .any ops l→YieldsIf P ops f oi v a→f w→S l w→
      wpAnyG P ops Q (fun l' w'=>S l' w'∧((∀ d ∈ D,l'.getD d false=false)→f w')) fuel (l.setIfInBounds i true) (a.put oi.dst v) w→
      wpAnyG P ops Q S (fuel+1) l a w:=by
  intro fuel
  induction fuel with
  | zero =>
    intro l a w _ _ hr hy hf hSw H
    refine ⟨fun h=>(by rw [h] at hr; cases hr),fun j hj=> ?_⟩
    by_cases hji:j=i
    · subst hji; exact hy.wpOp hi hf ⟨(hS _ _).2 hSw,H⟩
    · have := ready_mono hj hji
      rw [H.1] at this
      cases this
  | succ fuel ih =>
    intro l a w hcl hfree hr hy hf hSw H
    refine ⟨fun h=>(by rw [h] at hr; cases hr),fun j hj=> ?_⟩
    by_cases hji:j=i
    · subst hji
      exact hy.wpOp hi hf ⟨(hS _ _).2 hSw,wpAnyG_mono _ _ _ _ (fun l' w' _ h=>h.1) H⟩
    · have h1 := H.2 j (ready_mono hj hji)
      obtain ⟨hjun,oj,hoj,hall⟩:=mem_ready.1 hj
      have hiun:l.getD i true=false:=(mem_ready.1 hr).1
      have hiun':l.getD i false=false:=by
        rcases Nat.lt_or_ge i l.size with h' | h'
        · simp [h'] at hiun ⊢; exact hiun
        · simp [Array.getElem?_eq_none h'] at hiun
      have hnot: ∀ e ∈ oj.after,Region.binds .any e=true→e.on ≠ i:=fun e he hb heq=>by
        have h1:=hall e he hb
        rw [heq,hiun'] at h1; cases h1
      have h2:=wpOp_putIf hoj (hfree j oj hoj hji hjun hnot) (fun cs b=>hsel i oi cs b hi) (fun cs b=>hsel j oj cs b hoj) hQ hy h1
      have hfree': ∀ k ok,ops[k]? =some ok→k ≠ i→(l.setIfInBounds j true).getD k true=false→
          (∀ e ∈ ok.after,Region.binds .any e=true→e.on ≠ i)→oi.apart ops ok=true:=fun k ok hk hki hun hno=>by
        refine hfree k ok hk hki ?_ hno
        by_cases hjk:j=k
        · subst hjk; exact hjun
        · rw [getD_set_ne true hjk] at hun; exact hun
      have hclj:=hcl.set hj
      refine wpOp_mono (fun a' w' h3=> ?_) h2
      obtain ⟨h4,⟨h5,h6⟩,h7⟩:=h3
      have hcomm:(l.setIfInBounds i true).setIfInBounds j true=(l.setIfInBounds j true).setIfInBounds i true:=Array.setIfInBounds_comm _ _ (Ne.symm hji)
      rw [hcomm] at h5 h6 h7
      have hSj:S (l.setIfInBounds j true) w':=(hS _ _).1 h5
      have hi':(l.setIfInBounds j true).getD i false=false:=by rw [getD_set_ne false hji]; exact hiun'
      have hf':f w':=h6 fun d hd=>by
        have hdi:i ≠ d:=fun e=>hDi (e ▸ hd)
        rw [getD_set_ne false hdi]
        obtain ⟨n,hn⟩:=hD d hd
        exact descB_spec hclj hi' n d hn
      exact ⟨hSj,ih (l.setIfInBounds j true) a' w' hclj hfree' (ready_mono hr (Ne.symm hji)) h4 hf' hSj h7⟩
inductive Plan where
  | done
  | take (i:Nat) (D:List Nat) (p:Plan)
  | all (r:Plan)
  | alt (i:Nat) (p r:Plan)
  | nil
def altIds:Plan→List Nat
  | .alt i _ r=>i::altIds r
  | _=>[]
def memN (n:Nat):List Nat→Bool
  | []=>false
  | m::r=>Nat.beq m n || memN n r
theorem memN_iff {n:Nat}: ∀ {l:List Nat},memN n l=true↔n ∈ l
  | []=>by simp [memN]
  | m::r=>by simp only [memN,Bool.or_eq_true,Nat.beq_eq,memN_iff,List.mem_cons]; constructor <;> (rintro (h | h) <;> simp [h])
def shutP:Plan→Bool
  | .nil=>false
  | .alt .. =>false
  | _=>true
def planOk (ops : Array Oper) : Plan → Nat → Array Bool → List Nat → Bool
  | .done,_,l,_=>(Region.ready .any ops l).isEmpty
  | .take i D p, f, l, Ds => match f with
    | 0=>false
    | f+1=>Region.free .any ops l i && (Region.ready .any ops l).contains i && !memN i Ds && !memN i D && D.all (fun d=>descB ops ops.size i d) && shutP p && planOk ops p f (l.setIfInBounds i true) (D++Ds)
  | .all r, f, l, Ds => match f with
    | 0=>false
    | f+1=>(altIds r==Region.ready .any ops l) && !(altIds r).isEmpty && planOk ops r f l Ds
  | .alt i p r,f,l,Ds=>shutP p && planOk ops p f (l.setIfInBounds i true) Ds && planOk ops r f l Ds
  | .nil,_,_,_=>true
abbrev Facts:=List (List Nat × (Hp→Prop))
def keepF (j:Nat):Facts→Facts
  | []=>[]
  | (D,f)::r=>bif memN j D then keepF j r else (D,f)::keepF j r
abbrev allF:Facts→Hp→Prop→Prop
  | [],_,X=>X
  | (_,f)::r,h,X=>f h∧allF r h X
def looks:Op→Bool
  | .load .. | .lookup .. | .convert .. | .call {callee:= .builtin _, ..}=>true
  | _=>false
theorem opR_blind {o:Op} {Γ:Env} {h:Hp} {K:(Hp→Prop)→Value→Prop} (hl:looks o=false):
    opR τ o Γ h K=opR τ o Γ h fun _ v=>K (fun _=>True) v:=by
  cases o with
  | load=>simp [looks] at hl
  | lookup=>simp [looks] at hl
  | convert=>simp [looks] at hl
  | call c =>
    obtain ⟨callee,args,ats⟩:=c
    cases callee with
    | builtin b=>simp [looks] at hl
    | _=>rfl
  | slice t x lo hi mx=>cases mx <;> cases hi <;> rfl
  | _=>rfl
abbrev WPl (τ:Tys) (σ cl:Specs) (n:Nat) (ops:List Oper):Plan→Env→Hp→Facts→(Env→Hp→Prop)→Prop
  | .done,Γ,h,_,K=>K Γ h
  | .take i D p, Γ, h, F, K => match ops[i]? with
    | none=>False
    | some o=>gd ops o Γ (fun Γ=>cnd (opsOk n Γ o) ((cnd (looks o.op) (opR τ o.op Γ h fun f v=>WPl τ σ cl n ops p (put o.dst v Γ) h ((D,f)::F) K) (opR τ o.op Γ h fun _ v=>WPl τ σ cl n ops p (put o.dst v Γ) h F K))) (False))
        (fun Γ=>cnd (dstOk n o.dst) (WPl τ σ cl n ops p (put o.dst undef Γ) h F K) (False))
  | .all r,Γ,h,F,K=>WPl τ σ cl n ops r Γ h F K
  | .alt i p r, Γ, h, F, K =>
    let X := match ops[i]? with
      | none=>False
      | some o=>gd ops o Γ (fun Γ=>stepOp τ σ cl n o Γ h fun Γ' h'=>allF (keepF i F) h' (WPl τ σ cl n ops p Γ' h' (keepF i F) K))
          (fun Γ=>cnd (dstOk n o.dst) (WPl τ σ cl n ops p (put o.dst undef Γ) h (keepF i F) K) (False))
    match r with
    | .nil=>X
    | _=>X∧WPl τ σ cl n ops r Γ h F K
  | .nil,_,_,_,_=>True
def SF (F:Facts) (l:Array Bool) (w:World):Prop:= ∀ p ∈ F,(∀ d ∈ p.1,l.getD d false=false)→p.2 w.heap
theorem allF_elim: ∀ {F:Facts} {h:Hp} {X:Prop},allF F h X→(∀ p ∈ F,p.2 h)∧X
  | [],_,_,H=>⟨fun p hp=>by simp at hp,H⟩
  | (D, f) :: r, h, X, H => by
    obtain ⟨h1,h2⟩:=allF_elim H.2
    refine ⟨fun p hp=> ?_,h2⟩
    rcases List.mem_cons.1 hp with rfl | hp
    · exact H.1
    · exact h1 p hp
theorem mem_keepF {j:Nat} {p:List Nat × (Hp→Prop)}: ∀ {F:Facts},p ∈ F→j ∈ p.1∨p ∈ keepF j F
  | [],h=>by simp at h
  | (D, f) :: r, h => by
    rcases List.mem_cons.1 h with rfl | h
    · cases hm : memN j D with
      | true=>exact .inl (memN_iff.1 hm)
      | false=>right; simp [keepF,hm]
    · rcases mem_keepF h with h | h
      · exact .inl h
      · right; cases hm:memN j D <;> simp [keepF,hm,h]
theorem keepF_sub {j:Nat} {p:List Nat × (Hp→Prop)}: ∀ {F:Facts},p ∈ keepF j F→p ∈ F
  | [],h=>by simp [keepF] at h
  | (D, f) :: r, h => by
    cases hm:memN j D with
    | true=>simp only [keepF,hm,cond_true,cnd] at h; exact List.mem_cons_of_mem _ (keepF_sub h)
    | false => simp only [keepF, hm, cond_false, cnd, List.mem_cons] at h
               rcases h with rfl | h
               · exact List.mem_cons_self
               · exact List.mem_cons_of_mem _ (keepF_sub h)
theorem SF_keep {j:Nat} {F:Facts} {l:Array Bool} {w:World} (hj:l.getD j false=true) (h:SF (keepF j F) l w):SF F l w:=by
  intro p hp hd
  rcases mem_keepF (j:=j) hp with hm | hm
  · have:=hd j hm; rw [hj] at this; cases this
  · exact h p hm hd
theorem shutP_spec {p:Plan} (h:shutP p=true):altIds p=[]∧p ≠ .nil:=by
  cases p <;> simp [shutP,altIds] at h ⊢
theorem SF_of {F:Facts} {l:Array Bool} {w:World} (h: ∀ q ∈ F,q.2 w.heap):SF F l w:=fun q hq _=>h q hq
theorem WPl_sound {n : Nat} {ops : List Oper} {Q : Exit → Act → World → Prop} (hA : Agree P τ) (hσ : SpecsOk P σ) (hcl : SpecsOk P cl)
    (hsel:Region.noSelect ops.toArray=true) (hQ: ∀ c a w,¬ Q (.panic c) a w) {w0:World} {K:Env→Hp→Prop}
    (hK: ∀ Γ' a' w',Fits n Γ' a'→Same w0 w'→K Γ' w'.heap→Q .normal a' w'):
    ∀ (p : Plan) {Γ : Env} {F : Facts} {a : Act} {w : World} {fuel : Nat} {l : Array Bool} {Ds : List Nat}, Fits n Γ a → Same w0 w → Cl ops.toArray l →
      (∀ q ∈ F,∀ d ∈ q.1,d ∈ Ds)→planOk ops.toArray p fuel l Ds=true→(∀ q ∈ F,q.2 w.heap)→WPl τ σ cl n ops p Γ w.heap F K→
      (shutP p=true→wpAnyG P ops.toArray Q (SF F) fuel l a w)∧
      (∀ i ∈ altIds p,i ∈ Region.ready .any ops.toArray l→wpOp P ops.toArray Q i (fun a' w'=>SF F (l.setIfInBounds i true) w'∧wpAnyG P ops.toArray Q (SF F) fuel (l.setIfInBounds i true) a' w') a w)
  | .nil,Γ,F,a,w,fuel,l,Ds,_,_,_,_,_,_,_=>⟨fun h=>by simp [shutP] at h,fun i hi=>by simp [altIds] at hi⟩
  | .done, Γ, F, a, w, fuel, l, Ds, hf, hs, hc, hDs, hp, hS, H => by
    refine ⟨fun _=> ?_,fun i hi=>by simp [altIds] at hi⟩
    simp only [planOk,List.isEmpty_iff] at hp
    have hq:=hK _ _ _ hf hs H
    cases fuel with
    | zero=>exact ⟨hp,hq⟩
    | succ f=>exact ⟨fun _=>hq,fun i hi=>by rw [hp] at hi; cases hi⟩
  | .all r, Γ, F, a, w, fuel, l, Ds, hf, hs, hc, hDs, hp, hS, H => by
    refine ⟨fun _=> ?_,fun i hi=>by simp [altIds] at hi⟩
    cases fuel with
    | zero=>simp [planOk] at hp
    | succ f =>
      simp only [planOk,Bool.and_eq_true,beq_iff_eq,Bool.not_eq_true',List.isEmpty_eq_false_iff] at hp
      obtain ⟨⟨h1,h2⟩,h3⟩:=hp
      have ih:=(WPl_sound hA hσ hcl hsel hQ hK r hf hs hc hDs h3 hS H).2
      refine ⟨fun h0=>absurd (h1.trans h0) h2,fun i hi=>ih i (h1 ▸ hi) hi⟩
  | .alt i p r, Γ, F, a, w, fuel, l, Ds, hf, hs, hc, hDs, hp, hS, H => by
    refine ⟨fun h=>by simp [shutP] at h,fun j hj hr=> ?_⟩
    simp only [planOk,Bool.and_eq_true] at hp
    have Hr:j ∈ altIds r→WPl τ σ cl n ops r Γ w.heap F K:=by
      intro hjr
      unfold WPl at H
      cases r with
      | nil=>simp [altIds] at hjr
      | _=>exact H.2
    have HX : match ops[i]? with
        | none=>False
        | some o=>gd ops o Γ (fun Γ=>stepOp τ σ cl n o Γ w.heap fun Γ' h'=>allF (keepF i F) h' (WPl τ σ cl n ops p Γ' h' (keepF i F) K))
            (fun Γ=>bif dstOk n o.dst then WPl τ σ cl n ops p (put o.dst undef Γ) w.heap (keepF i F) K else False):=by
      unfold WPl at H
      cases r with
      | nil=>exact H
      | _=>exact H.1
    by_cases hji:j=i
    · subst hji
      obtain ⟨_,o,ho,_⟩:=mem_ready.1 hr
      have ho':ops[j]? =some o:=by simpa using ho
      rw [ho'] at HX
      have hjl:j<l.size:=by
        have:=(mem_ready.1 hr).1
        rcases Nat.lt_or_ge j l.size with h' | h'
        · exact h'
        · simp [Array.getElem?_eq_none h'] at this
      have hjt:(l.setIfInBounds j true).getD j false=true:=by simp [hjl]
      have hcj:=hc.set hr
      have go: ∀ {Γ':Env} {a':Act} {w':World},Fits n Γ' a'→Same w0 w'→(∀ q ∈ keepF j F,q.2 w'.heap)→WPl τ σ cl n ops p Γ' w'.heap (keepF j F) K→
          SF F (l.setIfInBounds j true) w'∧wpAnyG P ops.toArray Q (SF F) fuel (l.setIfInBounds j true) a' w':=by
        intro Γ' a' w' hf' hs' hq' hW
        refine ⟨SF_keep hjt (SF_of hq'), ?_⟩
        have ih:=WPl_sound hA hσ hcl hsel hQ hK p hf' hs' hcj (fun q hq=>hDs q (keepF_sub hq)) hp.1.2 hq' hW
        exact wpAnyG_mono _ _ _ _ (fun l' w hl' h=>SF_keep (hl' j hjt) h) (ih.1 hp.1.1)
      unfold wpOp
      simp only [ho]
      rcases gd_elim hf HX with ⟨hw,Γ',hf',HX⟩ | ⟨hw,Γ',hf',HX⟩
      · rw [if_pos hw]
        refine .inl (stepOp_wp hA hσ hcl hf' (fun Γ'' a' w' hf'' hs' hk=> ?_) HX)
        obtain ⟨h1,h2⟩:=allF_elim hk
        exact go hf'' (hs.trans hs') h1 h2
      · rw [if_neg (by rw [hw]; simp)]
        cases hd:dstOk n o.dst with
        | false=>rw [hd] at HX; exact HX.elim
        | true =>
          rw [hd] at HX
          exact go (hf'.put hd _) hs (fun q hq=>hS q (keepF_sub hq)) HX
    · have hjr : j ∈ altIds r := by
        simp only [altIds,List.mem_cons] at hj
        exact hj.resolve_left hji
      exact (WPl_sound hA hσ hcl hsel hQ hK r hf hs hc hDs hp.2 hS (Hr hjr)).2 j hjr hr
  | .take i D p, Γ, F, a, w, fuel, l, Ds, hf, hs, hc, hDs, hp, hS, H => by
    refine ⟨fun _=> ?_,fun i hi=>by simp [altIds] at hi⟩
    cases fuel with
    | zero=>simp [planOk] at hp
    | succ f =>
      simp only [planOk,Bool.and_eq_true,Bool.not_eq_true'] at hp
      obtain ⟨⟨⟨⟨⟨⟨p1,p2⟩,p3⟩,p4⟩,p5⟩,p6⟩,p7⟩:=hp
      have hiDs:i ∉ Ds:=fun h=>by rw [← memN_iff,p3] at h; cases h
      have hiD:i ∉ D:=fun h=>by rw [← memN_iff,p4] at h; cases h
      have hready:i ∈ Region.ready .any ops.toArray l:=by simpa using p2
      unfold WPl at H
      split at H
      · exact H.elim
      rename_i o ho
      have ho':ops.toArray[i]? =some o:=by simpa using ho
      have hcs:=hc.set hready
      have hDd: ∀ d ∈ D,∃ n,descB ops.toArray n i d=true:=fun d hd=>⟨_,by rw [List.all_eq_true] at p5; exact p5 d hd⟩
      have hSi: ∀ l w,SF F (l.setIfInBounds i true) w↔SF F l w:=fun l w=>by
        have e: ∀ q ∈ F,∀ d ∈ q.1,(l.setIfInBounds i true).getD d false=l.getD d false:=fun q hq d hd=>
          getD_set_ne false (fun e=>hiDs (e ▸ hDs q hq d hd))
        constructor
        · intro h q hq hd; exact h q hq fun d hdq=>by rw [e q hq d hdq]; exact hd d hdq
        · intro h q hq hd; exact h q hq fun d hdq=>by rw [← e q hq d hdq]; exact hd d hdq
      have hQ': ∀ (v:Value) (c:List PanicEntry) (a:Act) (w:World),Q (.panic c) (a.put o.dst v) w→Q (.panic c) a w:=fun v c a w h=>absurd h (hQ _ _ _)
      have key: ∀ {fc:Hp→Prop} {v:Value} {Γ':Env} {F':Facts},YieldsIf P ops.toArray (fun w=>fc w.heap) o v a→fc w.heap→Fits n Γ' (a.put o.dst v)→
          (F'=(D,fc)::F∨(F'=F∧ ∀ h,fc h))→WPl τ σ cl n ops p Γ' w.heap F' K→wpAnyG P ops.toArray Q (SF F) (f+1) l a w:=by
        intro fc v Γ' F' hy hfc hf' hF' hW
        refine wpAnyG_first (f:=fun w=>fc w.heap) ho' (Region.noSelect_spec hsel) (hQ' v) hiD hDd hSi f l a w hc (Region.free_spec ho' p1) hready hy hfc (SF_of hS) ?_
        rcases hF' with rfl | ⟨rfl,hall⟩
        · have ih := (WPl_sound hA hσ hcl hsel hQ hK p hf' hs hcs (fun q hq => by
            rcases List.mem_cons.1 hq with rfl | hq
            · exact fun d hd=>List.mem_append_left _ hd
            · exact fun d hd=>List.mem_append_right _ (hDs q hq d hd)) p7 (fun q hq=>by
            rcases List.mem_cons.1 hq with rfl | hq
            · exact hfc
            · exact hS q hq) hW).1 p6
          exact wpAnyG_mono _ _ _ _ (fun l' w' _ h=>⟨fun q hq=>h q (List.mem_cons_of_mem _ hq),fun hd=>h _ List.mem_cons_self hd⟩) ih
        · have ih := (WPl_sound hA hσ hcl hsel hQ hK p hf' hs hcs (fun q hq d hd => List.mem_append_right _ (hDs q hq d hd)) p7 hS hW).1 p6
          exact wpAnyG_mono _ _ _ _ (fun l' w' _ h=>⟨h,fun _=>hall _⟩) ih
      rcases gd_elim hf H with ⟨hw,Γ',hf',H⟩ | ⟨hw,Γ',hf',H⟩
      · cases hok : opsOk n Γ' o with
        | false=>rw [hok] at H; exact H.elim
        | true =>
          rw [hok] at H; simp only [cond_true,cnd] at H
          simp only [opsOk,Bool.and_eq_true] at hok
          have hsel': ∀ cs b,o.op ≠ .select cs b:=fun cs b=>Region.noSelect_spec hsel i o cs b ho'
          cases hlk:looks o.op with
          | true =>
            rw [hlk] at H; simp only [cond_true,cnd] at H
            obtain ⟨fc,v,h1,h2,h3⟩:=opR_sound (P:=P) hA H
            exact key (fc:=fc) (.inl ⟨hw,fun w' hw'=>by rw [hf'.exec hsel' hok.2]; exact h3 w' hw'⟩) h2 (hf'.put hok.1 _) (.inl rfl) h1
          | false =>
            rw [hlk] at H; simp only [cond_false,cnd] at H
            have H2:opR τ o.op Γ' w.heap fun f v=>f=(fun _=>True)∧WPl τ σ cl n ops p (put o.dst v Γ') w.heap F K:=by
              rw [opR_blind hlk]
              simpa using H
            obtain ⟨fc,v,⟨rfl,h1⟩,h2,h3⟩:=opR_sound (P:=P) hA H2
            exact key (fc:=fun _=>True) (.inl ⟨hw,fun w' hw'=>by rw [hf'.exec hsel' hok.2]; exact h3 w' hw'⟩) trivial (hf'.put hok.1 _) (.inr ⟨rfl,fun _=>trivial⟩) h1
      · cases hd : dstOk n o.dst with
        | false=>rw [hd] at H; exact H.elim
        | true =>
          rw [hd] at H; simp only [cond_true,cnd] at H
          exact key (fc:=fun _=>True) (.inr ⟨hw,rfl⟩) trivial (hf'.put hd _) (.inr ⟨rfl,fun _=>trivial⟩) H
end Go.Wc
