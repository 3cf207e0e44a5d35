import Derived.Test.YtpjehkdneiclnaaCnWc8
import Derived.Tactics
set_option linter.unusedSimpArgs false
set_option linter.unusedVariables false
namespace Go.Wc
variable {P:Program} {τ:Tys} {σ cl:Specs}
def dstOk (n:Nat):Option Nat→Bool
  | none=>true
  | some d=>Nat.blt d n
def opsOk (n:Nat) (Γ:Env) (o:Oper):Bool:=dstOk n o.dst && o.op.operands.toList.all (present Γ)
abbrev stepOp (τ:Tys) (σ cl:Specs) (n:Nat) (o:Oper) (Γ:Env) (h:Hp) (K:Env→Hp→Prop):Prop:=
  cnd (opsOk n Γ o) (opW τ σ cl o.type o.op Γ h fun v h'=>K (put o.dst v Γ) h') (False)
abbrev gd (ops:List Oper) (o:Oper) (Γ:Env) (exec skip:Env→Prop):Prop:=
  match o.guard with
  | none=>exec Γ
  | some (j, want) => match ops[j]? with
    | none=>False
    | some g => match g.dst with
      | none=>False
      | some d => match Γ.find d with
        | some (.bool b)=>brA b (cnd (want) (exec ((d, .bool true)::Γ)) (skip ((d, .bool true)::Γ))) (cnd (want) (skip ((d, .bool false)::Γ)) (exec ((d, .bool false)::Γ)))
        | some (.tuple _)=>skip Γ
        | _=>False
abbrev WSeq (τ:Tys) (σ cl:Specs) (n:Nat) (ops:List Oper):List Oper→Env→Hp→(Env→Hp→Prop)→Prop
  | [],Γ,h,K=>K Γ h
  | o :: r, Γ, h, K => gd ops o Γ (fun Γ => stepOp τ σ cl n o Γ h fun Γ' h' => WSeq τ σ cl n ops r Γ' h' K)
      (fun Γ=>cnd (dstOk n o.dst) (WSeq τ σ cl n ops r (put o.dst undef Γ) h K) (False))
def Fits (n:Nat) (Γ:Env) (a:Act):Prop:=a.tmps.size=n∧a.defers=[]∧ ∀ t v,Env.find Γ t=some v→a.tmps[t]? =some v
theorem Fits.put {n:Nat} {Γ:Env} {a:Act} (h:Fits n Γ a) {d:Option Nat} (hd:dstOk n d=true) (v:Value):Fits n (Wc.put d v Γ) (a.put d v):=by
  cases d with
  | none=>exact h
  | some d =>
    obtain ⟨h1,h2,h3⟩:=h
    have hlt:d<n:=by simpa [dstOk,Nat.blt_eq] using hd
    refine ⟨by simp [Act.put,h1],h2,fun t u hu=> ?_⟩
    simp only [Wc.put,Env.find] at hu
    cases hb:Nat.beq d t with
    | true =>
      rw [hb] at hu; simp at hu; subst hu
      have:d=t:=by simpa using hb
      subst this
      simp [Act.put,h1,hlt]
    | false =>
      rw [hb] at hu
      have:d ≠ t:=by intro e; subst e; simp at hb
      simp only [Act.put]
      rw [Array.getElem?_setIfInBounds_ne this]
      exact h3 t u hu
theorem Fits.more {n:Nat} {Γ:Env} {a:Act} (h:Fits n Γ a) {d:Nat} {v:Value} (hd:Env.find Γ d=some v):Fits n ((d,v)::Γ) a:=by
  obtain ⟨h1,h2,h3⟩:=h
  refine ⟨h1,h2,fun t u hu=> ?_⟩
  simp only [Env.find] at hu
  cases hb:Nat.beq d t with
  | true =>
    rw [hb] at hu; simp at hu; subst hu
    have:d=t:=by simpa using hb
    subst this; exact h3 _ _ hd
  | false=>rw [hb] at hu; exact h3 t u hu
theorem Fits.eval {n:Nat} {Γ:Env} {a:Act} (h:Fits n Γ a) {x:Operand} (hx:present Γ x=true):a.eval x=ev Γ x:=by
  cases x with
  | tmp t =>
    simp only [present] at hx
    obtain ⟨v,hv⟩:=Option.isSome_iff_exists.1 hx
    have:=h.2.2 t v hv
    simp [Act.eval,ev,hv,this]
  | _=>rfl
theorem Fits.exec {n:Nat} {Γ:Env} {a:Act} (h:Fits n Γ a) {o:Oper} (hs: ∀ cs b,o.op ≠ .select cs b) (hx:o.op.operands.toList.all (present Γ)=true):
    execOp a.eval o=execOp (ev Γ) o:=
  execOp_congr o hs fun x hm=>h.eval (by rw [List.all_eq_true] at hx; exact hx x (by simpa using hm))
theorem opW_select {rt:Nat} {cs:Array SelectCase} {b:Bool} {Γ:Env} {h:Hp} {K:Value→Hp→Prop} (H:opW τ σ cl rt (.select cs b) Γ h K):False:=by
  simp only [opW,isR,readsConv,Bool.or_self,cond_false,cnd,opC] at H
theorem stepOp_wp {n:Nat} {o:Oper} {Γ:Env} {K:Env→Hp→Prop} {a:Act} {w:World} {next:Act→World→Prop} {Q:Exit→Act→World→Prop}
    (hA:Agree P τ) (hσ:SpecsOk P σ) (hcl:SpecsOk P cl) (hf:Fits n Γ a)
    (hn: ∀ Γ' a' w',Fits n Γ' a'→Same w w'→K Γ' w'.heap→next a' w') (H:stepOp τ σ cl n o Γ w.heap K):o.wp P a w next Q:=by
  unfold stepOp at H
  cases hok:opsOk n Γ o with
  | false=>rw [hok] at H; exact H.elim
  | true =>
    rw [hok] at H; simp only [cond_true,cnd] at H
    simp only [opsOk,Bool.and_eq_true] at hok
    have hsel: ∀ cs b,o.op ≠ .select cs b:=fun cs b e=>by rw [e] at H; exact opW_select H
    have hout:=opW_sound (P:=P) hA hσ hcl H
    unfold Oper.wp
    rw [hf.exec hsel hok.2]
    generalize (execOp (ev Γ) o).run P w=r at hout
    unfold Out at hout
    split at hout
    · exact hn _ _ _ (hf.put hok.1 _) hout.1 hout.2
    · exact hn _ _ _ (hf.put hok.1 _) hout.1 hout.2
    · obtain ⟨h1, h2⟩ := hout
      refine Calls.mono h2 fun e w'' ⟨v,he,hs,hk⟩=> ?_
      subst he
      exact hn _ _ _ (hf.put hok.1 _) (h1.trans hs) hk
    · exact hout.elim
theorem gd_elim {n : Nat} {ops : List Oper} {o : Oper} {Γ : Env} {a : Act} {exec skip : Env → Prop} (hf : Fits n Γ a) (H : gd ops o Γ exec skip) :
    (Region.wanted o (yielded ops.toArray a.tmps)=true∧ ∃ Γ',Fits n Γ' a∧exec Γ')∨(Region.wanted o (yielded ops.toArray a.tmps)=false∧ ∃ Γ',Fits n Γ' a∧skip Γ'):=by
  unfold gd at H
  split at H
  · rename_i hg; exact .inl ⟨by simp [Region.wanted,hg],Γ,hf,H⟩
  · rename_i j want hg
    split at H
    · exact H.elim
    rename_i g hgj
    split at H
    · exact H.elim
    rename_i d hd
    split at H
    · rename_i b hb
      have hy:yielded ops.toArray a.tmps j=some b:=by
        simp only [yielded,List.getElem?_toArray,hgj,Option.bind_some,hd,hf.2.2 d _ hb]
      rw [brA_eq] at H
      cases b <;> cases want <;> simp only [br_true,br_false,cond_true,cond_false,cnd] at H
      · exact .inl ⟨by simp [Region.wanted,hg,hy],_,hf.more hb,H⟩
      · exact .inr ⟨by simp [Region.wanted,hg,hy],_,hf.more hb,H⟩
      · exact .inr ⟨by simp [Region.wanted,hg,hy],_,hf.more hb,H⟩
      · exact .inl ⟨by simp [Region.wanted,hg,hy],_,hf.more hb,H⟩
    · rename_i vs hb
      have hy:yielded ops.toArray a.tmps j=none:=by
        simp only [yielded,List.getElem?_toArray,hgj,Option.bind_some,hd,hf.2.2 d _ hb]
      exact .inr ⟨by simp [Region.wanted,hg,hy],_,hf,H⟩
    · exact H.elim
theorem WSeq_sound {n:Nat} {ops:List Oper} {Q:Exit→Act→World→Prop} (hA:Agree P τ) (hσ:SpecsOk P σ) (hcl:SpecsOk P cl):
    ∀ {l : List Oper} {Γ : Env} {K : Env → Hp → Prop} {a : Act} {w : World}, Fits n Γ a → (∀ Γ' a' w', Fits n Γ' a' → Same w w' → K Γ' w'.heap → Q .normal a' w') →
      WSeq τ σ cl n ops l Γ w.heap K→wpList P ops.toArray Q l a w
  | [],Γ,K,a,w,hf,hQ,H=>hQ _ _ _ hf (Same.refl w) H
  | o :: l, Γ, K, a, w, hf, hQ, H => by
    unfold WSeq at H
    unfold wpList
    rcases gd_elim hf H with ⟨hw,Γ',hf',H⟩ | ⟨hw,Γ',hf',H⟩
    · rw [if_pos hw]
      refine .inl (stepOp_wp hA hσ hcl hf' (fun Γ'' a' w' hf'' hs hk=> ?_) H)
      exact WSeq_sound hA hσ hcl hf'' (fun Γ3 a3 w3 h1 h2 h3=>hQ _ _ _ h1 (hs.trans h2) h3) hk
    · rw [if_neg (by rw [hw]; simp)]
      cases hd:dstOk n o.dst with
      | false=>rw [hd] at H; exact H.elim
      | true=>rw [hd] at H; exact WSeq_sound hA hσ hcl (hf'.put hd _) hQ H
end Go.Wc
