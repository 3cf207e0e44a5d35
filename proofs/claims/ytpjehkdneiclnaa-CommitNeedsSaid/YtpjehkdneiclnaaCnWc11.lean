import Derived.Test.YtpjehkdneiclnaaCnWc10
set_option linter.unusedSimpArgs false
set_option linter.unusedVariables false
namespace Go.Wc
variable {P:Program} {τ:Tys} {σ cl:Specs}
inductive Ann where
  | leaf
  | plan (p:Plan)
  | seq (a b:Ann)
  | join (k:Nat) (live:List Nat) (a b:Ann)
  | cond (a b:Ann)
  | block (a:Ann)
  | loop (k:Nat) (live:List Nat) (b:Ann)
abbrev LoopS:=List Value→Hp→Prop
abbrev Src:=Nat→List LoopS→List Value→Hp→Prop
abbrev Kont:=Exit→Env→Hp→Prop
def Lfp (Φ:LoopS→LoopS):LoopS:=fun v h=> ∀ R:LoopS,(∀ v h,(∃ S:LoopS,(∀ v h,S v h→R v h)∧Φ S v h)→R v h)→R v h
theorem Lfp.rule {Φ:LoopS→LoopS} (Inv:LoopS) (μ:List Value→Hp→Nat)
    (step: ∀ v h,Inv v h→Φ (fun v' h'=>Inv v' h'∧μ v' h'<μ v h) v h): ∀ v h,Inv v h→Lfp Φ v h:=by
  intro v h hI R hR
  have key: ∀ n v h,μ v h=n→Inv v h→R v h:=by
    intro n
    induction n using Nat.strongRecOn with
    | _ n ih =>
      intro v h hn hI
      exact hR v h ⟨_,fun v' h' ⟨h1,h2⟩=>ih _ (hn ▸ h2) v' h' rfl h1,step v h hI⟩
  exact key _ v h rfl hI
def lives (live:List Nat) (Γ:Env):List Value:=live.map fun s=>(Env.find Γ s).getD undef
abbrev jump (live:List Nat) (Γ:Env) (h:Hp) (R:LoopS):Prop:=cnd (live.all (fun s=>(Env.find Γ s).isSome)) (R (lives live Γ) h) (False)
abbrev thenK (next:Env→Hp→Prop) (K:Kont):Kont:=fun e Γ h=>match e with
  | .normal=>next Γ h
  | e=>K e Γ h
abbrev blockK (id:Nat) (K:Kont):Kont:=fun e Γ h=>match e with
  | .exit id'=>cnd (Nat.beq id' id) (K .normal Γ h) (K (.exit id') Γ h)
  | e=>K e Γ h
abbrev W (τ:Tys) (σ cl:Specs) (n:Nat) (src:Src):Code→Ann→List LoopS→Env→Hp→Kont→Prop
  | .skip,_,_,Γ,h,K=>K .normal Γ h
  | .region _ ops draw, A, _, Γ, h, K => match draw, A with
    | false,_=>WSeq τ σ cl n ops.toList ops.toList Γ h fun Γ' h'=>K .normal Γ' h'
    | true, .plan p=>cnd (Region.noSelect ops && shutP p && planOk ops p ops.size (Array.replicate ops.size false) []) (WPl τ σ cl n ops.toList p Γ h [] fun Γ' h'=>K .normal Γ' h') (False)
    | _,_=>False
  | .seq a b, A, Ss, Γ, h, K => match A with
    | .seq A B=>W τ σ cl n src a A Ss Γ h (thenK (fun Γ' h'=>W τ σ cl n src b B Ss Γ' h' K) K)
    | .join k live A _=>W τ σ cl n src a A Ss Γ h (thenK (fun Γ' h'=>jump live Γ' h' (src k Ss)) K)
    | _=>False
  | .cond c x y, A, Ss, Γ, h, K => match A with
    | .cond A B=>cnd (present Γ c) ((match ev Γ c with
        | .bool b=>brA b (W τ σ cl n src x A Ss Γ h K) (W τ σ cl n src y B Ss Γ h K)
        | _=>False)) (False)
    | _=>False
  | .block id c, A, Ss, Γ, h, K => match A with
    | .block A=>W τ σ cl n src c A Ss Γ h (blockK id K)
    | _=>False
  | .loop _, A, Ss, Γ, h, _ => match A with
    | .loop k live _=>jump live Γ h (Lfp fun S=>src k (S::Ss))
    | _=>False
  | .exit id,_,_,Γ,h,K=>K (.exit id) Γ h
  | .ret,_,_,Γ,h,K=>K .ret Γ h
  | _,_,_,_,_,_=>False
def pts:Ann→List Nat
  | .seq a b=>pts a++pts b
  | .join k _ a b=>k::(pts a++pts b)
  | .cond a b=>pts a++pts b
  | .block a=>pts a
  | .loop k _ b=>k::pts b
  | _=>[]
abbrev ptW (τ:Tys) (σ cl:Specs) (n:Nat) (src:Src) (k:Nat) (vals:List Value) (h:Hp):Code→Ann→List LoopS→List LoopS→Kont→Prop
  | .seq a b, A, Ss, inner, K => match A with
    | .seq A B=>cnd (memN k (pts A)) (ptW τ σ cl n src k vals h a A Ss inner (thenK (fun Γ' h'=>W τ σ cl n src b B Ss Γ' h' K) K)) (ptW τ σ cl n src k vals h b B Ss inner K)
    | .join k0 live A B=>cnd (Nat.beq k0 k) (W τ σ cl n src b B Ss (live.zip vals) h K) (cnd (memN k (pts A)) (ptW τ σ cl n src k vals h a A Ss inner (thenK (fun Γ' h'=>jump live Γ' h' (src k0 Ss)) K)) (ptW τ σ cl n src k vals h b B Ss inner K))
    | _=>False
  | .cond _ x y, A, Ss, inner, K => match A with
    | .cond A B=>cnd (memN k (pts A)) (ptW τ σ cl n src k vals h x A Ss inner K) (ptW τ σ cl n src k vals h y B Ss inner K)
    | _=>False
  | .block id c, A, Ss, inner, K => match A with
    | .block A=>ptW τ σ cl n src k vals h c A Ss inner (blockK id K)
    | _=>False
  | .loop body, A, Ss, inner, K => match A, inner with
    | .loop k0 live B,S::inner=>cnd (Nat.beq k0 k) (W τ σ cl n src body B (S::Ss) (live.zip vals) h (thenK (fun Γ' h'=>jump live Γ' h' S) K)) (ptW τ σ cl n src k vals h body B (S::Ss) inner (thenK (fun Γ' h'=>jump live Γ' h' S) K))
    | _,_=>False
  | _,_,_,_,_=>False
def depth (k:Nat):Ann→Nat
  | .seq a b=>bif memN k (pts a) then depth k a else depth k b
  | .join k0 _ a b=>bif Nat.beq k0 k then 0 else bif memN k (pts a) then depth k a else depth k b
  | .cond a b=>bif memN k (pts a) then depth k a else depth k b
  | .block a=>depth k a
  | .loop k0 _ b=>bif Nat.beq k0 k then 1 else depth k b+1
  | _=>0
def once:List Nat→Bool
  | []=>true
  | k::r=> !memN k r && once r
def Obl (τ:Tys) (σ cl:Specs) (n:Nat) (src:Src) (c:Code) (A:Ann) (Ss:List LoopS) (K:Kont):Prop:=
  ∀ k ∈ pts A,∀ inner:List LoopS,inner.length=depth k A→ ∀ vals h,src k (inner.reverse++Ss) vals h→ptW τ σ cl n src k vals h c A Ss inner K
def dp (w0:World) (n:Nat) (K:Kont):Exit→Act→World→Prop:=fun e a w=>match e with
  | .panic _=>False
  | .outgrown=>False
  | .goto _=>False
  | e=> ∃ Γ,Fits n Γ a∧Same w0 w∧K e Γ w.heap
def Sd (P:Program) (w0:World) (n:Nat) (c:Code) (Γ:Env) (h:Hp) (K:Kont):Prop:=
  ∀ a w,Fits n Γ a→w.heap=h→Same w0 w→c.wp P (dp w0 n K) a w
theorem fits_zip {n:Nat} {live:List Nat} {Γ:Env} {a:Act} (hf:Fits n Γ a) (hl:live.all (fun s=>(Env.find Γ s).isSome)=true):Fits n (live.zip (lives live Γ)) a:=by
  refine ⟨hf.1,hf.2.1, ?_⟩
  induction live with
  | nil=>intro t v h; simp [lives,Env.find] at h
  | cons s l ih =>
    simp only [List.all_cons,Bool.and_eq_true] at hl
    obtain ⟨u,hu⟩:=Option.isSome_iff_exists.1 hl.1
    intro t v h
    simp only [lives,List.map_cons,List.zip_cons_cons,Env.find,hu,Option.getD_some] at h
    cases hb:Nat.beq s t with
    | true =>
      rw [hb] at h; simp at h; subst h
      have:s=t:=by simpa using hb
      subst this; exact hf.2.2 _ _ hu
    | false=>rw [hb] at h; exact ih hl.2 t v h
theorem dp_mono {w0:World} {n:Nat} {K K':Kont} (hK: ∀ e Γ h,K e Γ h→K' e Γ h) {e:Exit} {a:Act} {w:World} (h:dp w0 n K e a w):dp w0 n K' e a w:=by
  cases e <;> first
    | exact h.elim
    | (obtain ⟨Γ,h1,h2,h3⟩:=h; exact ⟨Γ,h1,h2,hK _ _ _ h3⟩)
theorem once_append {a b:List Nat} (h:once (a++b)=true):once a=true∧once b=true∧ ∀ k,k ∈ a→k ∉ b:=by
  induction a with
  | nil=>exact ⟨rfl,h,fun k hk=>by cases hk⟩
  | cons x a ih =>
    simp only [List.cons_append,once,Bool.and_eq_true,Bool.not_eq_true'] at h
    obtain ⟨h1,h2⟩:=h
    obtain ⟨i1,i2,i3⟩:=ih h2
    have hx:x ∉ a++b:=fun hm=>by rw [← memN_iff,h1] at hm; cases hm
    refine ⟨?_,i2,fun k hk=> ?_⟩
    · simp only [once, Bool.and_eq_true, Bool.not_eq_true']
      refine ⟨?_,i1⟩
      cases hm:memN x a with
      | false=>rfl
      | true=>exact absurd (List.mem_append_left b (memN_iff.1 hm)) hx
    · rcases List.mem_cons.1 hk with rfl | hk
      · exact fun hb=>hx (List.mem_append_right _ hb)
      · exact i3 k hk
theorem memN_false {k:Nat} {l:List Nat} (h:k ∉ l):memN k l=false:=by
  cases hm:memN k l with
  | false=>rfl
  | true=>exact absurd (memN_iff.1 hm) h
theorem jump_elim {live:List Nat} {Γ:Env} {h:Hp} {R:LoopS} (H:jump live Γ h R):live.all (fun s=>(Env.find Γ s).isSome)=true∧R (lives live Γ) h:=by
  unfold jump at H
  cases hl:live.all (fun s=>(Env.find Γ s).isSome) with
  | false=>rw [hl] at H; exact H.elim
  | true=>rw [hl] at H; exact ⟨rfl,H⟩
theorem sd_then {P:Program} {w0:World} {n:Nat} {a b:Code} {Γ:Env} {h:Hp} {K:Kont} {next:Env→Hp→Prop} (ha:Sd P w0 n a Γ h (thenK next K))
    (hb: ∀ Γ' a' w',Fits n Γ' a'→Same w0 w'→next Γ' w'.heap→b.wp P (dp w0 n K) a' w'):Sd P w0 n (.seq a b) Γ h K:=by
  intro f w hf hw hs
  refine wp_seq (wp_mono (ha f w hf hw hs) fun e a' w' he=> ?_)
  cases e with
  | normal=>obtain ⟨Γ',h1,h2,h3⟩:=he; exact hb Γ' a' w' h1 h2 h3
  | _=>exact he
def AtHead (P:Program) (body:Code) (Q:Exit→Act→World→Prop) (a:Act) (w:World):Prop:=
  ∀ (b:Frame) (k:List Item) (cs:List Frame),∃ e a' w',Q e a' w'∧Arrives P (lone (b.at a (.code body:: .inLoop body::k)) cs w) b k cs e a' w'
theorem wp_of_head {P:Program} {body:Code} {Q:Exit→Act→World→Prop} {a:Act} {w:World} (h:AtHead P body Q a w):(Code.loop body).wp P Q a w:=
  fun b k cs=>let ⟨e,a',w',q,r⟩:=h b k cs; ⟨e,a',w',q, .of_steps (.one step_loop) r⟩
theorem head_of_wp {P:Program} {body:Code} {Q:Exit→Act→World→Prop} {a:Act} {w:World} (h:body.wp P (Exit.then (AtHead P body Q) Q) a w):AtHead P body Q a w:=by
  intro b k cs
  obtain ⟨e,a₁,w₁,hq,harr⟩:=h b (.inLoop body::k) cs
  cases e with
  | normal =>
    obtain ⟨e₂,a₂,w₂,hq₂,harr₂⟩:=hq b k cs
    exact ⟨e₂,a₂,w₂,hq₂, .of_steps (Steps.trans harr (.one step_inLoop)) harr₂⟩
  | exit id=>exact ⟨_,a₁,w₁,hq, .pass (x:= .inLoop body) rfl (fun _ _=> .inl (by simp)) harr⟩
  | goto l=>exact ⟨_,a₁,w₁,hq, .pass (x:= .inLoop body) rfl (fun _ _=> .inl (by simp)) harr⟩
  | ret=>exact ⟨_,a₁,w₁,hq, .pass (x:= .inLoop body) rfl (fun _ _=> .inl (by simp)) harr⟩
  | panic ch=>exact ⟨_,a₁,w₁,hq, .pass (x:= .inLoop body) rfl (fun _ _=> .inl (by simp)) harr⟩
  | outgrown=>exact ⟨_,a₁,w₁,hq, .pass (x:= .inLoop body) rfl (fun _ _=> .inl (by simp)) harr⟩
theorem W_sound {src : Src} {w0 : World} {n : Nat} (hA : Agree P τ) (hσ : SpecsOk P σ) (hcl : SpecsOk P cl) (hm : P.follows .mixedOrders = true) :
    ∀ (c:Code) (A:Ann) (Ss:List LoopS) (K:Kont),once (pts A)=true→Obl τ σ cl n src c A Ss K→ ∀ Γ h,W τ σ cl n src c A Ss Γ h K→Sd P w0 n c Γ h K:=by
  intro c
  induction c with
  | skip=>intro A Ss K _ _ Γ h H f w hf hw hs; subst hw; exact wp_skip ⟨Γ,hf,hs,H⟩
  | exit id=>intro A Ss K _ _ Γ h H f w hf hw hs; subst hw; exact wp_exit ⟨Γ,hf,hs,H⟩
  | ret=>intro A Ss K _ _ Γ h H f w hf hw hs; subst hw; exact wp_ret ⟨Γ,hf,hs,H⟩
  | region id ops draw =>
    intro A Ss K _ _ Γ h H f w hf hw hs
    subst hw
    cases draw with
    | false =>
      refine wp_region_list ?_
      have:=WSeq_sound (P:=P) (Q:=dp w0 n K) hA hσ hcl hf (fun Γ' a' w' h1 h2 h3=>⟨Γ',h1,hs.trans h2,h3⟩) (by simpa only [W] using H)
      simpa using this
    | true =>
      cases A with
      | plan p =>
        simp only [W] at H
        cases hok:(Region.noSelect ops && shutP p && planOk ops p ops.size (Array.replicate ops.size false) []) with
        | false=>rw [hok] at H; exact H.elim
        | true =>
          rw [hok] at H; simp only [cond_true,cnd] at H
          simp only [Bool.and_eq_true] at hok
          refine wp_region_any hm (wpAny_of_G (S:=SF []) _ _ _ _ ?_)
          have hcl0:Cl ops (Array.replicate ops.size false):=fun x ox _ hl=>by
            exfalso
            rcases Nat.lt_or_ge x ops.size with hx | hx
            · simp [hx] at hl
            · simp [Nat.not_lt.2 hx] at hl
          have:=(WPl_sound (P:=P) (Q:=dp w0 n K) (ops:=ops.toList) hA hσ hcl (by simpa using hok.1.1) (fun c a w h=>h) (w0:=w0)
            (fun Γ' a' w' h1 h2 h3=>⟨Γ',h1,h2,h3⟩) p (F:=[]) (a:=f) (w:= {w with drawn:=w.drawn+1}) (fuel:=ops.size) (l:=Array.replicate ops.size false) (Ds:=[])
            hf (hs.trans ⟨rfl,rfl,rfl⟩) (by simpa using hcl0) (fun q hq=>by cases hq) (by simpa using hok.2) (fun q hq=>by cases hq) H).1 hok.1.2
          simpa using this
      | _=>simp only [W] at H
  | seq a b iha ihb =>
    intro A Ss K ho hO Γ h H
    cases A with
    | seq A B =>
      simp only [W] at H
      obtain ⟨o1,o2,o3⟩:=once_append ho
      refine sd_then (iha A Ss _ o1 ?_ Γ h H) fun Γ' a' w' h1 h2 h3=>ihb B Ss K o2 ?_ Γ' _ h3 a' w' h1 rfl h2
      · intro k hk inner hin vals h hsrc
        have:=hO k (List.mem_append_left _ hk) inner (by simp only [depth,memN_iff.2 hk,cond_true,cnd]; exact hin) vals h hsrc
        simpa only [ptW,memN_iff.2 hk,cond_true,cnd] using this
      · intro k hk inner hin vals h hsrc
        have hnk:memN k (pts A)=false:=memN_false fun hka=>o3 k hka hk
        have:=hO k (List.mem_append_right _ hk) inner (by simp only [depth,hnk,cond_false,cnd]; exact hin) vals h hsrc
        simpa only [ptW,hnk,cond_false,cnd] using this
    | join k0 live A B =>
      simp only [W] at H
      simp only [pts,once,Bool.and_eq_true,Bool.not_eq_true'] at ho
      obtain ⟨hk0,ho⟩:=ho
      obtain ⟨o1,o2,o3⟩:=once_append ho
      have hk0' : ∀ k, k ∈ pts A ++ pts B → Nat.beq k0 k = false := fun k hk => by
        cases hb:Nat.beq k0 k with
        | false=>rfl
        | true => have e : k0 = k := by simpa using hb
                  subst e; rw [memN_iff.2 hk] at hk0; cases hk0
      have hOb:Obl τ σ cl n src b B Ss K:=by
        intro k hk inner hin vals h hsrc
        have hnk:memN k (pts A)=false:=memN_false fun hka=>o3 k hka hk
        have hb:=hk0' k (List.mem_append_right _ hk)
        have:=hO k (List.mem_cons_of_mem _ (List.mem_append_right _ hk)) inner (by simp only [depth,hb,hnk,cond_false,cnd]; exact hin) vals h hsrc
        simpa only [ptW,hb,hnk,cond_false,cnd] using this
      refine sd_then (iha A Ss _ o1 ?_ Γ h H) fun Γ' a' w' h1 h2 h3=> ?_
      · intro k hk inner hin vals h hsrc
        have hb:=hk0' k (List.mem_append_left _ hk)
        have:=hO k (List.mem_cons_of_mem _ (List.mem_append_left _ hk)) inner (by simp only [depth,hb,memN_iff.2 hk,cond_true,cond_false,cnd]; exact hin) vals h hsrc
        simpa only [ptW,hb,memN_iff.2 hk,cond_true,cond_false,cnd] using this
      · obtain ⟨j1, j2⟩ := jump_elim h3
        have hbb:Nat.beq k0 k0=true:=by simp
        have:=hO k0 List.mem_cons_self [] (by simp only [depth,hbb,cond_true,cnd]; rfl) _ _ j2
        simp only [ptW,hbb,cond_true,cnd] at this
        exact ihb B Ss K o2 hOb _ _ this a' w' (fits_zip h1 j1) rfl h2
    | _=>simp only [W] at H
  | cond c x y ihx ihy =>
    intro A Ss K ho hO Γ h H f w hf hw hs
    cases A with
    | cond A B =>
      simp only [W] at H
      obtain ⟨o1,o2,o3⟩:=once_append ho
      cases hp:present Γ c with
      | false=>rw [hp] at H; exact H.elim
      | true =>
        rw [hp] at H; simp only [cond_true,cnd] at H
        split at H
        case h_2=>exact H.elim
        rename_i b hb
        have he:f.eval c= .bool b:=by rw [hf.eval hp,hb]
        have hOx:Obl τ σ cl n src x A Ss K:=fun k hk inner hin vals h hsrc=>by
          have:=hO k (List.mem_append_left _ hk) inner (by simp only [depth,memN_iff.2 hk,cond_true,cnd]; exact hin) vals h hsrc
          simpa only [ptW,memN_iff.2 hk,cond_true,cnd] using this
        have hOy:Obl τ σ cl n src y B Ss K:=fun k hk inner hin vals h hsrc=>by
          have hnk:memN k (pts A)=false:=memN_false fun hka=>o3 k hka hk
          have:=hO k (List.mem_append_right _ hk) inner (by simp only [depth,hnk,cond_false,cnd]; exact hin) vals h hsrc
          simpa only [ptW,hnk,cond_false,cnd] using this
        cases b with
        | true=>exact wp_cond_true he (ihx A Ss K o1 hOx Γ h H f w hf hw hs)
        | false=>exact wp_cond_false he (ihy B Ss K o2 hOy Γ h H f w hf hw hs)
    | _=>simp only [W] at H
  | block id c ih =>
    intro A Ss K ho hO Γ h H f w hf hw hs
    cases A with
    | block A =>
      simp only [W] at H
      refine wp_block (wp_mono (ih A Ss _ ho (fun k hk inner hin vals h hsrc=>by
        have:=hO k hk inner (by simp only [depth]; exact hin) vals h hsrc
        simpa only [ptW] using this) Γ h H f w hf hw hs) fun e a' w' he=> ?_)
      cases e with
      | exit id' =>
        obtain ⟨Γ',h1,h2,h3⟩:=he
        simp only [blockK] at h3
        simp only [Exit.inBlock]
        by_cases hid:id'=id
        · subst hid
          rw [if_pos rfl]
          simp at h3
          exact ⟨Γ',h1,h2,h3⟩
        · rw [if_neg hid]
          have:Nat.beq id' id=false:=by cases hb:Nat.beq id' id with
            | false=>rfl
            | true=>exact absurd (by simpa using hb) hid
          rw [this] at h3
          exact ⟨Γ',h1,h2,h3⟩
      | _=>exact he
    | _=>simp only [W] at H
  | loop body ih =>
    intro A Ss K ho hO Γ h H f w hf hw hs
    cases A with
    | loop k0 live B =>
      simp only [W] at H
      simp only [pts,once,Bool.and_eq_true,Bool.not_eq_true'] at ho
      obtain ⟨hk0,ho⟩:=ho
      obtain ⟨j1,j2⟩:=jump_elim H
      have hbb:Nat.beq k0 k0=true:=by simp
      have := j2 (fun vals h => ∀ a w, Fits n (live.zip vals) a → w.heap = h → Same w0 w → AtHead P body (dp w0 n K) a w) (by
        rintro vals h ⟨S,hS,hsrc⟩ a w hf hw hs
        have h1:=hO k0 List.mem_cons_self [S] (by simp only [depth,hbb,cond_true,cnd]; rfl) vals h (by simpa using hsrc)
        simp only [ptW,hbb,cond_true,cnd] at h1
        have hOb:Obl τ σ cl n src body B (S::Ss) (thenK (fun Γ' h'=>jump live Γ' h' S) K):=by
          intro k hk inner hin vals h hsrc
          have hb:Nat.beq k0 k=false:=by
            cases hb:Nat.beq k0 k with
            | false=>rfl
            | true => have e : k0 = k := by simpa using hb
                      subst e; rw [memN_iff.2 hk] at hk0; cases hk0
          have:=hO k (List.mem_cons_of_mem _ hk) (S::inner) (by simp only [depth,hb,cond_false,cnd,List.length_cons,hin]) vals h (by simpa using hsrc)
          simpa only [ptW,hb,cond_false,cnd] using this
        refine head_of_wp (wp_mono (ih B (S::Ss) _ ho hOb _ _ h1 a w hf hw hs) fun e a' w' he=> ?_)
        cases e with
        | normal =>
          obtain ⟨Γ',g1,g2,g3⟩:=he
          obtain ⟨j1,j2⟩:=jump_elim g3
          exact hS _ _ j2 a' w' (fits_zip g1 j1) rfl g2
        | _=>exact he)
      exact wp_of_head (this f w (fits_zip hf j1) hw hs)
    | _=>simp only [W] at H
  | _=>intro A Ss K _ _ Γ h H; simp only [W] at H
end Go.Wc
