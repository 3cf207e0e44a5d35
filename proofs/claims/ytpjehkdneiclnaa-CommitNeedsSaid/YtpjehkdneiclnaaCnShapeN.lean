import Derived.Test.YtpjehkdneiclnaaCnShapeR
set_option linter.unusedSimpArgs false
set_option linter.unusedVariables false
namespace Go.Pt
open Go Go.Wc Go.Pu
def firsts (from_:Int) (k:Nat):List Int:=(List.range k).map fun i:Nat=>from_+6*(i:Int)
def lvR (P : Int) : Nat → Int → Int → Int → List Int → List Int → Option HS
  | 0,_,_,_,_,_=>none
  | f + 1, level, from_, many, L, F =>
    if level=1∨many>1 then lvR P f (level+1) (from_+many) (up6 many) (L++List.replicate (up6 many).toNat level) (F++firsts from_ (up6 many).toNat)
    else some ⟨P,L,F⟩
def newR (n:Int):Option HS:=lvR n 6 1 0 n (List.replicate n.toNat 0) (List.replicate n.toNat (-1))
theorem firsts_snoc (a:Int) (k:Nat):firsts a k++[a+6*(k:Int)]=firsts a (k+1):=by
  simp [firsts,List.range_succ]
theorem lvR_spec {Q : carlingref12_New.QT} : ∀ (f : Nat) (c : carlingref12_New.V) (h : HS), 1 ≤ c.many7 ∧ c.many7 ≤ 216 → 0 ≤ c.from6 ∧ c.from6 + 216 * (f : Int) ≤ 100000 → 1 ≤ c.level8 ∧ c.level8 + (f : Int) ≤ 1000 → c.s4.Level.length + 216 * f ≤ 100000 → c.s4.First.length + 216 * f ≤ 100000 →
    lvR c.s4.P f c.level8 c.from6 c.many7 c.s4.Level c.s4.First=some h→Q h 0→carlingref12_New.L3 Q c:=by
  intro f
  induction f with
  | zero=>intro c h _ _ _ _ _ e _; simp [lvR] at e
  | succ f ih =>
    intro c h hm hf hl hL hF e H
    refine carlingref12_New.L3_in ?_
    simp only [lvR] at e
    have go:(c.level8=1∨c.many7>1)→carlingref12_New.K4 (carlingref12_New.L3 Q) Q {c with v41:=true}:=by
      intro hgo
      rw [if_pos hgo] at e
      unfold carlingref12_New.K4
      rw [br_true]
      have hu:1≤up6 c.many7∧up6 c.many7≤36∧6*(up6 c.many7 - 1)<c.many7∧c.many7≤6*up6 c.many7:=by unfold up6; omega
      have:=loop_0 (B:=fun S=>carlingref12_New.B5 (carlingref12_New.L3 Q) S Q) (up6 c.many7).toNat
        (fun i=> {c with v41:=true,s4:=⟨c.s4.P,c.s4.Level++List.replicate i c.level8,c.s4.First++firsts c.from6 i⟩,n9:=(i:Int),k10:=6*(i:Int)}) ?_ ?_
      · have e0 : (⟨c.s4.P, c.s4.Level ++ List.replicate 0 c.level8, c.s4.First ++ firsts c.from6 0⟩ : HS) = c.s4 := by simp [firsts]
        rw [e0] at this
        exact this
      · intro i S hi hS
        unfold carlingref12_New.B5
        dsimp only
        rw [decide_eq_true (by omega),br_true]
        refine ⟨bnd_le (by simp; omega),bnd_le (by simp [firsts]; omega), ?_⟩
        rw [wrap64 (n:=c.from6+6*(i:Int)) (by omega) (by omega),wrap64 (n:=6*(i:Int)+6) (by omega) (by omega),wadd1 (by omega),List.append_assoc,List.append_assoc,firsts_snoc]
        have e1:List.replicate i c.level8++[c.level8]=List.replicate (i+1) c.level8:=by rw [List.replicate_succ']
        have e2:6*(i:Int)+6=6*((i+1:Nat):Int):=by omega
        rw [e1,e2]
        exact hS
      · intro S
        unfold carlingref12_New.B5
        dsimp only
        rw [decide_eq_false (by omega),br_false,wrap64 (n:=c.from6+c.many7) (by omega) (by omega),wrap64 (n:=c.level8+1) (by omega) (by omega)]
        refine ih _ h (by dsimp only; omega) (by dsimp only; omega) (by dsimp only; omega) (by simp; omega) (by simp [firsts]; omega) ?_ H
        dsimp only
        rw [show (((up6 c.many7).toNat:Nat):Int)=up6 c.many7 by omega]
        exact e
    unfold carlingref12_New.B3
    by_cases h1:c.level8=1
    · rw [show (c.level8 == 1) = true by rw [beq_iff_eq]; exact h1, br_true]
      exact go (.inl h1)
    · rw [show (c.level8 == 1) = false by rw [beq_eq_false_iff_ne]; exact h1, br_false]
      by_cases h2:c.many7>1
      · rw [decide_eq_true h2]; exact go (.inr h2)
      · rw [decide_eq_false h2]
        unfold carlingref12_New.K4
        rw [br_false]
        rw [if_neg (by omega)] at e
        cases e
        exact H
theorem newR_spec {n:Int} {h:HS} {Q:carlingref12_New.QT} (hn:1≤n∧n≤216) (e:newR n=some h) (H:Q h 0):carlingref12_New n Q:=by
  unfold carlingref12_New carlingref12_New.K1
  dsimp only
  rw [decide_eq_false (by omega),br_false,decide_eq_false (by omega),br_false]
  have:=loop_0 (B:=fun S=>carlingref12_New.B2 S Q) n.toNat (fun i=> {carlingref12_New.v0 with pages0:=n,v2:=⟨0,[],[]⟩,v16:=false,s4:=⟨n,List.replicate i 0,List.replicate i (-1)⟩,i5:=(i:Int)}) ?_ ?_
  · exact this
  · intro i S hi hS
    unfold carlingref12_New.B2
    dsimp only
    rw [decide_eq_true (by omega),br_true]
    refine ⟨bnd_le (by simp; omega),bnd_le (by simp; omega), ?_⟩
    rw [wadd1 (by omega),← List.replicate_succ',← List.replicate_succ']
    exact hS
  · intro S
    unfold carlingref12_New.B2
    dsimp only
    rw [decide_eq_false (by omega),br_false]
    refine lvR_spec 6 _ h (by dsimp only; omega) (by dsimp only; omega) (by dsimp only; omega) (by simp; omega) (by simp; omega) ?_ H
    exact e
def hOf (n:Int):HS:=(newR n).getD ⟨0,[],[]⟩
def okN (n : Int) : Bool :=
  let b:=newB n
  let h:=hOf n
  (newR n).isSome && decide (3≤b.length) && decide (b.length≤10) && b.all (fun x=>decide (0≤x) && decide (x≤1000) && decide (x≤itemsS b)) &&
  decide (h.Level.length=h.First.length) && decide (h.Level.length≤400) && h.Level.all (fun x=>decide (0≤x) && decide (x≤10)) && h.First.all (fun x=>decide (-1≤x) && decide (x≤400)) &&
  decide (h.P=n) && decide (pagesS b=n) && decide (itemsS b=h.Level.length) &&
  (List.range h.Level.length).all (fun i=>
    decide (kidsS b i=kidsR h i) && decide (parentS b i=parentR h i) && (pathS b i).2 && decide ((pathS b i).1=pathR h i) &&
    ((pathR h i).tail.all fun x=>decide (n≤x) && decide (x<(h.Level.length:Int))))
theorem okN_all:((List.range 14).all fun n=>okN ((n:Int)+1))=true:=by decide+kernel
structure NOk (n:Int):Prop where
  rng:1≤n∧n≤14
  new:newR n=some (hOf n)
  wb:WfB (newB n)
  top: ∀ x ∈ newB n,x≤itemsS (newB n)
  wh:WfH (hOf n)
  P:(hOf n).P=n
  pages:pagesS (newB n)=n
  items:itemsS (newB n)=(hOf n).Level.length
  kids0: ∀ i:Nat,i<(hOf n).Level.length→kidsS (newB n) i=kidsR (hOf n) i
  par0: ∀ i:Nat,i<(hOf n).Level.length→parentS (newB n) i=parentR (hOf n) i
  fin0: ∀ i:Nat,i<(hOf n).Level.length→(pathS (newB n) i).2=true
  path0: ∀ i:Nat,i<(hOf n).Level.length→(pathS (newB n) i).1=pathR (hOf n) i
  up0: ∀ i:Nat,i<(hOf n).Level.length→ ∀ x ∈ (pathR (hOf n) i).tail,n≤x∧x<((hOf n).Level.length:Int)
theorem nok {n:Int} (hn:1≤n∧n≤14):NOk n:=by
  have h:=List.all_eq_true.1 okN_all (n - 1).toNat (List.mem_range.2 (by omega))
  rw [show (((n - 1).toNat:Nat):Int)+1=n by omega] at h
  unfold okN at h
  dsimp only at h
  simp only [Bool.and_eq_true,decide_eq_true_eq,List.all_eq_true,List.mem_range] at h
  obtain ⟨⟨⟨⟨⟨⟨⟨⟨⟨⟨⟨h1,h2⟩,h3⟩,h4⟩,h5⟩,h6⟩,h7⟩,h8⟩,h9⟩,h10⟩,h11⟩,h12⟩:=h
  have hs:newR n=some (hOf n):=by
    unfold hOf
    cases e:newR n with
    | none=>rw [e] at h1; cases h1
    | some x=>rfl
  exact { rng := hn, new := hs, wb := ⟨⟨h2, h3⟩, fun x hx => (h4 x hx).1⟩, top := fun x hx => (h4 x hx).2, wh := ⟨h5, h6, h7, h8⟩, P := h9, pages := h10, items := h11,
          kids0:=fun i hi=>(h12 i hi).1.1.1.1,par0:=fun i hi=>(h12 i hi).1.1.1.2,fin0:=fun i hi=>(h12 i hi).1.1.2,path0:=fun i hi=>(h12 i hi).1.2,up0:=fun i hi x hx=>(h12 i hi).2 x hx}
theorem lvS_ge: ∀ (r:List Int) (k item:Int),(∀ x ∈ r,x≤item)→lvS r k item= -1
  | [],_,_,_=>rfl
  | x :: r, k, item, h => by
    simp only [lvS]
    rw [if_neg (by have:=h x (by simp); omega)]
    exact lvS_ge r (k+1) item fun y hy=>h y (by simp [hy])
variable {n:Int}
theorem NOk.out (N:NOk n) {item:Int} (h: ¬ (0≤item∧item<((hOf n).Level.length:Int))):levelS (newB n) item= -1:=by
  unfold levelS
  split
  · rfl
  · exact lvS_ge _ _ _ fun x hx=>by
      have h1:=N.top x (List.mem_of_mem_tail hx)
      have h2:=N.items
      omega
theorem NOk.kids (N:NOk n) (item:Int):kidsS (newB n) item=kidsR (hOf n) item:=by
  by_cases h:0≤item∧item<((hOf n).Level.length:Int)
  · have := N.kids0 item.toNat (by omega)
    rwa [show ((item.toNat:Nat):Int)=item by omega] at this
  · unfold kidsS kidsR
    dsimp only
    rw [N.out h,if_pos (by omega),if_pos (.inl (by unfold hasS; rw [Bool.and_eq_false_iff]; simp; omega))]
theorem NOk.level0 (N : NOk n) (p : Int) : levelS (newB n) p = 0 ↔ (0 ≤ p ∧ p < n) := by
  have hl:=N.wb.len
  have hp:=N.pages
  unfold levelS
  match e:newB n,hl with
  | a :: x :: r, hl =>
    rw [e] at hp
    have hx:x=n:=hp
    subst hx
    simp only [List.tail_cons,lvS]
    by_cases h0:p<0
    · rw [if_pos h0]; omega
    · rw [if_neg h0]
      by_cases h1:p<x
      · rw [if_pos h1]; omega
      · rw [if_neg h1]
        have:=lvS_rng r 1 p (by omega)
        simp only [Int.zero_add]
        omega
theorem NOk.pos (N:NOk n):n≤((hOf n).Level.length:Int):=by
  have h1:=N.items
  have h2:pagesS (newB n) ∈ newB n:=by
    have hl:=N.wb.len
    unfold pagesS
    rw [List.getD_eq_getElem?_getD,List.getElem?_eq_getElem (by omega)]
    exact List.getElem_mem _
  have h3:=N.top _ h2
  have h4:=N.pages
  omega
theorem NOk.path (N:NOk n) (p:Int):pathS (newB n) p=(pathR (hOf n) p,true):=by
  have hq:=N.pos
  by_cases h:0≤p∧p<n
  · have h1 := N.fin0 p.toNat (by omega)
    have h2:=N.path0 p.toNat (by omega)
    rw [show ((p.toNat:Nat):Int)=p by omega] at h1 h2
    exact Prod.ext h2 h1
  · unfold pathS pathR
    rw [if_neg (fun e=>h ((N.level0 p).1 e)),if_pos (by rw [N.P]; omega)]
theorem NOk.up (N:NOk n) (p:Int): ∀ x ∈ (pathR (hOf n) p).tail,n≤x∧x<((hOf n).Level.length:Int):=by
  have hq:=N.pos
  by_cases h:0≤p∧p<n
  · have h1 := N.up0 p.toNat (by omega)
    rw [show ((p.toNat:Nat):Int)=p by omega] at h1
    exact h1
  · unfold pathR
    rw [if_pos (by rw [N.P]; omega)]
    intro x hx; cases hx
theorem ugo_head (h:HS): ∀ (f:Nat) (out:List Int),out ≠ []→(ugo h f out).head? =out.head?
  | 0,out,_=>rfl
  | f + 1, out, hne => by
    simp only [ugo]
    split
    · rw [ugo_head h f _ (by simp)]
      cases out with
      | nil=>exact absurd rfl hne
      | cons a r=>rfl
    · rfl
theorem pathR_head (h:HS) (p:Int):pathR h p=[]∨ ∃ t,pathR h p=p::t:=by
  unfold pathR
  split
  · exact .inl rfl
  · have := ugo_head h 10 [p] (by simp)
    cases e:ugo h 10 [p] with
    | nil=>exact .inl rfl
    | cons a r=>rw [e] at this; simp at this; subst this; exact .inr ⟨r,rfl⟩
theorem NOk.mem_path (N : NOk n) (p item : Int) (hi : n ≤ item) : item ∈ pathR (hOf n) p ↔ item ∈ (pathR (hOf n) p).tail := by
  by_cases h:0≤p∧p<n
  · rcases pathR_head (hOf n) p with e | ⟨t, e⟩
    · rw [e]; simp
    · rw [e]
      simp only [List.mem_cons,List.tail_cons]
      constructor
      · rintro (rfl | h1)
        · omega
        · exact h1
      · exact .inr
  · have : pathR (hOf n) p = [] := by unfold pathR; rw [if_pos (by rw [N.P]; omega)]
    rw [this]; simp
end Go.Pt
