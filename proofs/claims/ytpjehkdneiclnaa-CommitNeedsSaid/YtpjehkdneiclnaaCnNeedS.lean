import Derived.Test.YtpjehkdneiclnaaCnShapeN
set_option linter.unusedSimpArgs false
set_option linter.unusedVariables false
namespace Go.Pt
open Go Go.Wc Go.Pu
def met1 (h:HS) (L:List (Int × Bool)) (p:Int):List (Int × Bool):=(pathR h p).tail.foldl (fun L x=>Pu.upd L x true) L
def metS (h:HS) (ps:List Int):List (Int × Bool):=ps.foldl (met1 h) []
def needS (h:HS) (ps:List Int):List Int:=((List.range (h.Level.length - h.P.toNat)).map fun i:Nat=>h.P+(i:Int)).filter fun it=>ps.any fun p=>decide (it ∈ pathR h p)
theorem fold_keys (xs : List Int) : ∀ (L : List (Int × Bool)), (L.map (·.1)).Nodup → ((xs.foldl (fun L x => Pu.upd L x true) L).map (·.1)).Nodup ∧ ∀ k, k ∈ (xs.foldl (fun L x => Pu.upd L x true) L).map (·.1) ↔ k ∈ L.map (·.1) ∨ k ∈ xs := by
  induction xs with
  | nil=>intro L h; exact ⟨h,fun k=>by simp⟩
  | cons x xs ih =>
    intro L h
    have h2:=ih (Pu.upd L x true) (nodup_upd h x true)
    refine ⟨h2.1,fun k=> ?_⟩
    rw [List.foldl_cons,h2.2 k,Pu.keys_upd]
    split
    · rename_i hm
      constructor
      · rintro (h3 | h3)
        · exact .inl h3
        · exact .inr (by simp [h3])
      · rintro (h3 | h3)
        · exact .inl h3
        · rcases List.mem_cons.1 h3 with rfl | h3
          · exact .inl hm
          · exact .inr h3
    · simp only [List.mem_append, List.mem_cons, List.not_mem_nil, or_false]
      exact or_assoc
theorem met_keys (h:HS) (ps:List Int): ∀ (L:List (Int × Bool)),(L.map (·.1)).Nodup→((ps.foldl (met1 h) L).map (·.1)).Nodup∧ ∀ k,k ∈ (ps.foldl (met1 h) L).map (·.1)↔k ∈ L.map (·.1)∨ ∃ p ∈ ps,k ∈ (pathR h p).tail:=by
  induction ps with
  | nil=>intro L h; exact ⟨h,fun k=>by simp⟩
  | cons p ps ih =>
    intro L hn
    have h1:=fold_keys (pathR h p).tail L hn
    have h2:=ih (met1 h L p) h1.1
    refine ⟨h2.1,fun k=> ?_⟩
    rw [List.foldl_cons,h2.2 k]
    unfold met1
    rw [h1.2 k]
    simp only [List.mem_cons,exists_eq_or_imp]
    exact or_assoc
variable {n:Int}
theorem needS_rng {h:HS} {ps:List Int} {x:Int} (hx:x ∈ needS h ps):h.P≤x∧(0≤h.P→x<(h.Level.length:Int)):=by
  unfold needS at hx
  obtain ⟨h1,_⟩:=List.mem_filter.1 hx
  obtain ⟨i,hi,rfl⟩:=List.mem_map.1 h1
  have:=List.mem_range.1 hi
  omega
theorem needS_sorted (h:HS) (ps:List Int):(needS h ps).Pairwise fun x y=>x<y:=by
  unfold needS
  refine List.Pairwise.filter _ ?_
  rw [List.pairwise_map]
  refine List.pairwise_lt_range.imp ?_
  intro a b hab; omega
theorem needS_len (h:HS) (ps:List Int):(needS h ps).length≤h.Level.length:=by
  unfold needS
  refine Nat.le_trans (List.length_filter_le _ _) ?_
  rw [List.length_map,List.length_range]
  omega
theorem NOk.perm (N:NOk n) (ps:List Int):((metS (hOf n) ps).map (·.1)).Perm (needS (hOf n) ps):=by
  have h1:=met_keys (hOf n) ps [] (by simp)
  refine (List.perm_ext_iff_of_nodup h1.1 ((needS_sorted _ ps).imp fun h=>by omega)).2 fun k=> ?_
  rw [h1.2 k]
  unfold needS
  simp only [List.map_nil,List.not_mem_nil,false_or,List.mem_filter,List.mem_map,List.mem_range,List.any_eq_true,decide_eq_true_eq]
  have hP:=N.P
  have hr:=N.rng
  constructor
  · rintro ⟨p, hp, hk⟩
    have h2:=N.up p k hk
    exact ⟨⟨(k - (hOf n).P).toNat,by omega,by omega⟩,p,hp,(N.mem_path p k h2.1).2 hk⟩
  · rintro ⟨⟨i, hi, rfl⟩, p, hp, hk⟩
    exact ⟨p,hp,(N.mem_path p _ (by omega)).1 hk⟩
theorem perm_srt {l m:List Int} (h:l.Perm m):l.mergeSort (fun x y=>decide (x≤y))=m.mergeSort (fun x y=>decide (x≤y)):=by
  have tr: ∀ a b c:Int,decide (a≤b)=true→decide (b≤c)=true→decide (a≤c)=true:=by intro a b c; simp; omega
  have to: ∀ a b:Int,(decide (a≤b) || decide (b≤a))=true:=by intro a b; simp; omega
  refine List.Perm.eq_of_pairwise (le:=fun x y:Int=>x≤y) (fun a b _ _ h1 h2=>Int.le_antisymm h1 h2) ?_ ?_ (((List.mergeSort_perm l _).trans h).trans (List.mergeSort_perm m _).symm)
  · exact (List.pairwise_mergeSort tr to l).imp fun h=>by simpa using h
  · exact (List.pairwise_mergeSort tr to m).imp fun h=>by simpa using h
theorem NOk.sorted (N:NOk n) (ps:List Int):sortK (some (metS (hOf n) ps))=needS (hOf n) ps:=by
  show ((metS (hOf n) ps).map (·.1)).mergeSort _=_
  rw [perm_srt (N.perm ps)]
  refine List.mergeSort_of_pairwise ?_
  exact (needS_sorted _ ps).imp fun h=>by simp; omega
theorem ugo_len (h:HS): ∀ (f:Nat) (out:List Int),(ugo h f out).length≤out.length+f
  | 0,out=>by simp [ugo]
  | f + 1, out => by
    simp only [ugo]
    split
    · have := ugo_len h f (out ++ [(parentR h (out.getLastD 0)).1])
      simp only [List.length_append,List.length_cons,List.length_nil] at this; omega
    · omega
theorem pathR_len (h:HS) (p:Int):(pathR h p).length≤11:=by
  unfold pathR
  split
  · simp
  · have:=ugo_len h 10 [p]; simpa using this
theorem need_spec (N : NOk n) {ps : List Int} (hps : ps.length ≤ 100000) {Q : commit_Need.QT} (H : Q (needS (hOf n) ps)) : commit_Need ⟨newB n⟩ ps Q := by
  unfold commit_Need
  have key: ∀ j (c:commit_Need.V) (i:Nat),i+j=ps.length→c.s2=⟨newB n⟩→c.met5=some ((ps.take i).foldl (met1 (hOf n)) [])→c.v11=ps→c.v12=(ps.length:Int)→c.v13=(i:Int)→commit_Need.L1 Q c:=by
    intro j
    induction j with
    | zero =>
      rintro ⟨s2,met5,v11,v12,v13,v19,v20,v21⟩ i e e1 e2 e3 e4 e5
      dsimp only at e1 e2 e3 e4 e5
      subst e1 e2 e3 e4 e5
      refine commit_Need.L1_in ?_
      unfold commit_Need.B1; dsimp only
      rw [dge (by omega),br_false]
      rw [List.take_of_length_le (by omega)]
      refine ⟨⟨?_, ?_⟩, ?_⟩
      · show (metS (hOf n) v11).length ≤ _
        have h1:=(N.perm v11).length_eq
        have h2:=needS_len (hOf n) v11
        have h3:=N.wh.small
        rw [List.length_map] at h1
        omega
      · intro x hx
        have hx:x ∈ (metS (hOf n) v11).map (·.1):=hx
        have h1:=needS_rng ((N.perm v11).mem_iff.1 hx)
        have h3:=N.wh.small
        have h4:=N.P
        have h5:=N.rng
        have:IntKind.min .i64≤0∧1000≤IntKind.max .i64:=by decide
        omega
      · rw [show sortK (some (v11.foldl (met1 (hOf n)) [])) = sortK (some (metS (hOf n) v11)) from rfl, N.sorted]
        exact H
    | succ j ih =>
      rintro ⟨s2,met5,v11,v12,v13,v19,v20,v21⟩ i e e1 e2 e3 e4 e5
      dsimp only at e1 e2 e3 e4 e5
      subst e1 e2 e3 e4 e5
      refine commit_Need.L1_in ?_
      unfold commit_Need.B1; dsimp only
      rw [dlt (by omega),br_true]
      refine ix_get (by omega) ?_
      refine path_spec (N.wb) ?_ ?_
      · rw [N.path]
      rw [N.path]
      dsimp only
      have hlen:=pathR_len (hOf n) v11[i]
      have:=loop_0 (B:=fun S=>commit_Need.B2 (commit_Need.L1 Q) S Q) (pathR (hOf n) v11[i]).length
        (fun k=>({s2:=⟨newB n⟩,met5:=some (((pathR (hOf n) v11[i]).take k).tail.foldl (fun L x=>Pu.upd L x true) ((v11.take i).foldl (met1 (hOf n)) [])),v11:=v11,v12:=(v11.length:Int),v13:=(i:Int),v19:=pathR (hOf n) v11[i],v20:=((pathR (hOf n) v11[i]).length:Int),v21:=(k:Int)}:commit_Need.V)) ?_ ?_
      · exact this
      · intro k S hk hS
        unfold commit_Need.B2; dsimp only
        rw [dlt hk,br_true]
        refine ix_get hk ?_
        by_cases h0:k=0
        · subst h0
          rw [decide_eq_false (by omega),br_false]
          unfold commit_Need.K3; dsimp only
          rw [wadd1 (by omega)]
          rw [take_snoc hk] at hS
          exact hS
        · rw [decide_eq_true (by omega), br_true]
          refine ⟨_,rfl, ?_⟩
          unfold commit_Need.K3; dsimp only
          rw [wadd1 (by omega)]
          rw [take_snoc hk,List.tail_append_of_ne_nil (by intro hh; have h9:=List.length_take (i:=k) (l:=pathR (hOf n) v11[i]); rw [hh] at h9; simp only [List.length_nil] at h9; omega),List.foldl_append] at hS
          exact hS
      · intro S
        unfold commit_Need.B2; dsimp only
        rw [dge (by omega),br_false,wadd1 (by omega)]
        refine ih _ (i+1) (by omega) rfl ?_ rfl rfl rfl
        dsimp only
        rw [List.take_of_length_le (Nat.le_refl _),take_snoc (by omega),List.foldl_append]
        rfl
  exact key ps.length _ 0 (by omega) rfl rfl rfl rfl rfl
theorem has16_spec {l:List Int} (hl:l.length≤100000) {x:Int} {Q:Bool→Prop} (H:Q (decide (x ∈ l))):carlingref16_has l x Q:=by
  unfold carlingref16_has
  have:=loop_n (B:=fun S=>carlingref16_has.B1 S Q) l.length
    (fun i=>({carlingref16_has.v0 with l0:=l,n1:=x,i5:=(i:Int)}:carlingref16_has.V)) (fun i=>x ∉ l.take i) ?_ ?_ 0 (Nat.zero_le _) (by simp)
  · exact this
  · intro i S hi hP hS
    unfold carlingref16_has.B1; dsimp only
    rw [dlt hi,br_true]
    refine ix_get hi ?_
    by_cases h:l[i]=x
    · rw [show (l[i] == x) = true by simpa using h, br_true]
      rw [decide_eq_true (by rw [← h]; exact List.getElem_mem _)] at H
      exact H
    · rw [show (l[i] == x) = false by simpa using h, br_false, wadd1 (by omega)]
      refine hS ?_
      rw [take_snoc hi]
      simp only [List.mem_append,List.mem_cons,List.not_mem_nil,or_false,not_or]
      exact ⟨hP,fun e=>h e.symm⟩
  · intro S hP
    unfold carlingref16_has.B1; dsimp only
    rw [dge (by omega),br_false]
    rw [List.take_of_length_le (Nat.le_refl _)] at hP
    rw [decide_eq_false hP] at H
    exact H
theorem needR_spec (N : NOk n) {ps : List Int} (hps : ps.length ≤ 100000) {Q : carlingref16_Need.QT} (H : Q (needS (hOf n) ps)) : carlingref16_Need (hOf n) ps Q := by
  unfold carlingref16_Need
  have hP:=N.P
  have hr:=N.rng
  have hs:=N.wh.small
  have hpos:=N.pos
  let out:=fun i:Nat=>((List.range i).map fun i:Nat=>n+(i:Int)).filter fun it=>ps.any fun p=>decide (it ∈ pathR (hOf n) p)
  have hout: ∀ i,(out i).length≤i:=by
    intro i
    refine Nat.le_trans (List.length_filter_le _ _) ?_
    rw [List.length_map,List.length_range]; omega
  have hsn: ∀ i:Nat,out (i+1)=out i++(if (ps.any fun p=>decide ((n+(i:Int)) ∈ pathR (hOf n) p)) then [n+(i:Int)] else []):=by
    intro i
    show List.filter _ _=_
    rw [List.range_succ,List.map_append,List.filter_append]
    simp only [List.map_cons,List.map_nil,List.filter_cons,List.filter_nil]
    rfl
  have key: ∀ j (i:Nat) (c:carlingref16_Need.V),i+j=(hOf n).Level.length - n.toNat→c.pages1=ps→c.s2=hOf n→c.out5=out i→c.item6=n+(i:Int)→carlingref16_Need.L1 Q c:=by
    intro j
    induction j with
    | zero =>
      rintro i ⟨pages1,s2,out5,item6,i7⟩ e e1 e2 e3 e4
      dsimp only at e1 e2 e3 e4
      subst e1 e2 e3 e4
      refine carlingref16_Need.L1_in ?_
      unfold carlingref16_Need.B1; dsimp only
      rw [decide_eq_false (by omega),br_false]
      unfold needS at H
      rw [hP,← show i=(hOf n).Level.length - n.toNat by omega] at H
      exact H
    | succ j ih =>
      rintro i ⟨pages1,s2,out5,item6,i7⟩ e e1 e2 e3 e4
      dsimp only at e1 e2 e3 e4
      subst e1 e2 e3 e4
      refine carlingref16_Need.L1_in ?_
      unfold carlingref16_Need.B1; dsimp only
      rw [decide_eq_true (by omega),br_true]
      have:=loop_n (B:=fun S=>carlingref16_Need.B2 (carlingref16_Need.L1 Q) S Q) pages1.length
        (fun k=>({pages1:=pages1,s2:=hOf n,out5:=out i,item6:=n+(i:Int),i7:=(k:Int)}:carlingref16_Need.V)) (fun k=> ∀ p ∈ pages1.take k,(n+(i:Int)) ∉ pathR (hOf n) p) ?_ ?_ 0 (Nat.zero_le _) (by simp)
      · exact this
      · intro k S hk hP' hS
        unfold carlingref16_Need.B2; dsimp only
        rw [dlt hk,br_true]
        refine ix_get hk ?_
        refine pathR_spec N.wh ?_
        refine has16_spec (by have:=pathR_len (hOf n) pages1[k]; omega) ?_
        by_cases h:(n+(i:Int)) ∈ pathR (hOf n) pages1[k]
        · rw [decide_eq_true h, br_true]
          refine ⟨bnd_le (by have:=hout i; simp; omega), ?_⟩
          unfold carlingref16_Need.K3; dsimp only
          rw [wrap64 (n:=n+(i:Int)+1) (by omega) (by omega)]
          refine ih (i+1) _ (by omega) rfl rfl ?_ (by dsimp only; omega)
          dsimp only
          rw [hsn i,if_pos (List.any_eq_true.2 ⟨_,List.getElem_mem hk,decide_eq_true h⟩)]
        · rw [decide_eq_false h, br_false, wadd1 (by omega)]
          refine hS ?_
          intro p hp
          rw [take_snoc hk] at hp
          rcases List.mem_append.1 hp with h1 | h1
          · exact hP' p h1
          · rw [List.mem_singleton.1 h1]; exact h
      · intro S hP'
        unfold carlingref16_Need.B2; dsimp only
        rw [dge (by omega),br_false]
        unfold carlingref16_Need.K3; dsimp only
        rw [wrap64 (n:=n+(i:Int)+1) (by omega) (by omega)]
        refine ih (i+1) _ (by omega) rfl rfl ?_ (by dsimp only; omega)
        dsimp only
        rw [hsn i,if_neg,List.append_nil]
        rw [List.take_of_length_le (Nat.le_refl _)] at hP'
        rw [List.any_eq_true]
        rintro ⟨p,hp,h⟩
        exact hP' p hp (by simpa using h)
  refine key ((hOf n).Level.length - n.toNat) 0 _ (by omega) rfl rfl rfl ?_
  dsimp only; omega
end Go.Pt
