import Derived.Test.YtpjehkdneiclnaaCnMayS
set_option linter.unusedVariables false
set_option linter.unusedSimpArgs false
namespace Go.Pt
open Go Go.Wc Go.Pu
theorem ixl {l:List Int} {i:Int} {K:Int→Prop} (h0:0≤i) (h1:i<(l.length:Int)) (H: ∀ x,K x):ixP l i K:=ixP_eq i.toNat (by omega) (by omega) (H _)
theorem ixv {n:Nat} {v:Vector Int n} {i:Int} {K:Int→Prop} (h0:0≤i) (h1:i<(n:Int)) (H: ∀ x,K x):ixP v.toList i K:=ixl h0 (by rw [Vector.length_toList]; exact h1) H
theorem wpos (x:Int):0≤IntKind.wrap .u64 x:=by
  rw [show IntKind.wrap .u64 x=x % 18446744073709551616 from rfl]; omega
theorem rot_np {x k:Int} {Q:Int→Prop} (H: ∀ r,Q r):math_bits_RotateLeft32 x k Q:=⟨wpos _,wpos _,H _⟩
theorem turn_np {x k:Int} {Q:Int→Prop} (H: ∀ r,Q r):sha_Turn x k Q:=rot_np H
theorem q1_np {x y z b:Int} {w:Vector Int 4} {Q:Vector Int 4→Prop} (hx:0≤x∧x<4) (hy:0≤y∧y<4) (hz:0≤z∧z<4) (H: ∀ r,Q r):cipher_Quarter_1 x y z b w Q:=by
  unfold cipher_Quarter_1
  refine ixv hx.1 hx.2 fun _=>ixv hy.1 hy.2 fun _=>ixv hx.1 hx.2 fun _=>ixv hz.1 hz.2 fun _=>ixv hx.1 hx.2 fun _=>rot_np fun _=>ixv hz.1 hz.2 fun _=>H _
theorem quarter_np {w:Vector Int 4} {Q:Vector Int 4→Prop} (H: ∀ r,Q r):cipher_Quarter w Q:=
  q1_np (by decide) (by decide) (by decide) fun _=>q1_np (by decide) (by decide) (by decide) fun _=>q1_np (by decide) (by decide) (by decide) fun _=>q1_np (by decide) (by decide) (by decide) fun _=>H _
theorem block1_np {a b c d:Int} {w:Vector Int 16} {Q:cipher_Block_1.QT} (ha:0≤a∧a<16) (hb:0≤b∧b<16) (hc:0≤c∧c<16) (hd:0≤d∧d<16) (H: ∀ r,Q r):cipher_Block_1 a b c d w Q:=by
  have k3: ∀ m:cipher_Block_1.V,m.a0=a→m.b1=b→m.c2=c→m.d3=d→cipher_Block_1.K3 Q m:=by
    rintro ⟨v4,a0,b1,c2,d3,q9,v23⟩ e1 e2 e3 e4
    dsimp only at e1 e2 e3 e4
    subst e1 e2 e3 e4
    exact ixv (by decide) (by decide) fun _=>ixv (by decide) (by decide) fun _=>ixv (by decide) (by decide) fun _=>ixv (by decide) (by decide) fun _=>
      ixv ha.1 ha.2 fun _=>ixv hb.1 hb.2 fun _=>ixv hc.1 hc.2 fun _=>ixv hd.1 hd.2 fun _=>H _
  unfold cipher_Block_1
  refine ixv ha.1 ha.2 fun _=>ixv hb.1 hb.2 fun _=>ixv hc.1 hc.2 fun _=>ixv hd.1 hd.2 fun _=>⟨?_, ?_⟩
  · exact quarter_np fun _=>k3 _ rfl rfl rfl rfl
  · exact quarter_np fun _=>k3 _ rfl rfl rfl rfl
theorem join_np {b:List Int} {Q:Int→Prop} (h:4≤b.length) (H: ∀ r,Q r):cipher_join b Q:=by
  unfold cipher_join
  exact ixl (by omega) (by omega) fun _=>ixl (by omega) (by omega) fun _=>ixl (by omega) (by omega) fun _=>ixl (by omega) (by omega) fun _=>H _
theorem w64 {n:Int} (h: -1000≤n∧n≤1000000000):IntKind.wrap .i64 n=n:=wrap64 (by omega) (by omega)
theorem sub_len {l:List Int} {i j:Int} (h:0≤i∧i≤j∧j≤(l.length:Int)):((sub l i j).length:Int)=j - i:=by
  unfold sub; rw [List.length_drop,List.length_take]; omega
theorem start_np {k:Vector Int 32} {n:Vector Int 12} {c:Int} {Q:cipher_start.QT} (H: ∀ r,Q r):cipher_start k n c Q:=by
  have l2: ∀ (j:Nat) (m:cipher_start.V),0≤m.v24→m.v24+(j:Int)=3→cipher_start.L2 Q m:=by
    intro j
    induction j with
    | zero =>
      rintro m h0 h1
      refine cipher_start.L2_in ?_
      unfold cipher_start.B2
      rw [decide_eq_false (by omega),br_false]
      exact H _
    | succ j ih =>
      rintro m h0 h1
      refine cipher_start.L2_in ?_
      unfold cipher_start.B2
      rw [decide_eq_true (by omega),br_true]
      rw [w64 (n:=4*m.v24) (by omega),w64 (n:=13+m.v24) (by omega),w64 (n:=m.v24+1) (by omega)]
      refine ⟨⟨by omega,by omega,by rw [Vector.length_toList]; omega⟩,join_np ?_ fun _=>ixv (by omega) (by omega) fun _=>ih _ (by dsimp only; omega) (by dsimp only; omega)⟩
      have:=sub_len (l:=m.nonce4.toList) (i:=4*m.v24) (j:=((12:Nat):Int)) (by rw [Vector.length_toList]; omega)
      omega
  have l1: ∀ (j:Nat) (m:cipher_start.V),0≤m.v11→m.v11+(j:Int)=8→cipher_start.L1 Q m:=by
    intro j
    induction j with
    | zero =>
      rintro m h0 h1
      refine cipher_start.L1_in ?_
      unfold cipher_start.B1
      rw [decide_eq_false (by omega),br_false]
      exact ixv (by decide) (by decide) fun _=>l2 3 _ (by dsimp only; omega) (by dsimp only; omega)
    | succ j ih =>
      rintro m h0 h1
      refine cipher_start.L1_in ?_
      unfold cipher_start.B1
      rw [decide_eq_true (by omega),br_true]
      rw [w64 (n:=4*m.v11) (by omega),w64 (n:=4+m.v11) (by omega),w64 (n:=m.v11+1) (by omega)]
      refine ⟨⟨by omega,by omega,by rw [Vector.length_toList]; omega⟩,join_np ?_ fun _=>ixv (by omega) (by omega) fun _=>ih _ (by dsimp only; omega) (by dsimp only; omega)⟩
      have:=sub_len (l:=m.key3.toList) (i:=4*m.v11) (j:=((32:Nat):Int)) (by rw [Vector.length_toList]; omega)
      omega
  exact l1 8 _ (by dsimp only; omega) (by dsimp only; omega)
theorem md4 {x:Int} (h:0≤x):Int.tmod x 4=x % 4:=Int.tmod_eq_emod_of_nonneg h
theorem dv4 {x:Int} (h:0≤x):Int.tdiv x 4=x / 4:=Int.tdiv_eq_ediv_of_nonneg h
theorem cblock_np {k : Vector Int 32} {n : Vector Int 12} {c : Int} {Q : cipher_Block.QT} (H : ∀ r, Q r) : cipher_Block k n c Q := by
  have l4: ∀ (j:Nat) (m:cipher_Block.V),0≤m.v55→m.v55+(j:Int)=64→cipher_Block.L4 Q m:=by
    intro j
    induction j with
    | zero =>
      rintro m h0 h1
      refine cipher_Block.L4_in ?_
      unfold cipher_Block.B4
      rw [decide_eq_false (by omega),br_false]
      exact H _
    | succ j ih =>
      rintro m h0 h1
      refine cipher_Block.L4_in ?_
      unfold cipher_Block.B4
      rw [decide_eq_true (by omega),br_true]
      rw [dv4 (by omega),md4 (by omega),w64 (n:=m.v55 / 4) (by omega),w64 (n:=8*(m.v55 % 4)) (by omega),w64 (n:=m.v55+1) (by omega)]
      refine ixv (by omega) (by omega) fun _=>ixv (by omega) (by omega) fun _=>⟨by omega,ixv (by omega) (by omega) fun _=>ih _ (by dsimp only; omega) (by dsimp only; omega)⟩
  have l1 : ∀ (j : Nat) (m : cipher_Block.V), 0 ≤ m.v20 → m.v20 + (j : Int) = 10 → cipher_Block.L1 Q m := by
    intro j
    induction j with
    | zero =>
      rintro m h0 h1
      refine cipher_Block.L1_in ?_
      unfold cipher_Block.B1
      rw [decide_eq_false (by omega),br_false]
      exact l4 64 _ (by dsimp only; omega) (by dsimp only; omega)
    | succ j ih =>
      rintro m h0 h1
      have l3: ∀ (i:Nat) (m':cipher_Block.V),m'.v20=m.v20→0≤m'.v35→m'.v35+(i:Int)=4→cipher_Block.L3 (cipher_Block.L1 Q) Q m':=by
        intro i
        induction i with
        | zero =>
          rintro m' e h0 h1
          refine cipher_Block.L3_in _ ?_
          unfold cipher_Block.B3
          rw [decide_eq_false (by omega),br_false]
          exact ih _ (by dsimp only; rw [w64 (by omega)]; omega) (by dsimp only; rw [w64 (by omega)]; omega)
        | succ i ih2 =>
          rintro m' e h0 h1
          refine cipher_Block.L3_in _ ?_
          unfold cipher_Block.B3
          rw [decide_eq_true (by omega),br_true]
          rw [w64 (n:=m'.v35+1) (by omega),w64 (n:=m'.v35+2) (by omega),w64 (n:=m'.v35+3) (by omega),md4 (by omega),md4 (by omega),md4 (by omega),
            w64 (n:=4+(m'.v35+1) % 4) (by omega),w64 (n:=8+(m'.v35+2) % 4) (by omega),w64 (n:=12+(m'.v35+3) % 4) (by omega)]
          exact block1_np (by omega) (by omega) (by omega) (by omega) fun _=>ih2 _ e (by dsimp only; omega) (by dsimp only; omega)
      have l2: ∀ (i:Nat) (m':cipher_Block.V),m'.v20=m.v20→0≤m'.v22→m'.v22+(i:Int)=4→cipher_Block.L2 (cipher_Block.L1 Q) Q m':=by
        intro i
        induction i with
        | zero =>
          rintro m' e h0 h1
          refine cipher_Block.L2_in _ ?_
          unfold cipher_Block.B2
          rw [decide_eq_false (by omega),br_false]
          exact l3 4 _ e (by dsimp only; omega) (by dsimp only; omega)
        | succ i ih2 =>
          rintro m' e h0 h1
          refine cipher_Block.L2_in _ ?_
          unfold cipher_Block.B2
          rw [decide_eq_true (by omega),br_true]
          rw [w64 (n:=m'.v22+1) (by omega),w64 (n:=4+m'.v22) (by omega),w64 (n:=8+m'.v22) (by omega),w64 (n:=12+m'.v22) (by omega)]
          exact block1_np (by omega) (by omega) (by omega) (by omega) fun _=>ih2 _ e (by dsimp only; omega) (by dsimp only; omega)
      refine cipher_Block.L1_in ?_
      unfold cipher_Block.B1
      rw [decide_eq_true (by omega),br_true]
      exact l2 4 _ rfl (by dsimp only; omega) (by dsimp only; omega)
  unfold cipher_Block
  exact start_np fun _=>l1 10 _ (by dsimp only; omega) (by dsimp only; omega)
theorem cturn_np {k : Vector Int 32} {n : Vector Int 12} {c : Int} {b : List Int} {Q : cipher_Turn.QT} (hb : b.length ≤ 1000000) (H : ∀ r, r.length = b.length → Q r) : cipher_Turn k n c b Q := by
  have l1 : ∀ (j : Nat) (m : cipher_Turn.V), m.out9.length = b.length → 0 ≤ m.at10 → (b.length : Int) ≤ m.at10 + (j : Int) → m.at10 ≤ 2000000 → cipher_Turn.L1 Q m := by
    intro j
    induction j with
    | zero =>
      rintro m e h0 h1 h2
      refine cipher_Turn.L1_in ?_
      unfold cipher_Turn.B1
      rw [e,if_neg (by omega),decide_eq_false (by omega),br_false]
      exact H _ e
    | succ j ih =>
      rintro m e h0 h1 h2
      refine cipher_Turn.L1_in ?_
      unfold cipher_Turn.B1
      rw [e,if_neg (by omega)]
      by_cases hlt:m.at10<(b.length:Int)
      · rw [decide_eq_true hlt, br_true]
        rw [w64 (n:=m.at10+64) (by omega)]
        have hhi: ∃ hi:Int,(if (b.length:Int)<m.at10+64 then (b.length:Int) else m.at10+64)=hi∧m.at10<hi∧hi≤m.at10+64∧hi≤(b.length:Int):=by
          split
          · exact ⟨_,rfl,by omega,by omega,by omega⟩
          · exact ⟨_,rfl,by omega,by omega,by omega⟩
        obtain ⟨hi,ehi,hh1,hh2,hh3⟩:=hhi
        rw [ehi]
        refine cblock_np fun s=>⟨⟨by omega,by omega,by omega⟩, ?_⟩
        have hsl:=sub_len (l:=m.out9) (i:=m.at10) (j:=hi) (by omega)
        have l2: ∀ (i:Nat) (m':cipher_Turn.V),m'.out9.length=b.length→m'.at10=m.at10→m'.v34=hi - m.at10→0≤m'.v35→m'.v35+(i:Int)=hi - m.at10→cipher_Turn.L2 (cipher_Turn.L1 Q) Q m':=by
          intro i
          induction i with
          | zero =>
            rintro m' e1 e2 e3 h3 h4
            refine cipher_Turn.L2_in _ ?_
            unfold cipher_Turn.B2
            rw [decide_eq_false (by omega),br_false]
            exact ih _ e1 (by dsimp only; rw [w64 (by omega)]; omega) (by dsimp only; rw [w64 (by omega)]; omega) (by dsimp only; rw [w64 (by omega)]; omega)
          | succ i ih2 =>
            rintro m' e1 e2 e3 h3 h4
            refine cipher_Turn.L2_in _ ?_
            unfold cipher_Turn.B2
            rw [decide_eq_true (by omega),br_true]
            rw [w64 (n:=m'.at10+m'.v35) (by omega),w64 (n:=m'.v35+1) (by omega)]
            exact ixl (by omega) (by omega) fun _=>ixv (by omega) (by omega) fun _=>ixl (by omega) (by omega) fun _=>ih2 _ (by dsimp only; rw [List.length_set]; exact e1) e2 e3 (by dsimp only; omega) (by dsimp only; omega)
        exact l2 (hi - m.at10).toNat _ e rfl hsl (by dsimp only; omega) (by dsimp only; omega)
      · rw [decide_eq_false hlt, br_false]
        exact H _ e
  unfold cipher_Turn
  exact ⟨bnd_le (by simp; omega),l1 b.length _ (by simp) (by dsimp only; omega) (by dsimp only; omega) (by dsimp only; omega)⟩
theorem nonce_np {e b : Int} {Q : cipher_Nonce.QT} (H : ∀ r, Q r) : cipher_Nonce e b Q := by
  have l1: ∀ (j:Nat) (m:cipher_Nonce.V),0≤m.v7→m.v7+(j:Int)=12→cipher_Nonce.L1 Q m:=by
    intro j
    induction j with
    | zero =>
      rintro m h0 h1
      refine cipher_Nonce.L1_in ?_
      unfold cipher_Nonce.B1
      rw [decide_eq_false (by omega),br_false]
      exact H _
    | succ j ih =>
      rintro m h0 h1
      refine cipher_Nonce.L1_in ?_
      unfold cipher_Nonce.B1
      rw [decide_eq_true (by omega),br_true]
      by_cases h:m.v7<4
      · rw [decide_eq_true h, br_true, w64 (n := 8 * m.v7) (by omega)]
        refine ⟨by omega,ixv (by omega) (by omega) fun _=>ih _ ?_ ?_⟩
        · dsimp only; rw [w64 (by omega)]; omega
        · dsimp only; rw [w64 (by omega)]; omega
      · rw [decide_eq_false h, br_false, w64 (n := m.v7 - 4) (by omega), w64 (n := 8 * (m.v7 - 4)) (by omega)]
        refine ⟨by omega,ixv (by omega) (by omega) fun _=>ih _ ?_ ?_⟩
        · dsimp only; rw [w64 (by omega)]; omega
        · dsimp only; rw [w64 (by omega)]; omega
  exact l1 12 _ (by dsimp only; omega) (by dsimp only; omega)
theorem seal_np {k:Vector Int 32} {e n:Int} {p:List Int} {Q:seal_Seal.QT} (hp:p.length=256) (hn:0≤n) (H: ∀ r,r.length=256→Q r 0):seal_Seal k e n p Q:=by
  unfold seal_Seal seal_Seal.K1
  rw [hp,show (((256:Nat):Int) !=256)=false by decide,br_false,decide_eq_false (by omega)]
  dsimp only
  rw [br_false]
  exact nonce_np fun _=>cturn_np (by omega) fun r hr=>H r (by omega)
end Go.Pt
