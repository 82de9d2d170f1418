import Derived.Test.YtchocpffjnodfaaGreatGs
namespace Go.Bur
open Go.RowKit
set_option linter.unusedVariables false
set_option linter.unusedSimpArgs false
def loopF{T R:Type}(F:(T→Option R)→T→Option R):Nat→T→Option R
 |0,_=>none
 |m+1,x=>F (loopF F m) x
inductive Ht where
 |n
 |sq (a b:Ht)
 |cd (j:Option Pt) (a b:Ht)
 |bk (j:Option Pt) (a:Ht)
 |lp (p:Pt) (a:Ht)
 |rg (fz:List Nat)
 |rs (sp:List (Nat×Nat)) (fz:List Nat)
 |gs (g:List Gs) (a:Ht)
 |ch (t m:Nat) (a b:Ht)
 |rf (vsR vsO:List (Nat×PV)) (isL isO:List PI) (og:Mp) (t:Nat) (pl:PL) (ys:List Ty) (a b:Ht)
def Ht.l:Ht→Ht
 | .sq a _=>a
 | .cd _ a _=>a
 | .bk _ a=>a
 | .lp _ a=>a
 |_=> .n
def Ht.r:Ht→Ht
 | .sq _ b=>b
 | .cd _ _ b=>b
 |_=> .n
def Ht.j:Ht→Option Pt
 | .cd j _ _=>j
 | .bk j _=>j
 | .lp p _=>some p
 |_=>none
def Ht.fz:Ht→List Nat
 | .rg l=>l
 | .rs _ l=>l
 | .gs _ a=>a.fz
 |_=>[]
def Ht.sp:Ht→List (Nat×Nat)
 | .rs l _=>l
 | .gs _ a=>a.sp
 |_=>[]
def Ht.gh:Ht→List Gs
 | .gs g _=>g
 |_=>[]
def pickH{τ:Nat→Type}(s:ASt τ):Ht→Ht
 | .ch t m a b=>match look s.env t with
  |some (.v (.one (.d (.int _) j)))=>match decide (j=(m:Int)) with
   |true=>a
   |false=>pickH s b
  |_=> .n
 |h=>h
structure Kn(τ:Nat→Type)(R:Type) where
 nrm:ASt τ→Option R
 exs:List (Nat×(ASt τ→Option R))
 ret:ASt τ→Option R
def sel{R:Type}:Nat→List (Option R)→Option R
 |_,[]=>none
 |0,x::_=>x
 |m+1,_::r=>sel m r
section
def jump{R:Type}(S:Tab)(p:Pt)(j:p.T S.τ→Option R)(s:ASt S.τ):Option R:=match rdS S p s with
 |some x=>j x
 |none=>none
def rfX(W:Wk)(N n:Nat){R:Type}(t:Nat)(ps:List Tmp)(vsR vsO:List (Nat×PV))(isL isO:List PI)(og:Mp)(t':Nat)(pl:PL)(ys:List Ty)
  (rA:(ASt W.S.τ→Option (Nat×HL W.S.τ (tyIs isL [])))→ASt W.S.τ→Option (Nat×HL W.S.τ (tyIs isL []))) (rB:Kn W.S.τ (Nat×HL W.S.τ (tyIs isL []))→ASt W.S.τ→Option (Nat×HL W.S.τ (tyIs isL []))) (s:ASt W.S.τ) (K:Kn W.S.τ R):Option R:=
 match hk:okIs isL with
 |true=>match Nat.beq t t'&&(ndN ps&&(ps.all (λt=>Nat.blt t N)&&(Nat.beq ps.length ys.length&&ndN (K.exs.map (·.1))))) with
  |true=>match lendS W.S t' pl s with
   |some s1=>match rdS W.S ⟨vsR++vsO,isL++isO,og⟩ s1 with
    |some x=>match rdIs W.S (ltM isL.length) isL (((putS W.S ⟨vsR++vsO,isL++isO,og⟩ x).its.take isL.length).map (·.2)) (),slotsOf (putS W.S ⟨vsR++vsO,isL++isO,og⟩ x).env vsR with
     |some z0,some as=>match rdVs W.S (ltF (fxOf (vsR.map (·.2)) isL) isL.length) (vsR.map (·.2)) as () with
      |some xr=>rfCall W N n t (putS W.S ⟨vsR++vsO,isL++isO,og⟩ x) isL.length
        (.opq ys (tyIs isL []) (λy z=>rA (rB ⟨finR W.S (fxOf (vsR.map (·.2)) isL) isL 0,exR W.S (fxOf (vsR.map (·.2)) isL) isL 2 (K.exs.map (·.1)),finR W.S (fxOf (vsR.map (·.2)) isL) isL 1⟩) (stB W.S (zipE vsR (putVs W.S (λj=>j) (vsR.map (·.2)) xr).1) ps ys isL hk y z)) 0 (pkIs isL (us:=[]) (λ_=>()) z0))
        (kOpq (tyIs isL []) λm z nx=>sel m (K.nrm (stAfter W.S (fxOf (vsR.map (·.2)) isL) (putS W.S ⟨vsR++vsO,isL++isO,og⟩ x) isL hk z nx)::K.ret (stAfter W.S (fxOf (vsR.map (·.2)) isL) (putS W.S ⟨vsR++vsO,isL++isO,og⟩ x) isL hk z nx)::K.exs.map λp=>p.2 (stAfter W.S (fxOf (vsR.map (·.2)) isL) (putS W.S ⟨vsR++vsO,isL++isO,og⟩ x) isL hk z nx)))
      |none=>none
     |_,_=>none
    |none=>none
   |none=>none
  |false=>none
 |false=>none
def splN{R:Type}(j:Int)(f:Nat→Option R):Nat→Nat→Option R
 |0,_=>none
 |n+1,m=>cond (decide (j=(m:Int))) (f m) (splN j f n (m+1))
def splS{τ:Nat→Type}{R:Type}:List (Nat×Nat)→ASt τ→(ASt τ→Option R)→Option R
 |[],s,k=>k s
 |(t,n)::r,s,k=>match look s.env t with
  |some (.v (.one (.d (.int q) j)))=>splN j (λm=>splS r ⟨s.nx,(t,.v (.one (.d (.int q) (m:Int))))::s.env,s.its,s.org⟩ k) n 0
  |_=>none
theorem splN_some{R:Type}{j:Int}{f:Nat→Option R}{r:R}:∀{n m:Nat},splN j f n m=some r→∃i:Nat,j=(i:Int)∧f i=some r
 |0,m,h=>by cases h
 |n+1,m,h=>by
  simp only[splN] at h
  by_cases hj:j=(m:Int)
  ·rw[decide_eq_true hj] at h
   exact⟨m,hj,h⟩
  ·rw[decide_eq_false hj] at h
   exact splN_some h
theorem splS_sound{P:Program}{S:Tab}{C:Cy}{N:Nat}{R:Type}{r:R}{a:Act}{w:World}{k:ASt S.τ→Option R}:∀{l:List (Nat×Nat)} {s:ASt S.τ},splS l s k=some r→Hold P S C N s a w→∃s',k s'=some r∧Hold P S C N s' a w:=by
 intro l
 induction l with
 |nil=>intro s h hH;exact⟨s,h,hH⟩
 |cons x l ih=>
  obtain⟨t,n⟩:=x
  intro s h hH
  simp only[splS] at h
  split at h
  ·rename_i q j hj
   obtain⟨i,hi,h2⟩:=splN_some h
   subst hi
   refine ih h2 ?_
   obtain⟨ρ,As,Ps,hH⟩:=hH
   refine⟨ρ,As,Ps,hH.st,hH.keep,hH.old,hH.size,hH.dfr,λt' y hy=> ?_,hH.its,hH.dom,hH.org⟩
   simp only[look] at hy
   split at hy
   ·rename_i hb
    obtain rfl:=someI' hy
    rw[←Nat.eq_of_beq_eq_true hb]
    exact hH.env _ _ hj
   ·exact hH.env t' y hy
  ·cases h
noncomputable def exC(W:Wk)(N n:Nat):Code→Bool→(R:Type)→Ht→ASt W.S.τ→Kn W.S.τ R→Option R
 | .skip,tp,R,_,s,K=>K.nrm s
 | .region _ ops draw,tp,R,h,s,K=>splS h.sp s λs=>gho W.S h.gh s λs=>exReg W N n ops draw h.fz s K.nrm
 | .seq a b,tp,R,h,s,K=>exC W N n a tp R h.l s ⟨λs'=>exC W N n b tp R (pickH s' h.r) s' K,K.exs,K.ret⟩
 | .cond x t e,tp,R,h,s,K=>match evO s.env x with
  |some (.v (.one (.lit b)))=>match b with
   |true=>exC W N n t tp R h.l s K
   |false=>exC W N n e tp R h.r s K
  |some (.v (.one (.nb neg b)))=>match neg with
   |false=>nilC b (exC W N n t tp R h.l s K) (exC W N n e tp R h.r s K)
   |true=>nilC b (exC W N n e tp R h.r s K) (exC W N n t tp R h.l s K)
  |some (.v (.one (.d .bool b)))=>match h.j with
   |none=>cond b (exC W N n t tp R h.l s K) (exC W N n e tp R h.r s K)
   |some p=>jn (λx:p.T W.S.τ=>K.nrm (putS W.S p x)) λj=>cond b (exC W N n t tp R h.l s ⟨jump W.S p j,K.exs,K.ret⟩) (exC W N n e tp R h.r s ⟨jump W.S p j,K.exs,K.ret⟩)
  |_=>none
 | .block id b,tp,R,h,s,K=>match h.j with
  |none=>exC W N n b tp R h.l s ⟨K.nrm,(id,K.nrm)::K.exs,K.ret⟩
  |some p=>jn (λx:p.T W.S.τ=>K.nrm (putS W.S p x)) λj=>exC W N n b tp R h.l s ⟨jump W.S p j,(id,jump W.S p j)::K.exs,K.ret⟩
 | .loop b,tp,R,h,s,K=>match h.j with
  |some p=>match rdS W.S p s with
   |some x=>loopF (fun(self:p.T W.S.τ→Option R) x=>exC W N n b tp R h.l (putS W.S p x) ⟨jump W.S p self,K.exs,K.ret⟩) n x
   |none=>none
  |none=>none
 | .exit id,_,_,_,s,K=>match lookX K.exs id with
  |some f=>f s
  |none=>none
 | .scope b,tp,R,h,s,K=>exC W N n b tp R h s K
 | .label _,_,_,_,s,K=>K.nrm s
 | .ret,_,_,_,s,K=>K.ret s
 | .rangeFunc g ps as b,tp,R,h,s,K=>match tp,g,h with
  |true,.tmp t,.rf vsR vsO isL isO og t' pl ys ha hb=>rfX W N n t ps.toList vsR vsO isL isO og t' pl ys (λkb s'=>exC W N n as false (Nat×HL W.S.τ (tyIs isL [])) ha s' ⟨kb,[],λ_=>none⟩) (λKr s'=>exC W N n b false (Nat×HL W.S.τ (tyIs isL [])) hb s' Kr) s K
  |_,_,_=>none
 | .goto _,_,_,_,_,_=>none
 | .refuse _,_,_,_,_,_=>none
structure KOk{R:Type}(P:Program)(S:Tab)(C:Cy)(N:Nat)(tp:Bool)(K:Kn S.τ R)(r:R)(Q:Exit→Act→World→Prop):Prop where
 nrm:∀D s a w,(tp=false→D=[])→K.nrm s=some r→HoldD P S C N D s a w→Q .normal (setD (mks D) a) w
 exs:∀id f,lookX K.exs id=some f→∀D s a w,(tp=false→D=[])→f s=some r→HoldD P S C N D s a w→Q (.exit id) (setD (mks D) a) w
 ret:∀D s a w,(tp=false→D=[])→K.ret s=some r→HoldD P S C N D s a w→Q .ret (setD (mks D) a) w
theorem HoldD.map{P:Program}{S:Tab}{C:Cy}{N:Nat}{D:List Nat}{s s':ASt S.τ}{a a':Act}{w w':World}(h:HoldD P S C N D s a w)(f:∀C1,Hold P S C1 N s a w→Hold P S C1 N s' a' w'):HoldD P S C N D s' a' w':=by
 obtain⟨C1,h1,h2,h3⟩:=h
 exact⟨C1,h1,h2,f C1 h3⟩
theorem jump_ok{R:Type}{P:Program}{S:Tab}(ok:TabOk S){C:Cy}{N:Nat}{D:List Nat}{p:Pt}{j:p.T S.τ→Option R}{s:ASt S.τ}{r:R}{a:Act}{w:World}(h:jump S p j s=some r)(hH:HoldD P S C N D s a w):∃x,j x=some r∧HoldD P S C N D (putS S p x) a w:=by
 unfold jump at h
 split at h
 ·rename_i x hx;exact⟨x,h,hH.map λC1 h1=>rdS_hold ok hx h1⟩
 ·cases h
theorem Hold.dfr{P:Program}{S:Tab}{C:Cy}{N:Nat}{s:ASt S.τ}{a:Act}{w:World}(h:Hold P S C N s a w):setD [] a=a:=by
 obtain⟨ρ,As,Ps,h⟩:=h
 have:=h.dfr
 cases a
 simp only at this
 subst this
 rfl
theorem lookX_at{α:Type}:∀{l:List (Nat×α)} {j:Nat} {x:Nat×α},(l.map (·.1)).Nodup→l[j]? =some x→lookX l x.1=some x.2
 |[],j,x,_,h=>by simp at h
 |(i,f)::r,0,x,_,h=>by
  simp at h
  subst h
  simp only[lookX]
  rw[show Nat.beq i i=true from Nat.beq_eq▸rfl]
 |(i,f)::r,j+1,x,hn,h=>by
  simp only[List.map_cons,List.nodup_cons] at hn
  have h:r[j]? =some x:=by simpa using h
  simp only[lookX]
  cases hb:Nat.beq i x.1 with
  |true=>
   exfalso
   rw[Nat.eq_of_beq_eq_true hb] at hn
   exact hn.1 (List.mem_map_of_mem (List.mem_of_getElem? h))
  |false=>exact lookX_at hn.2 h
theorem sel_get{R:Type}{r:R}:∀{m:Nat} {l:List (Option R)},sel m l=some r→l[m]? =some (some r)
 |m,[],h=>by cases m<;>cases h
 |0,x::l,h=>by simp only[sel] at h;simp[h]
 |m+1,x::l,h=>by simpa using sel_get (m:=m) (l:=l) h
theorem ltF_ren{fx:Nat→Bool}{c:Nat}{ρ:Rho}:Ren (ltF fx c) (λj=>j) ρ (λk=>match Nat.blt k c&&fx k with|true=>ρ k|false=>none):=λj k g h1 h2=>by
 unfold ltF at h1
 split at h1
 ·rename_i hb
  obtain rfl:=someI' h1
  simp only[hb]
  exact h2
 ·cases h1
theorem exC_sound{W:Wk}(hW:WkOk W)(hm:W.P.follows .mixedOrders=true){N n:Nat}:∀(c:Code)(tp:Bool)(R:Type)(r:R)(ro:Option Nat)(C:Cy)(D:List Nat)(h:Ht)(s:ASt W.S.τ)(K:Kn W.S.τ R)(a:Act)(w:World)(Q:Exit→Act→World→Prop),(tp=true→ro=none)→(tp=false→D=[])→
  exC W N n c tp R h s K=some r→HoldD W.P W.S C N D s a w→KOk W.P W.S C N tp K r Q→c.wpIn (roF ro) 0 W.P Q (setD (mks D) a) w:=by
 intro c
 induction c with
 |skip=>intro tp R r ro C D h s K a w Q hro hD he hH hK;exact wpIn_skip (hK.nrm D s a w hD he hH)
 |region id ops draw=>
  intro tp R r ro C D h s K a w Q hro hD he hH hK
  obtain⟨C1,h1,h2,h3⟩:=hH
  obtain⟨s,he,h3⟩:=splS_sound he h3
  obtain⟨s,he,h3⟩:=gho_sound hW.ok he h3
  refine wpIn_mono (exReg_sound (ro:=ro) (D:=mks D) (Q:=λe a' w'=>e= .normal∧Q .normal (setD (mks D) a') w') hW hm he h3 λs' a' w' k1 k2=>⟨rfl,hK.nrm D s' a' w' hD k1 ⟨C1,h1,h2,k2⟩⟩) ?_
  rintro e a' w' ⟨b,rfl,rfl,hq⟩
  exact hq
 |seq x y ihx ihy=>
  intro tp R r ro C D h s K a w Q hro hD he hH hK
  refine wpIn_seq ?_
  exact ihx tp R r ro C D _ _ _ _ _ _ hro hD he hH ⟨λD' s' a' w' hD' h1 h2=>ihy tp R r ro C D' _ _ _ _ _ _ hro hD' h1 h2 hK,λid f hf D' s' a' w' hD' h1 h2=>hK.exs id f hf D' s' a' w' hD' h1 h2,λD' s' a' w' hD' h1 h2=>hK.ret D' s' a' w' hD' h1 h2⟩
 |cond x t e iht ihe=>
  intro tp R r ro C D h s K a w Q hro hD he hH hK
  have hval:∀y,evO s.env x=some y→∃ρ Ps,RelAV W.S ρ Ps y ((setD (mks D) a).eval x):=λy hy=>by
   obtain⟨C1,_,_,ρ,As,Ps,h'⟩:=hH
   rw[setD_eval]
   exact⟨ρ,Ps,evO_rel h'.env x y hy⟩
  simp only[exC] at he
  split at he
  ·rename_i b hx
   obtain⟨ρ,Ps,hv⟩:=hval _ hx
   have hv:(setD (mks D) a).eval x= .bool b:=hv
   cases b with
   |true=>exact wpIn_cond hv (iht tp R r ro C D _ _ _ _ _ _ hro hD he hH hK)
   |false=>exact wpIn_cond hv (ihe tp R r ro C D _ _ _ _ _ _ hro hD he hH hK)
  ·rename_i neg b hx
   obtain⟨ρ,Ps,c,hv,hc⟩:=hval _ hx
   cases neg with
   |false=>
    have h1:=nilC_some he hc
    cases c with
    |true=>exact wpIn_cond hv (iht tp R r ro C D _ _ _ _ _ _ hro hD h1 hH hK)
    |false=>exact wpIn_cond hv (ihe tp R r ro C D _ _ _ _ _ _ hro hD h1 hH hK)
   |true=>
    have h1:=nilC_some he hc
    cases c with
    |true=>exact wpIn_cond hv (ihe tp R r ro C D _ _ _ _ _ _ hro hD h1 hH hK)
    |false=>exact wpIn_cond hv (iht tp R r ro C D _ _ _ _ _ _ hro hD h1 hH hK)
  ·rename_i b hx
   obtain⟨ρ,Ps,hv⟩:=hval _ hx
   have hv:(setD (mks D) a).eval x= .bool b:=hv
   split at he
   ·cases b with
    |true=>exact wpIn_cond hv (iht tp R r ro C D _ _ _ _ _ _ hro hD he hH hK)
    |false=>exact wpIn_cond hv (ihe tp R r ro C D _ _ _ _ _ _ hro hD he hH hK)
   ·rename_i p hp
    have hj:KOk W.P W.S C N tp ⟨jump W.S p λx:p.T W.S.τ=>K.nrm (putS W.S p x),K.exs,K.ret⟩ r Q:=by
     refine⟨λD' s' a' w' hD' h1 h2=> ?_,hK.exs,hK.ret⟩
     obtain⟨y,h3,h4⟩:=jump_ok hW.ok h1 h2
     exact hK.nrm _ _ _ _ hD' h3 h4
    unfold jn at he
    cases b with
    |true=>exact wpIn_cond hv (iht tp R r ro C D _ _ _ _ _ _ hro hD he hH hj)
    |false=>exact wpIn_cond hv (ihe tp R r ro C D _ _ _ _ _ _ hro hD he hH hj)
  ·cases he
 |block id b ih=>
  intro tp R r ro C D h s K a w Q hro hD he hH hK
  have key:∀(nrm:ASt W.S.τ→Option R),(∀D' s' a' w',(tp=false→D'=[])→nrm s'=some r→HoldD W.P W.S C N D' s' a' w'→Q .normal (setD (mks D') a') w')→KOk W.P W.S C N tp ⟨nrm,(id,nrm)::K.exs,K.ret⟩ r (Exit.inBlock id Q):=λnrm hn=>by
   refine⟨hn,λi f hf D' s' a' w' hD' h1 h2=> ?_,hK.ret⟩
   simp only[lookX] at hf
   split at hf
   ·rename_i hb
    obtain rfl:=Nat.eq_of_beq_eq_true hb
    obtain rfl:=someI' hf
    simp only[Exit.inBlock,if_true]
    exact hn D' s' a' w' hD' h1 h2
   ·rename_i hb
    have hne:i≠id:=λe=>by rw[e,show Nat.beq id id=true from Nat.beq_eq▸rfl] at hb;cases hb
    simp only[Exit.inBlock,if_neg hne]
    exact hK.exs i f hf D' s' a' w' hD' h1 h2
  simp only[exC] at he
  split at he
  ·exact wpIn_block (ih tp R r ro C D _ _ _ _ _ _ hro hD he hH (key _ hK.nrm))
  ·rename_i p hp
   unfold jn at he
   refine wpIn_block (ih tp R r ro C D _ _ _ _ _ _ hro hD he hH (key _ λD' s' a' w' hD' h1 h2=> ?_))
   obtain⟨y,h3,h4⟩:=jump_ok hW.ok h1 h2
   exact hK.nrm _ _ _ _ hD' h3 h4
 |loop b ih=>
  intro tp R r ro C D h s K a w Q hro hD he hH hK
  simp only[exC] at he
  split at he
  ·rename_i p hp
   split at he
   ·rename_i x hx
    refine wpIn_loop_ghost (λm a' w'=>∃(D':List Nat) (a2:Act) (x:p.T W.S.τ),(tp=false→D'=[])∧a'=setD (mks D') a2∧loopF (fun(self:p.T W.S.τ→Option R) x=>exC W N n b tp R h.l (putS W.S p x) ⟨jump W.S p self,K.exs,K.ret⟩) m x=some r∧HoldD W.P W.S C N D' (putS W.S p x) a2 w') n ⟨D,a,x,hD,rfl,he,hH.map λC1 h1=>rdS_hold hW.ok hx h1⟩ ?_
    rintro m _ w' ⟨D',a2,y,hD',rfl,hy,hHy⟩
    cases m with
    |zero=>cases hy
    |succ m=>
     refine ih tp R r ro C D' _ _ _ _ _ _ hro hD' hy hHy ⟨λD2 s2 a2 w2 hD2 h1 h2=> ?_,hK.exs,hK.ret⟩
     obtain⟨z,h3,h4⟩:=jump_ok hW.ok h1 h2
     exact⟨m,Nat.lt_succ_self _,D2,a2,z,hD2,rfl,h3,h4⟩
   ·cases he
  ·cases he
 |rangeFunc g ps as b iha ihb=>
  intro tp R r ro C D h s K a w Q hro hD he hH hK
  simp only[exC] at he
  split at he
  ·rename_i t vsR vsO isL isO og t' pl ys ha hb
   obtain rfl:=hro rfl
   unfold rfX at he
   split at he
   ·rename_i hk
    split at he
    ·rename_i hchk
     simp only[Bool.and_eq_true] at hchk
     obtain⟨c1,c2,c3,c4,c5⟩:=hchk
     obtain rfl:=Nat.eq_of_beq_eq_true c1
     split at he
     ·rename_i s1 hs1
      split at he
      ·rename_i x hx
       split at he
       ·rename_i z0 as0 hz0 has
        split at he
        ·rename_i xr hxr
         have hH1:=(hH.map λC1 h1=>lendS_hold hW.ok hs1 h1)
         have hH2:=(hH1.map λC1 h1=>rdS_hold hW.ok hx h1)
         refine range_sound (fx:=fxOf (vsR.map (·.2)) isL) (ids:=K.exs.map (·.1)) (envR:=zipE vsR (putVs W.S (λj=>j) (vsR.map (·.2)) xr).1) (hk:=hk) hW rfl (by show _=_;rw[putIs_len];rfl) (by rw[putIs_len];simp) hz0 (ndN_iff c2) (λt ht=>Nat.blt_eq▸List.all_eq_true.1 c3 t ht) (Nat.eq_of_beq_eq_true c4) (λρ Ps hrel t x hx=> ?_) (λl y z m' z' hy=> ?_) he hH2 λd m' z' nx' w' hkk hH'=> ?_
         ·have h1:=slotsOf_rel hrel has
          obtain⟨_,h2⟩:=rdVs_ok (Ps:=Ps) hW.ok (ltF_ren (ρ:=ρ)) hxr
          exact zipE_rel (h2 _ h1) t x hx
         ·refine⟨λs'=>exC W N n b false (Nat×HL W.S.τ (tyIs isL [])) hb s' ⟨finR W.S (fxOf (vsR.map (·.2)) isL) isL 0,exR W.S (fxOf (vsR.map (·.2)) isL) isL 2 (K.exs.map (·.1)),finR W.S (fxOf (vsR.map (·.2)) isL) isL 1⟩,λC a w Q hHa hQ=> ?_,λC s1 a w Q hs1 hHb hQ=> ?_⟩
          ·exact iha false _ (m',z') (some l) C [] _ _ _ a w Q (λh=>by cases h) (λ_=>rfl) hy (HoldD.start hHa) ⟨λD' s' a' w' hD' h1 h2=>by
            obtain rfl:=hD' rfl
            have h3:=h2.hold
            show Q .normal (setD [] a') w'
            rw[h3.dfr]
            exact hQ _ _ _ h1 h3,λid f hf=>(by cases hf),λ_ _ _ _ _ h1=>(by cases h1)⟩
          ·exact ihb false _ (m',z') (some l) C [] _ _ _ a w Q (λh=>by cases h) (λ_=>rfl) hs1 (HoldD.start hHb) ⟨λD' s' a' w' hD' h1 h2=>by
            obtain rfl:=hD' rfl
            have h3:=h2.hold
            show Q .normal (setD [] a') w'
            rw[h3.dfr]
            exact hQ .normal 0 _ _ _ rfl h1 h3,λid f hf D' s' a' w' hD' h1 h2=>by
            obtain rfl:=hD' rfl
            have h3:=h2.hold
            show Q (.exit id) (setD [] a') w'
            rw[h3.dfr]
            obtain⟨j,rfl,hj⟩:=exR_look hf
            exact hQ (.exit id) _ _ _ _ ⟨j,Nat.add_comm 2 j,hj⟩ h1 h3,λD' s' a' w' hD' h1 h2=>by
            obtain rfl:=hD' rfl
            have h3:=h2.hold
            show Q .ret (setD [] a') w'
            rw[h3.dfr]
            exact hQ .ret 1 _ _ _ rfl h1 h3⟩
         ·have hsel:=sel_get hkk
          refine⟨λe=> ?_,λe=> ?_,λj e=> ?_⟩
          ·subst e
           exact hK.nrm _ _ _ _ (λh=>by cases h) (by simpa using hsel) hH'
          ·subst e
           exact hK.ret _ _ _ _ (λh=>by cases h) (by simpa using hsel) hH'
          ·subst e
           simp only[List.getElem?_cons_succ,List.getElem?_map] at hsel
           cases hj:K.exs[j]? with
           |none=>rw[hj] at hsel;cases hsel
           |some q=>
            rw[hj] at hsel
            have hq:q.2 _=some r:=someI' hsel
            exact⟨q.1,by simp[hj],hK.exs q.1 q.2 (lookX_at (ndN_iff c5) hj) _ _ _ _ (λh=>by cases h) hq hH'⟩
        ·cases he
       ·cases he
      ·cases he
     ·cases he
    ·cases he
   ·cases he
  ·cases he
 |exit id=>
  intro tp R r ro C D h s K a w Q hro hD he hH hK
  simp only[exC] at he
  split at he
  ·rename_i f hf;exact wpIn_exit (hK.exs id f hf D s a w hD he hH)
  ·cases he
 |scope b ih=>
  intro tp R r ro C D h s K a w Q hro hD he hH hK
  exact wpIn_scope (ih tp R r ro C D _ _ _ _ _ _ hro hD he hH ⟨hK.nrm,hK.exs,hK.ret⟩)
 |label l=>intro tp R r ro C D h s K a w Q hro hD he hH hK;exact wpIn_label (hK.nrm D s a w hD he hH)
 |goto l=>intro tp R r ro C D h s K a w Q hro hD he hH hK;cases he
 |ret=>intro tp R r ro C D h s K a w Q hro hD he hH hK;exact wpIn_ret (hK.ret D s a w hD he hH)
 |refuse _=>intro tp R r ro C D h s K a w Q hro hD he hH hK;cases he
end
section
def resE{S:Tab}(P:Program)(s:ASt S.τ):List ResultVar→Option (List (A1 S.τ))
 |[]=>some []
 | .tmp t::r=>match look s.env t,resE P s r with
  |some (.v x),some xs=>some (x::xs)
  |_,_=>none
 | .cell t ty::r=>match look s.env t,resE P s r with
  |some (.v (.one (.box k 0))),some xs=>match lookI s.its k with
   |some (.box ls)=>match ldV P ty (ls.take (szOf P ty)) with
    |some x=>some (x::xs)
    |none=>none
   |_=>none
  |_,_=>none
def finF(W:Wk){Rt:Type}(rs:List ResultVar)(rv:List PV)(ri:List (Option Nat×PI))(mk:PVsT W.S.τ rv (PIsT W.S.τ (ri.map (·.2)) Unit)→Rt)(s:ASt W.S.τ):Option Rt:=match resE W.P s rs with
 |some as=>match rdA W.S (seedRi s.org 0 ri) rv (ri.map (·.2)) s as with
  |some (y,ks)=>match ogRes ks s.org 0 ri with
   |true=>some (mk y)
   |false=>none
  |none=>none
 |none=>none
noncomputable def exFn(W:Wk){Rt:Type}(N n:Nat)(fn:Func)(h:Ht)(av:List PV)(ai:List PI)(rv:List PV)(ri:List (Option Nat×PI))(mk:PVsT W.S.τ rv (PIsT W.S.τ (ri.map (·.2)) Unit)→Rt)(x:PVsT W.S.τ av (PIsT W.S.τ ai Unit)):Option Rt:=
 exC W N n (bodyOf fn) true Rt h ⟨ai.length,numE 0 (putVs W.S (λj=>j) av x).1,numI 0 (putIs W.S (λj=>j) ai (putVs W.S (λj=>j) av x).2).1,idMp 0 ai.length⟩ ⟨finF W fn.results.toList rv ri mk,[],finF W fn.results.toList rv ri mk⟩
def fullE(a:Act)(N:Nat):Env:=(List.range N).map λt=>(t,a.tmps.getD t undef)
theorem fullE_has{a:Act}{N:Nat}(hs:a.tmps.size=N)(hd:a.defers=[]):Has a N (fullE a N):=by
 have key:∀(l:List Nat)(t:Nat),hasK (l.map λt=>(t,a.tmps.getD t undef)) t=true→lk (l.map λt=>(t,a.tmps.getD t undef)) t=a.tmps.getD t undef:=by
  intro l
  induction l with
  |nil=>intro t h;cases h
  |cons x r ih=>
   intro t h
   simp only[List.map_cons,hasK,lk] at h⊢
   split at h
   ·rename_i hb;rw[←Nat.eq_of_beq_eq_true hb]
   ·exact ih t h
 exact⟨hs,hd,λt ht=>(key _ t ht).symm⟩
theorem fullE_get{a:Act}{N t:Nat}(ht:t<N):hasK (fullE a N) t=true∧lk (fullE a N) t=a.tmps.getD t undef:=by
 have key:∀(l:List Nat),t∈l→hasK (l.map λt=>(t,a.tmps.getD t undef)) t=true∧lk (l.map λt=>(t,a.tmps.getD t undef)) t=a.tmps.getD t undef:=by
  intro l
  induction l with
  |nil=>intro h;cases h
  |cons x r ih=>
   intro h
   simp only[List.map_cons,hasK,lk]
   cases hb:Nat.beq x t with
   |true=>rw[Nat.eq_of_beq_eq_true hb];exact⟨rfl,rfl⟩
   |false=>
    refine ih ?_
    rcases List.mem_cons.1 h with e|h
    ·rw[e,show Nat.beq x x=true from Nat.beq_eq▸rfl] at hb;cases hb
    ·exact h
 exact key _ (List.mem_range.2 ht)
theorem resE_run{P:Program}{S:Tab}{C:Cy}{N:Nat}{s:ASt S.τ}{a:Act}{w:World}{ρ:Rho}{As:List Asn}{Ps:List (World→Prop)}(hH:HoldR P S C N s a w ρ As Ps):∀{rs:List ResultVar} {as:List (A1 S.τ)},resE P s rs=some as→(∀v∈rs,match v with| .tmp t=>t<N| .cell t _=>t<N)→
  ∃vs xs ps,resX P (fullE a N) rs vs=some (xs,ps)∧AllP w ps∧All2 (RelA1 S ρ Ps) as xs
 |[],as,h,_=>by obtain rfl:=someI' h;exact⟨[],[],[],rfl,trivial,trivial⟩
 | .tmp t::r,as,h,hN=>by
  simp only[resE] at h
  split at h
  ·rename_i x xs h1 h2
   obtain rfl:=someI' h
   obtain⟨vs,ys,ps,g1,g2,g3⟩:=resE_run hH h2 λv hv=>hN v (List.mem_cons_of_mem _ hv)
   obtain⟨k1,k2⟩:=fullE_get (a:=a) (show t<N from hN (.tmp t) (List.mem_cons_self ..))
   exact⟨vs,a.tmps.getD t undef::ys,ps,by simp only[resX];rw[k1,g1,k2],g2,hH.env t _ h1,g3⟩
  ·cases h
 | .cell t ty::r,as,h,hN=>by
  simp only[resE] at h
  split at h
  ·rename_i k xs h1 h2
   split at h
   ·rename_i ls hk
    split at h
    ·rename_i x hx
     obtain rfl:=someI' h
     obtain⟨vs,ys,ps,g1,g2,g3⟩:=resE_run hH h2 λv hv=>hN v (List.mem_cons_of_mem _ hv)
     obtain⟨k1,k2⟩:=fullE_get (a:=a) (show t<N from hN (.cell t ty) (List.mem_cons_self ..))
     obtain⟨As1,hp1,hi⟩:=All2.perm (er1_perm hk) hH.its
     obtain⟨A,As',rfl,hA,_⟩:=All2.cons_left hi
     obtain⟨g,us,hg,rfl,hr⟩:=box_open hA
     obtain⟨g',hg',hv⟩:=hH.env t _ h1
     rw[hg] at hg'
     obtain rfl:=someI' hg'
     have hown:=boxA_at ((hH.st.perm hp1).own (boxA g us) (List.mem_cons_self ..))
     obtain⟨v,hv1,hv2⟩:=ldV_rel hx (hr.take (szOf P ty))
     have hc:CellsAt w ⟨g.b,g.bo+0,none⟩ (us.take (szOf P ty)):=by
      have:=hown.cells.sub 0 (szOf P ty)
      rwa[add_zero',List.drop_zero] at this
     unfold loadV at hv1
     split at hv1
     ·rename_i i ha hi'
      split at hv1
      ·rename_i hb
       obtain rfl:=someI' hv1
       exact⟨us.take (szOf P ty)::vs,.agg (us.take (szOf P ty)).toArray::ys,(λw=>CellsAt w ⟨g.b,g.bo+0,none⟩ (us.take (szOf P ty)))::ps,by simp only[resX];rw[k1,k2,hv,hi',ha];simp only;rw[hb,g1],⟨hc,g2⟩,hv2,g3⟩
      ·cases hv1
     ·rename_i i ha hi'
      split at hv1
      ·rename_i c he
       obtain rfl:=someI' hv1
       rw[he] at hc
       exact⟨[c]::vs,c::ys,(λw=>CellsAt w ⟨g.b,g.bo+0,none⟩ [c])::ps,by simp only[resX];rw[k1,k2,hv,hi',ha];simp only;rw[g1],⟨hc,g2⟩,hv2,g3⟩
      ·cases hv1
     ·cases hv1
    ·cases h
   ·cases h
  ·cases h
def resLt(N:Nat):List ResultVar→Bool
 |[]=>true
 | .tmp t::r=>Nat.blt t N&&resLt N r
 | .cell t _::r=>Nat.blt t N&&resLt N r
theorem resLt_all{N:Nat}:∀{rs:List ResultVar},resLt N rs=true→∀v∈rs,match v with| .tmp t=>t<N| .cell t _=>t<N
 |[],_,v,hv=>by cases hv
 | .tmp t::r,h,v,hv=>by
  simp only[resLt,Bool.and_eq_true] at h
  rcases List.mem_cons.1 hv with rfl|hv
  ·exact(Nat.blt_eq▸h.1:t<N)
  ·exact resLt_all h.2 v hv
 | .cell t ty::r,h,v,hv=>by
  simp only[resLt,Bool.and_eq_true] at h
  rcases List.mem_cons.1 hv with rfl|hv
  ·exact(Nat.blt_eq▸h.1:t<N)
  ·exact resLt_all h.2 v hv
theorem putVs_len{S:Tab}{r:Type}(m:Nat→Nat):∀(ps:List PV)(z:PVsT S.τ ps r),(putVs S m ps z).1.length=ps.length
 |[],z=>rfl
 |p::ps,z=>by simp[putVs,putVs_len m ps]
theorem enterM{P:Program}{w:World}{f:FuncId}{fn:Func}{args:Array Value}{R:Ending→World→Prop}(N:Nat)(hf:P.funcs[f]? =some fn)(hb:fn.body=some (bodyOf fn))(hn:fn.ntmps=N)(hs:args.size≤N)
  (h:∀a,Has a N (args.toList.zipIdx.map λp=>(p.2,p.1))→(bodyOf fn).wpIn (roF none) 0 P (bodyPostM Fence.wide 0 P fn R) a w):Calls P f args w R:=by
 refine callsIn_wide.1 (callsIn_of_wp_marks (F:=Fence.wide) (n:=0) hf hb trivial (h _ ⟨by simp;omega,rfl, ?_⟩))
 have key:∀(l:List Value)(k t:Nat),hasK ((l.zipIdx k).map λp=>(p.2,p.1)) t=true→k≤t∧t-k<l.length∧lk ((l.zipIdx k).map λp=>(p.2,p.1)) t=l.getD (t-k) undef:=by
  intro l
  induction l with
  |nil=>intro k t h;simp[hasK] at h
  |cons v r ih=>
   intro k t hh
   simp only[List.zipIdx_cons,List.map_cons,hasK,lk] at hh⊢
   cases hb:Nat.beq k t
   ·simp only[hb] at hh⊢
    obtain⟨h1,h2,h3⟩:=ih (k+1) t hh
    refine⟨by omega,by simp;omega, ?_⟩
    rw[h3,show t-k=(t-(k+1))+1 from by omega]
    simp
   ·have:=Nat.eq_of_beq_eq_true hb
    subst this
    simp
 intro t ht
 obtain⟨_,h2,h3⟩:=key args.toList 0 t ht
 rw[h3]
 simp only[Nat.sub_zero,Array.length_toList] at h2⊢
 rw[Array.getD_eq_getD_getElem?,Array.getElem?_append_left h2]
 simp[List.getD_eq_getElem?_getD]
theorem leaves_marks{P:Program}{S:Tab}{C:Cy}{N:Nat}{fn:Func}{R:Ending→World→Prop}{s:ASt S.τ}{a:Act}(hpost:∀w,Hold P S C N s a w→∃v,(results fn a.tmps).run P w= .ok v w∧R (.returned v) w):∀(D:List Nat)(w:World),HoldD P S C N D s a w→LeavesInM Fence.wide 0 P fn a.tmps R (mks D) .returning w
 |[],w,h=>hpost w h.hold
 |d::D,w,h=>by
  obtain⟨C1,hR,hM,ρ,As,Ps,hH⟩:=h
  obtain⟨q1,q2,q3,q4⟩:=hM.all d (List.mem_cons_self ..)
  have hd:w.heap[d]? =some (.deferred (some [])):=by rw[hH.keep.block _ (heap_lt q1) q4];exact q1
  have hk:Keep [d] w (w.putObj d (.deferred none)):=keep_put (heap_lt hd)
  have hnd:=List.nodup_append.1 hH.st.nd
  refine⟨by simp,.inl ⟨d,w.putObj d (.deferred none),rfl,run_takeDeferred hd,leaves_marks hpost D _ ⟨⟨⟨C1.R,fps As,w.putObj d (.deferred none)⟩,C1.r0⟩, ?_, ?_, ?_⟩⟩⟩
  ·exact⟨hR.r0,(hR.keep' hH.keep).step hk (λb hb=> .inr (by simp at hb;subst hb;exact q3)),λb hb=>hR.old (hH.old b hb),hR.R⟩
  ·refine⟨λd' hd'=> ?_,(List.nodup_cons.1 hM.nd).2⟩
   obtain⟨p1,p2,p3,p4⟩:=hM.all d' (List.mem_cons_of_mem _ hd')
   have hne:d'≠d:=λe=>(List.nodup_cons.1 hM.nd).1 (e▸hd')
   have h1:w.heap[d']? =some (.deferred (some [])):=by rw[hH.keep.block _ (heap_lt p1) p4];exact p1
   exact⟨by rw[hk.block _ (heap_lt h1) (by simpa using hne)];exact h1,p2,p3,λh=>hnd.2.2 d' p2 d' h rfl⟩
  ·exact⟨ρ,As,Ps,hH.st.other hk (by simpa using q2),Keep.refl _ _,λb hb=> .inl hb,hH.size,hH.dfr,hH.env,hH.its,hH.dom,hH.org⟩
theorem fn_ok{W:Wk}(hW:WkOk W)(hm:W.P.follows .mixedOrders=true){c:Ct W.S}(N:Nat)(fn:Func)(h:Ht)(hf:W.P.funcs[c.g]? =some fn)(hc:∀args w,(callFunc c.g args).run W.P w= .ok (.enter c.g args) w)(hb:fn.body=some (bodyOf fn))(hn:fn.ntmps=N)(hs:Nat.ble c.av.length N=true)(hr:resLt N fn.results.toList=true)
  (he:∀n x,c.f n x=exFn W N n fn h c.av c.ai c.rv c.ri c.mk' x):OkC W.P W.S c:=by
 refine⟨hc,λn x y hy R w ρ As Ps args hst hdom hargs hits=> ?_⟩
 rw[he] at hy
 have hlen:args.length=c.av.length:=by rw[←hargs.len,putVs_len]
 refine enterM N hf hb hn (by simp[hlen];exact Nat.le_of_ble_eq_true hs) λa hA=> ?_
 have hnum:∀{α:Type} (k:Nat) (xs:List α),(numI k xs).length=xs.length:=by
  intro α k xs
  induction xs generalizing k with
  |nil=>rfl
  |cons x r ih=>simp[numI,ih]
 have hH:Hold W.P W.S ⟨⟨R,fps As,w⟩,ρ⟩ N ⟨c.ai.length,numE 0 (putVs W.S (λj=>j) c.av x).1,numI 0 (putIs W.S (λj=>j) c.ai (putVs W.S (λj=>j) c.av x).2).1,idMp 0 c.ai.length⟩ a w:=by
  refine⟨ρ,As,Ps,hst,Keep.refl _ _,λb hb=> .inl hb,hA.size,hA.defers,λt z hz=> ?_,hits,hdom,λi k g h1 h2=>by rw[←idMp_get h1];exact h2⟩
  obtain⟨i,u,rfl,h1,rfl⟩:=numE_look hz
  obtain⟨v,h2,h3⟩:=hargs.get h1
  have:a.tmps.getD (0+i) undef=v:=by
   rw[Nat.zero_add]
   have key:∀(l:List Value)(k:Nat),l[i]? =some v→hasK ((l.zipIdx k).map λp=>(p.2,p.1)) (k+i)=true∧lk ((l.zipIdx k).map λp=>(p.2,p.1)) (k+i)=v:=by
    clear h1 h2 hz h3
    induction i with
    |zero=>
     intro l k hl
     cases l with
     |nil=>simp at hl
     |cons z r=>
      simp at hl
      subst hl
      simp only[List.zipIdx_cons,List.map_cons,hasK,lk,Nat.add_zero]
      rw[show Nat.beq k k=true from Nat.beq_eq▸rfl];exact⟨rfl,rfl⟩
    |succ i ih=>
     intro l k hl
     cases l with
     |nil=>simp at hl
     |cons z r=>
      simp only[List.zipIdx_cons,List.map_cons,hasK,lk]
      have:Nat.beq k (k+(i+1))=false:=by
       cases hb:Nat.beq k (k+(i+1)) with
       |false=>rfl
       |true=>have:=Nat.eq_of_beq_eq_true hb;omega
      rw[this]
      have:=ih r (k+1) (by simpa using hl)
      rwa[show k+1+i=k+(i+1) from by omega] at this
   obtain⟨g1,g2⟩:=key args 0 h2
   rw[Nat.zero_add] at g1 g2
   have:=hA.get i g1
   simp only[List.toList_toArray] at this
   rw[this];exact g2
  rw[this];exact h3
 have hfin:∀(s:ASt W.S.τ)(a':Act)(w':World),finF W fn.results.toList c.rv c.ri c.mk' s=some y→Hold W.P W.S ⟨⟨R,fps As,w⟩,ρ⟩ N s a' w'→∀(e:Exit),(e= .normal∨e= .ret)→bodyPost W.P fn (λe w'=>∃v ρ' As' Ps',e= .returned v∧ResOk W.P W.S c ρ (c.un y) v As' ρ' Ps'∧Keep (fps As) w w'∧St R w' As' Ps'∧∀b∈fps As',b∈fps As∨w.heap.size≤b) e a' w':=by
  intro s a' w' hs' hH' e hee
  unfold finF at hs'
  obtain⟨ρ1,As1,Ps1,hH'⟩:=hH'
  split at hs'
  ·rename_i as has
   split at hs'
   ·rename_i y0 ks hra
    split at hs'
    ·rename_i hog
     obtain rfl:=someI' hs'
     rw[c.um]
     obtain⟨vs,xs,ps,g1,g2,g3⟩:=resE_run hH' has (resLt_all hr)
     obtain⟨ρ2,As2,Ps2,h1,h2,h3,h4,h5,h6⟩:=rdA_ok (P:=W.P) (C:=⟨⟨R,fps As,w⟩,ρ⟩) (w:=w') hW.ok hra ⟨hH'.st,hH'.keep,hH'.old,g3,hH'.its,hH'.dom,hH'.org⟩
     have hret:=retG (P:=W.P) (R:=λe w'=>∃v ρ' As' Ps',e= .returned v∧ResOk W.P W.S c ρ y0 v As' ρ' Ps'∧Keep (fps As) w w'∧St R w' As' Ps'∧∀b∈fps As',b∈fps As∨w.heap.size≤b) (fn:=fn) (fullE_has hH'.size hH'.dfr) fn.results.toList vs xs ps (by simp) g1 g2 ?_
     ·rcases hee with rfl|rfl
      ·exact hret
      ·exact hret
     ·refine⟨_,ρ2,As2,Ps2,rfl,⟨?_,h4,λr g hg=>by have:=h5 r g hg;simpa using this,λr j p g hj hg=> ?_⟩,hH'.keep,h1,h2⟩
      ·match hps:(putVs W.S (λj=>j) c.rv y0).1,xs,h3 with
       |[],[],_=>exact⟨[],rfl,trivial⟩
       |[z],[u],h3=>exact h3.1
       |z::z'::zs,u::u'::us,h3=>exact⟨_,rfl,h3⟩
      ·obtain⟨k,e1,e2⟩:=ogRes_get hog r j p hj
       rw[Nat.zero_add] at e2
       exact h6 j k r g e1 e2 hg
    ·cases hs'
   ·cases hs'
  ·cases hs'
 have ea:setD (mks []) a=a:=hH.dfr
 rw[←ea]
 refine exC_sound hW hm (bodyOf fn) true _ y none ⟨⟨R,fps As,w⟩,ρ⟩ [] h _ _ a w _ (λ_=>rfl) (λh=>(by cases h)) hy (HoldD.start hH) ⟨?_, ?_, ?_⟩
 ·intro D s a' w' _ h1 h2
  exact leaves_marks (λw'' hH''=>(hfin s a' w'' h1 hH'' .ret (.inr rfl)).2) D w' h2
 ·intro id f hf
  cases hf
 ·intro D s a' w' _ h1 h2
  exact leaves_marks (λw'' hH''=>(hfin s a' w'' h1 hH'' .ret (.inr rfl)).2) D w' h2
end
end Go.Bur
