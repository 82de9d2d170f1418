import Derived.Test.YtchocpffjnodfaaGreatMaps
import Derived.RangeFuncLeaves
import Derived.RangeFuncRecord
import Derived.RangeFuncSeq
import Derived.OrdersIn
import Derived.TacticsIn
import Derived.Sort.LoopGhostIn
namespace Go.Bur
open Go.RowKit
set_option linter.unusedVariables false
set_option linter.unusedSimpArgs false
def roF(ro:Option Nat):Fence:={Fence.wide with round:=ro}
def setD(D:List Deferred)(a:Act):Act:={a with defers:=D}
theorem setD_put(D:List Deferred)(a:Act)(d:Option Tmp)(v:Value):(setD D a).put d v=setD D (a.put d v):=by cases d<;>rfl
theorem setD_eval(D:List Deferred)(a:Act):(setD D a).eval=a.eval:=funext λx=>by cases x<;>rfl
def uponX(P:Program)(o:Oper)(a:Act)(K:Act→World→Prop):Result Next→Prop
 | .ok (.value v) w'=>K (a.put o.dst v) w'
 | .ok .skip w'=>K (a.put o.dst undef) w'
 | .ok (.enter f args) w'=>Calls P f args w' λe w''=>∃v,e= .returned v∧K (a.put o.dst v) w''
 | .ok (.round l f tmps assign body) w'=>RoundIn Fence.wide 0 P l f tmps assign body w' λe w''=>∃v,e= .returned v∧K (a.put o.dst v) w''
 |_=>False
def wpX(P:Program)(o:Oper)(a:Act)(w:World)(K:Act→World→Prop)(Q:Exit→Act→World→Prop):Prop:=uponX P o a K ((execOp a.eval o).run P w)
theorem wpX_no{P:Program}{o:Oper}{a:Act}{w:World}{K:Act→World→Prop}{Q:Exit→Act→World→Prop}(h:wpX P o a w K Q):∀c,o.op≠ .defer c:=by
 intro c hc
 unfold wpX at h
 rw[show execOp a.eval o=(do return .defer (←resolve a.eval c o.type)) from by unfold execOp;rw[hc]] at h
 rw[Sem.run_bind] at h
 cases hr:(resolve a.eval c o.type).run P w with
 |ok d w'=>rw[hr] at h;exact h
 |halt x w'=>rw[hr] at h;exact h
def liftA(D:List Deferred)(K:Act→World→Prop):Act→World→Prop:=λa' w'=>∃b,a'=setD D b∧K b w'
theorem wpX_in{P:Program}{o:Oper}{a:Act}{w:World}{K:Act→World→Prop}{Q Q':Exit→Act→World→Prop}{ro:Option Nat}{D:List Deferred}(h:wpX P o a w K Q):o.wpIn (roF ro) 0 P (setD D a) w (liftA D K) Q':=by
 refine⟨λf _=>trivial, ?_⟩
 have hn:=wpX_no h
 rw[show(roF ro).round=ro from rfl,Oper.semAt_eq ro _ o hn,setD_eval]
 unfold wpX at h
 generalize (execOp a.eval o).run P w=r at*
 cases r with
 |ok x w'=>
  cases x<;>simp only[uponX,Oper.uponIn] at h⊢
  ·exact⟨_,setD_put ..,h⟩
  ·exact⟨_,setD_put ..,h⟩
  ·refine⟨λhd=>(by cases hd), ?_⟩
   refine CallsIn.mono (callsIn_wide.2 h) λe w'' he=> ?_
   obtain⟨v,rfl,hk⟩:=he
   exact⟨_,setD_put ..,hk⟩
  ·refine⟨λhd=>(by cases hd), ?_⟩
   refine RoundIn.mono (F:=Fence.wide) h λe w'' he=> ?_
   obtain⟨v,rfl,hk⟩:=he
   exact⟨_,setD_put ..,hk⟩
 |halt x w'=>cases x<;>exact h.elim
def wpListX(P:Program)(ops:Array Oper)(Q:Exit→Act→World→Prop):List Oper→Act→World→Prop
 |[],a,w=>Q .normal a w
 |o::rest,a,w=>if Region.wanted o (yielded ops a.tmps) then wpX P o a w (wpListX P ops Q rest) Q else wpListX P ops Q rest (a.put o.dst undef) w
def wpOpX(P:Program)(ops:Array Oper)(Q:Exit→Act→World→Prop)(i:Nat)(K:Act→World→Prop)(a:Act)(w:World):Prop:=
 match ops[i]? with
 |none=>K a w
 |some o=>if Region.wanted o (yielded ops a.tmps) then wpX P o a w K Q else K (a.put o.dst undef) w
def liftQ(D:List Deferred)(Q:Exit→Act→World→Prop):Exit→Act→World→Prop:=λe a' w'=>∃b,a'=setD D b∧Q e b w'
section
variable {P : Program} {ops : Array Oper} {Q : Exit → Act → World → Prop}
theorem wpListX_skip{a:Act}{w:World}{rest:List Oper}{o:Oper}(hw:Region.wanted o (yielded ops a.tmps)=false)(h:wpListX P ops Q rest (a.put o.dst undef) w):wpListX P ops Q (o::rest) a w:=by
 simp only[wpListX,hw]
 exact h
theorem wpListX_do{o:Oper}{rest:List Oper}{a:Act}{w w':World}{v:Value}(hw:Region.wanted o (yielded ops a.tmps)=true)
  (hr:(execOp a.eval o).run P w= .ok (.value v) w') (h:wpListX P ops Q rest (a.put o.dst v) w'):wpListX P ops Q (o::rest) a w:=by
 unfold wpListX
 rw[if_pos hw]
 simp only[wpX,hr,uponX]
 exact h
theorem wpListX_in{ro:Option Nat}{D:List Deferred}:∀{l:List Oper} {a:Act} {w:World},wpListX P ops Q l a w→wpListIn (roF ro) 0 P ops (liftQ D Q) l (setD D a) w
 |[],a,w,h=>⟨a,rfl,h⟩
 |o::rest,a,w,h=>by
  simp only[wpListX] at h
  show wpListIn (roF ro) 0 P ops (liftQ D Q) (o::rest) (setD D a) w
  unfold wpListIn
  cases hw:Region.wanted o (yielded ops a.tmps) with
  |true=>
   rw[hw,if_pos rfl] at h
   rw[show Region.wanted o (yielded ops (setD D a).tmps)=true from hw,if_pos rfl]
   refine Oper.wpIn_mono (λa' w' ha=> ?_) (wpX_in (ro:=ro) (D:=D) h)
   obtain⟨b,rfl,hb⟩:=ha
   exact wpListX_in hb
  |false=>
   rw[hw,if_neg (by simp)] at h
   rw[show Region.wanted o (yielded ops (setD D a).tmps)=false from hw,if_neg (by simp),setD_put]
   exact⟨λf _=>trivial,wpListX_in h⟩
theorem wpOpX_in{ro:Option Nat}{D:List Deferred}{i:Nat}{K:Act→World→Prop}{Q':Exit→Act→World→Prop}{a:Act}{w:World}(h:wpOpX P ops Q i K a w):wpOpIn (roF ro) 0 P ops Q' i (liftA D K) (setD D a) w:=by
 unfold wpOpX at h
 unfold wpOpIn
 split
 ·rename_i ho
  rw[ho] at h
  exact⟨a,rfl,h⟩
 ·rename_i o ho
  rw[ho] at h
  simp only at h
  cases hw:Region.wanted o (yielded ops a.tmps) with
  |true=>
   rw[hw,if_pos rfl] at h
   rw[show Region.wanted o (yielded ops (setD D a).tmps)=true from hw,if_pos rfl]
   exact wpX_in h
  |false=>
   rw[hw,if_neg (by simp)] at h
   rw[show Region.wanted o (yielded ops (setD D a).tmps)=false from hw,if_neg (by simp),setD_put]
   exact⟨λf _=>trivial,_,rfl,h⟩
theorem c_region_absI{F:Fence}{n0:Nat}{c:Code}{a:Act}{w:World}(ops:Array Oper)(J:(Nat→Bool)→Act→World→Prop)(hm:P.follows .mixedOrders=true)(hc:c= .region (regI c) ops true)
  (hb:((List.range ops.size).all λi=>(predsOf ops i).all λj=>Nat.blt j i)=true)
  (h0:J (λ_=>false) a {w with drawn:=w.drawn+1})
  (step:∀S i a w,J S a w→i<ops.size→S i=false→(∀j∈predsOf ops i,S j=true)→(∀k,S k=true→k<ops.size∧∀j∈predsOf ops k,S j=true)→wpOpIn F n0 P ops Q i (λa' w'=>J (λk=>if k=i then true else S k) a' w') a w)
  (fin:∀S a w,J S a w→(∀k,k<ops.size→S k=true)→Q .normal a w):c.wpIn F n0 P Q a w:=by
 rw[hc]
 have hback:∀i,i<ops.size→∀j∈predsOf ops i,j<i:=λi hi j hj=>by
  have:=List.all_eq_true.1 (List.all_eq_true.1 hb i (List.mem_range.2 hi)) j hj
  exact Nat.blt_eq▸this
 have main:∀fuel (listed:Array Bool) a w,listed.size=ops.size→listed.toList.count false=fuel→J (λk=>listed.getD k false) a w→(∀k,listed.getD k false=true→k<ops.size∧∀j∈predsOf ops k,listed.getD j false=true)→wpAnyIn F n0 P .any ops Q fuel listed a w:=by
  intro fuel
  induction fuel with
  |zero=>
   intro listed a w hs hcnt hJ _
   have hall:∀k,k<ops.size→listed.getD k false=true:=λk hk=>by
    have hlt:k<listed.size:=by omega
    have hno:=List.count_eq_zero.1 hcnt
    cases hlk:listed[k] with
    |true=>simp[hlt,hlk]
    |false=>exact absurd (by rw[←hlk];simp) hno
   refine⟨?_,fin _ a w hJ hall⟩
   rw[List.eq_nil_iff_forall_not_mem]
   intro j hj
   obtain⟨h1,o,ho,_⟩:=mem_ready.1 hj
   have hlt:=(Array.getElem?_eq_some_iff.1 ho).1
   have:=hall j hlt
   have hls:j<listed.size:=by omega
   simp[hls] at h1 this
   rw[h1] at this;cases this
  |succ fuel ih=>
   intro listed a w hs hcnt hJ hclo
   refine⟨λhr=> ?_,λi hi=> ?_⟩
   ·exfalso
    have hex:∃j,j<ops.size∧listed.getD j false=false:=by
     have:0<listed.toList.count false:=by omega
     obtain⟨k,hk,hkf⟩:=List.getElem_of_mem (List.count_pos_iff.1 this)
     refine⟨k,by simpa[hs] using hk, ?_⟩
     have hlt:k<listed.size:=by simpa using hk
     simp[hlt];simpa using hkf
    obtain⟨j,hj,hjf⟩:=hex
    have:∀k,k<ops.size→listed.getD k false=false→False:=by
     intro k
     induction k using Nat.strongRecOn with
     |_ k ihk=>
      intro hk hkf
      obtain⟨o,ho⟩:∃o,ops[k]? =some o:=⟨_,Array.getElem?_eq_getElem hk⟩
      have hlk:k<listed.size:=by omega
      have hkr:k∈Region.ready .any ops listed:=by
       rw[mem_ready]
       refine⟨by simp[hlk] at hkf⊢;exact hkf,o,ho,λe he hbd=> ?_⟩
       have hlt:=hback k hk e.on (by
        unfold predsOf
        rw[ho]
        exact List.mem_map.2 ⟨e,List.mem_filter.2 ⟨by simpa using he,hbd⟩,rfl⟩)
       cases hle:listed.getD e.on false
       ·exact(ihk e.on hlt (by omega) hle).elim
       ·rfl
      rw[hr] at hkr;cases hkr
    exact this j hj hjf
   ·obtain⟨hun,o,ho,hall⟩:=mem_ready.1 hi
    have his:i<ops.size:=(Array.getElem?_eq_some_iff.1 ho).1
    have hil:i<listed.size:=by omega
    have hun':listed.getD i false=false:=by simp[hil] at hun⊢;exact hun
    have hpr:∀j∈predsOf ops i,listed.getD j false=true:=λj hj=>by
     unfold predsOf at hj
     rw[ho] at hj
     obtain⟨e,he,hon⟩:=List.mem_map.1 hj
     obtain⟨he1,he2⟩:=List.mem_filter.1 he
     have h1:=hall e (by simpa using he1) he2
     rw[hon] at h1
     exact h1
    have hset:(λk=>(listed.setIfInBounds i true).getD k false)=λk=>if k=i then true else listed.getD k false:=by
     funext k
     by_cases e:i=k
     ·subst e;simp[hil]
     ·have e':¬k=i:=λh=>e h.symm
      simp[e,e']
    refine wpOpIn_mono (λa2 w2 hJ2=>ih _ a2 w2 (by simpa using hs) ?_ (by rw[hset];exact hJ2) λk hk=> ?_) (step _ i a w hJ his hun' hpr hclo)
    ·have hif:listed.toList[i]'(by simpa using hil)=false:=by simpa[hil] using hun'
     have hcs:=List.count_set (l:=listed.toList) (a:=true) (b:=false) (i:=i) (by simpa using hil)
     rw[hif] at hcs
     rw[Array.toList_setIfInBounds,hcs]
     have e1:(false==false)=true:=rfl
     have e2:(true==false)=false:=rfl
     simp only[e1,e2,if_true]
     rw[if_neg (by simp)]
     omega
    ·have hk':(if k=i then true else listed.getD k false)=true:=by rw[←congrFun hset k];exact hk
     have hmono:∀j,listed.getD j false=true→(listed.setIfInBounds i true).getD j false=true:=λj hj=>by
      have:=congrFun hset j
      rw[show(listed.setIfInBounds i true).getD j false=_ from this]
      split
      ·rfl
      ·exact hj
     by_cases e:k=i
     ·subst e;exact⟨his,λj hj=>hmono j (hpr j hj)⟩
     ·rw[if_neg e] at hk'
      obtain⟨h1,h2⟩:=hclo k hk'
      exact⟨h1,λj hj=>hmono j (h2 j hj)⟩
 refine wpIn_region_any hm (main _ _ a _ (by simp) (by simp) ?_ λk hk=> ?_)
 ·have:(λk=>(Array.replicate ops.size false).getD k false)=λ_=>false:=by
   funext k
   by_cases h:k<ops.size<;>simp[h]
  rw[this];exact h0
 ·exfalso
  by_cases h:k<ops.size<;>simp[h] at hk
theorem c_region_absX{c:Code}{a:Act}{w:World}{ro:Option Nat}{D:List Deferred}(ops:Array Oper)(J:(Nat→Bool)→Act→World→Prop)(hm:P.follows .mixedOrders=true)(hc:c= .region (regI c) ops true)
  (hb:((List.range ops.size).all λi=>(predsOf ops i).all λj=>Nat.blt j i)=true)
  (h0:J (λ_=>false) a {w with drawn:=w.drawn+1})
  (step:∀S i a w,J S a w→i<ops.size→S i=false→(∀j∈predsOf ops i,S j=true)→(∀k,S k=true→k<ops.size∧∀j∈predsOf ops k,S j=true)→wpOpX P ops Q i (λa' w'=>J (λk=>if k=i then true else S k) a' w') a w)
  (fin:∀S a w,J S a w→(∀k,k<ops.size→S k=true)→Q .normal a w):c.wpIn (roF ro) 0 P (liftQ D Q) (setD D a) w:=by
 refine c_region_absI ops (λS a' w'=>∃b,a'=setD D b∧J S b w') hm hc hb ⟨a,rfl,h0⟩ ?_ ?_
 ·rintro S i _ w ⟨b,rfl,hJ⟩ hi hS hp hk
  exact wpOpIn_mono (λa' w' h=>h) (wpOpX_in (step S i b w hJ hi hS hp hk))
 ·rintro S _ w ⟨b,rfl,hJ⟩ hall
  exact⟨b,rfl,fin S b w hJ hall⟩
end
section
variable {F : Fence} {n : Nat} {P : Program} {b : Frame} {a : Act} {k : List Item} {cs : List Frame} {w : World} {Q : Exit → Act → World → Prop}
theorem stepR_scope{c:Code}:step P (lone (b.atR a (.code (.scope c)::k)) cs w)= .next (lone (b.atR a (.code c:: .inScope c::k)) cs w):=
 step_lone_go (by simp[stepG,stepG.exec,Frame.atR])
theorem stepR_inScope{c:Code}:step P (lone (b.atR a (.inScope c::k)) cs w)= .next (lone (b.atR a k) cs w):=
 step_lone_go (by simp[stepG,stepG.exec,Frame.atR])
theorem wpIn_scope{c:Code}(h:c.wpIn F n P (Exit.noGoto Q) a w):(Code.scope c).wpIn F n P Q a w:=by
 intro b k cs hro hb hr
 have h0:(lone (b.atR a (.code (.scope c)::k)) cs w).fenced P F:=fenced_calm hb hr rfl
 obtain⟨e,a₁,w₁,hq,harr⟩:=h b (.inScope c::k) cs hro hb hr
 have hx:∀id,exitTo id (.inScope c::k)=exitTo id k:=λid=>by simp[exitTo]
 cases e with
 |normal=>exact⟨.normal,a₁,w₁,hq,.head h0 stepR_scope (StepsIn.trans harr (.one (fenced_calm hb hr rfl) stepR_inScope))⟩
 |exit id=>exact⟨.exit id,a₁,w₁,hq,λk' hk=> .head h0 stepR_scope (harr.1 k' (by rw[hx];exact hk)),λhr' hk=>let⟨k₁,h1,h2⟩:=harr.2 hr' (by rw[hx];exact hk);⟨k₁,h1,.head h0 stepR_scope h2⟩⟩
 |goto l=>exact hq.elim
 |ret=>exact⟨_,a₁,w₁,hq,.of_steps (.one h0 stepR_scope) harr⟩
 |panic ch=>exact⟨_,a₁,w₁,hq,.of_steps (.one h0 stepR_scope) harr⟩
 |outgrown=>exact⟨_,a₁,w₁,hq,.of_steps (.one h0 stepR_scope) harr⟩
end
end Go.Bur
