import Derived.Test.YtchocpffjnodfaaGreatRules
namespace Go.Bur
open Go.RowKit
set_option linter.unusedVariables false
set_option linter.unusedSimpArgs false
def isSeq:Code→Bool| .seq _ _=>true|_=>false
def isCond:Code→Bool| .cond _ _ _=>true|_=>false
def isBlk:Code→Bool| .block _ _=>true|_=>false
def isLoop:Code→Bool| .loop _=>true|_=>false
def isSkip:Code→Bool| .skip=>true|_=>false
def isRet:Code→Bool| .ret=>true|_=>false
def exitI:Code→Option Nat| .exit i=>some i|_=>none
def regJ:Code→Option Nat| .region _ o false=>some o.size|_=>none
section
variable {P : Program} {n : Nat} {Q : Exit → Act → World → Prop} {a : Act} {w : World} {c : Code}
theorem k_seq(hc:isSeq c=true)(h:∀K:Act→World→Prop,(∀a w,(seqR c).wp P Q a w→K a w)→(seqL c).wp P (Exit.then K Q) a w):c.wp P Q a w:=by
 cases c<;>first|(exact c_seq _ _ rfl h)|cases hc
theorem k_cond{L:Env}(t:Bool)(hA:Has a n L)(hc:isCond c=true)(hk:knownO L (condX c)=true)(hx:evL L (condX c)= .bool t)
  (ht:t=true→(condT c).wp P Q a w) (hf:t=false→(condE c).wp P Q a w):c.wp P Q a w:=by
 cases c<;>first|(exact c_cond _ _ _ t hA rfl hk hx ht hf)|cases hc
theorem k_blk(hc:isBlk c=true)(h:(blkB c).wp P (Exit.inBlock (blkI c) Q) a w):c.wp P Q a w:=by
 cases c<;>first|(exact c_block _ _ rfl h)|cases hc
theorem k_skip(hc:isSkip c=true)(h:Q .normal a w):c.wp P Q a w:=by
 cases c<;>first|(exact c_skip rfl h)|cases hc
theorem k_ret(hc:isRet c=true)(h:Q .ret a w):c.wp P Q a w:=by
 cases c<;>first|(exact c_ret rfl h)|cases hc
theorem k_exit(i:Nat)(hc:exitI c=some i)(h:Q (.exit i) a w):c.wp P Q a w:=by
 cases c with
 |exit i'=>obtain rfl:=someI' hc;exact c_exit _ rfl h
 |_=>cases hc
theorem k_reg(j:Nat)(hc:regJ c=some j)(h:wpList P (regO c) Q (sg (regO c) 0 j) a w):c.wp P Q a w:=by
 cases c with
 |region id o d=>
  cases d with
  |true=>cases hc
  |false=>obtain rfl:=someI' hc;exact c_region _ _ rfl rfl h
 |_=>cases hc
theorem k_loop(hc:isLoop c=true)(I:Nat→Act→World→Prop)(n₀:Nat)(h₀:I n₀ a w)
  (round:∀n a w,I n a w→∀K:Act→World→Prop,(∀n' a' w',n'<n→I n' a' w'→K a' w')→(loopB c).wp P (Exit.then K Q) a w):c.wp P Q a w:=by
 cases c<;>first|(exact c_loop _ rfl I n₀ h₀ round)|cases hc
end
def drawJ:Code→Option Nat| .region _ o true=>some o.size|_=>none
section
variable {P : Program} {Q : Exit → Act → World → Prop} {C : Cx} {n : Nat} {a : Act} {w : World} {L : Env} {As : List Asn} {Ps : List (World → Prop)}
theorem k_draw{c:Code}(p j:Nat)(D:List DS)(ks:List Nat)(pl:List (Nat×List Hint))(cl:List Nat){ob:List (World→Prop)}(hm:P.follows .mixedOrders=true)
  (hc:drawJ c=some j) (hS:Sy C n a w L As Ps) (hok:relOk (regO c) p=true) (hks:∀F N0,ksOk (regO c) p (D.map (DS.sp F N0)) ks=true)
  (hd:(List.range p).all (λk=>match dstOf (regO c) k with|some d=>Nat.blt d n|none=>true)=true)
  (hv:drawB P n (regO c) p L As D pl=some (pl.map (λx=>valD D x.1),ob)) (hvD:(match Nat.beq D.length p with|true=>pl.all λx=>isV D x.1|false=>false)=true)
  (hpl:((List.range p).all λi=>match memN cl i with|true=>true|false=>pl.any λx=>Nat.beq x.1 i&&(match memN ks i with|true=>false|false=>true))=true)
  (ho:AllB (C.fr As) w ob)
  (steps:AllI (λi=>∀(V:Nat→Value) a' w',Ext w w'→Sy C n a' w' (envD (regO c) D V (predsOf (regO c) i)++extAt (regO c) p i L) As Ps→(∀j∈predsOf (regO c) i,∀QQ,D[j]? =some (.q QQ)→∃A' P',QQ (V j) A' P'∧St (C.fr As) w' A' P'∧∀b∈fps A',w.heap.size≤b)→
   StepR P (regO c) (Ek ks (Ext w) i) (specAt (D.map (DS.sp (C.fr As) w.heap.size)) i).p Q i a' w') cl)
  (fin:∀(V:Nat→Value) a' w',Ext w w'→Sy C n a' w' (envD (regO c) D V (List.range p)++extOut (regO c) p L) As Ps→(∀j,j<p→alive (regO c) p (D.map (DS.sp (C.fr As) w.heap.size)) ks j=true→∀QQ,D[j]? =some (.q QQ)→∃A' P',QQ (V j) A' P'∧St (C.fr As) w' A' P'∧∀b∈fps A',w.heap.size≤b)→
   wpList P (regO c) Q (sg (regO c) p j) a' w'):c.wp P Q a w:=by
 have hc':c= .region (regI c) (regO c) true∧(regO c).size=j:=by
  cases c with
  |region id o d=>
   cases d with
   |true=>exact⟨rfl,someI' hc⟩
   |false=>cases hc
  |_=>cases hc
 exact r_draw (regO c) p D ks pl cl hm hc'.1 hS hc'.2 hok hks hd hv hvD hpl ho steps fin
end
abbrev RSf{α:Type}(F:Flat α)(a:Option Addr)(c:Nat)(l:List α):World→Prop:=λw=>RS (G:=Flat.toGoT F) w a c l
abbrev Cel(A:Addr)(cs:List Value):World→Prop:=λw=>CellsAt w A cs
abbrev rowF{α:Type}(F:Flat α)(e:Nat)(a:Option Addr)(c:Nat)(l:List α):Asn:= .row a c e F.sz l.length (l.flatMap F.enc)
section
variable {α : Type} {F : Flat α} {a : Option Addr} {c e : Nat} {l : List α} {j : Int} {x y : α} {w : World} {G : List Nat}
theorem rowRS(h:(rowF F e a c l).holds w):RS (G:=Flat.toGoT F) w a c l:=row_rs h rfl rfl rfl
theorem loadRow(hx:idx l j=some x):LoadOk (rowF F e a c l) ((baseOf a).add (j.toNat*F.sz)) (F.enc x):=λw h=>(RS.fidx (rowRS h) hx).2
theorem LoadOk.sub{A:Asn}{p:Addr}{cs:List Value}(h:LoadOk A p cs)(o n:Nat):LoadOk A (p.add o) ((cs.drop o).take n):=λw hw=>(h w hw).sub o n
theorem Bx.sub{p:Addr}{cs:List Value}(h:Bx G w (Cel p cs))(o n:Nat):Bx G w (Cel (p.add o) ((cs.drop o).take n)):=λw' hk=>CellsAt.sub (h w' hk) o n
theorem appB{b:Option Addr}{c2:Nat}{m:List α}(h:Bx G w (RSf F b c2 m)):Bx G w (λw=>(CellsAt w (baseOf b) (m.flatMap F.enc)∧(b=none→m.length=0))∧(m.flatMap F.enc).length=m.length*F.sz∧∀u∈m.flatMap F.enc,u.oneCell'=true):=
 h.mono λw h=>app_src h
theorem rowF_app{m:List α}{C:Cx}{n:Nat}{ac:Act}{L:Env}{As:List Asn}{Ps:List (World→Prop)}{d:Nat}(h:Sy C n ac w ((d,.slice a (l.length+m.length) c)::L) (.row a c e F.sz (l.length+m.length) (l.flatMap F.enc++m.flatMap F.enc)::As) Ps){r:List α}(hr:r=l++m):
  Sy C n ac w ((d,.slice a r.length c)::L) (rowF F e a c r::As) Ps:=by
 subst hr
 unfold rowF
 rw[List.length_append,List.flatMap_append]
 exact h
def put(l:List α)(j:Int)(x:α):Option (List α):=if 0≤j∧j<(l.length:Int) then some (l.set j.toNat x) else none
theorem put_some{r:List α}(h:put l j x=some r):0≤j∧j<(l.length:Int)∧r=l.set j.toNat x∧l.length=r.length:=by
 unfold put at h
 split at h
 ·rename_i hb
  obtain rfl:=someI' h
  exact⟨hb.1,hb.2,rfl,by simp⟩
 ·cases h
theorem spl_all{cs vs:List Value}(h:vs.length=cs.length):spl cs 0 vs=vs:=by simp[spl,h]
theorem putRowAt{r:List α}{x':α}{off:Nat}{vs:List Value}(hx:idx l j=some x)(hr:put l j x'=some r)(ho:off+vs.length≤F.sz)(he:F.enc x'=spl (F.enc x) off vs)(h1:∀v∈vs,v.oneCell'=true){sl:Nat}(hsl:sl=l.length):
  PutOk (rowF F e a c l) (.row a c e F.sz sl (r.flatMap F.enc)) (((baseOf a).add (j.toNat*F.sz)).add off) vs:=by
 subst hsl
 obtain⟨h0,hlt,rfl,hlen⟩:=put_some hr
 have hltn:j.toNat<l.length:=by omega
 refine⟨by cases a<;>rfl,fp_row_nodup,h1,λw h=> ?_⟩
 have hx0:=hx
 unfold Bur.idx at hx
 rw[if_pos h0] at hx
 have h':w.ownsRow 0 e F.sz (.slice a l.length c) l.length (l.flatMap F.enc):=h
 rcases h'.2 with⟨_,hn⟩|⟨g,cap,cur,hv,_,hg,hnc,hcm,hcs,htake⟩
 ·omega
 ·injection hv with e1 e2 e3
  subst e1 e3
  have hin:j.toNat*F.sz+F.sz≤l.length*F.sz:=by
   have:=Nat.mul_le_mul_right F.sz (Nat.succ_le_of_lt hltn)
   rwa[Nat.succ_mul] at this
  have hcap:l.length*F.sz≤cur.size:=by rw[hcs];exact Nat.mul_le_mul_right _ hnc
  refine⟨g,j.toNat*F.sz+off,e,cur,by simp[Asn.fp],by simp only[baseOf,Option.getD_some];rw[add_add],hg,by omega,λw' hw' _=> ?_⟩
  have hset:(l.set j.toNat x').flatMap F.enc=spl (l.flatMap F.enc) (j.toNat*F.sz+off) vs:=by
   rw[enc_set (F:=F) x' l j.toNat hltn,he]
   have hgen:∀(l:List α)(i:Nat),l[i]? =some x→spl (l.flatMap F.enc) (i*F.sz) (spl (F.enc x) off vs)=spl (l.flatMap F.enc) (i*F.sz+off) vs:=by
    intro l
    induction l with
    |nil=>intro i hi;simp at hi
    |cons z r ih=>
     intro i hi
     cases i with
     |zero=>
      simp only[List.getElem?_cons_zero,Option.some.injEq] at hi
      subst hi
      have hz:=F.len z
      have hsl:(spl (F.enc z) off vs).length=F.sz:=by rw[spl_length (by rw[hz];exact ho),hz]
      have e2:List.drop F.sz (F.enc z++List.flatMap F.enc r)=List.flatMap F.enc r:=by rw[←hz];exact List.drop_left
      simp only[List.flatMap_cons,Nat.zero_mul,Nat.zero_add]
      unfold spl
      rw[List.take_zero,List.nil_append,Nat.zero_add]
      have hsl':(List.take off (F.enc z)++vs++List.drop (off+vs.length) (F.enc z)).length=F.sz:=hsl
      rw[hsl',e2,List.take_append_of_le_length (by rw[hz];omega),List.drop_append_of_le_length (by rw[hz];omega)]
      simp[List.append_assoc]
     |succ i=>
      simp only[List.getElem?_cons_succ] at hi
      have hz:=F.len z
      have key:∀(k:Nat)(us:List Value),spl (F.enc z++List.flatMap F.enc r) ((i+1)*F.sz+k) us=F.enc z++spl (List.flatMap F.enc r) (i*F.sz+k) us:=by
       intro k us
       unfold spl
       rw[Nat.succ_mul,show i*F.sz+F.sz+k=(F.enc z).length+(i*F.sz+k) from by rw[hz];omega,List.take_length_add_append,Nat.add_assoc,List.drop_length_add_append]
       simp[List.append_assoc]
      have k0:=key 0 (spl (F.enc x) off vs)
      simp only[Nat.add_zero] at k0
      rw[List.flatMap_cons,k0,key off vs,ih i hi]
   exact hgen l j.toNat hx
  have hxs:(l.flatMap F.enc).length=l.length*F.sz:=flat_len l
  refine⟨by rw[flat_len,←hlen],.inr ⟨g,c,_,rfl,Nat.zero_le _,hw',hnc,hcm, ?_, ?_⟩⟩
  ·have hl:=Array.length_toList (xs:=cur)
   rw[List.size_toArray,spl_length (by omega),hl,hcs]
  ·rw[hset,←htake,List.toList_toArray,spl_take (by omega) (by rw[Array.length_toList];exact hcap)]
theorem putRow{r:List α}{x':α}(hx:idx l j=some x)(hr:put l j x'=some r){sl:Nat}(hsl:sl=l.length):
  PutOk (rowF F e a c l) (.row a c e F.sz sl (r.flatMap F.enc)) ((baseOf a).add (j.toNat*F.sz)) (F.enc x'):=by
 have:=putRowAt (F:=F) (e:=e) (a:=a) (c:=c) (off:=0) (vs:=F.enc x') hx hr (by rw[F.len];omega) (spl_all (by rw[F.len,F.len])).symm (F.one x') hsl
 rwa[add_zero'] at this
end
theorem AllB.app{F:List Nat}{w:World}:∀{a b:List (World→Prop)},AllB F w a→AllB F w b→AllB F w (a++b)
 |[],_,_,h=>h
 |_::_,_,h,k=>⟨h.1,AllB.app h.2 k⟩
end Go.Bur
