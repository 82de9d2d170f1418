import Derived.Test.YtlcmdgpjiendmaaGreatRules
namespace Go.Bur
open Go.RowKit
set_option linter.unusedVariables false
set_option linter.unusedSimpArgs false
def isSeq:Code→Bool| .seq _ _=>true|_=>false
def isCond:Code→Bool| .cond _ _ _=>true|_=>false
def isSkip:Code→Bool| .skip=>true|_=>false
def isRet:Code→Bool| .ret=>true|_=>false
def regJ:Code→Option Nat| .region _ o false=>some o.size|_=>none
section
variable {P : Program} {n : Nat} {Q : Exit → Act → World → Prop} {a : Act} {w : World} {c : Code}
theorem k_seq(hc:isSeq c=true)(h:∀K:Act→World→Prop,(∀a w,(seqR c).wp P Q a w→K a w)→(seqL c).wp P (Exit.then K Q) a w):c.wp P Q a w:=by
 cases c<;>first|(exact c_seq _ _ rfl h)|cases hc
theorem k_cond{L:Env}(t:Bool)(hA:Has a n L)(hc:isCond c=true)(hk:knownO L (condX c)=true)(hx:evL L (condX c)= .bool t)
  (ht:t=true→(condT c).wp P Q a w) (hf:t=false→(condE c).wp P Q a w):c.wp P Q a w:=by
 cases c<;>first|(exact c_cond _ _ _ t hA rfl hk hx ht hf)|cases hc
theorem k_skip(hc:isSkip c=true)(h:Q .normal a w):c.wp P Q a w:=by
 cases c<;>first|(exact c_skip rfl h)|cases hc
theorem k_ret(hc:isRet c=true)(h:Q .ret a w):c.wp P Q a w:=by
 cases c<;>first|(exact c_ret rfl h)|cases hc
theorem k_reg(j:Nat)(hc:regJ c=some j)(h:wpList P (regO c) Q (sg (regO c) 0 j) a w):c.wp P Q a w:=by
 cases c with
 |region id o d=>
  cases d with
  |true=>cases hc
  |false=>obtain rfl:=someI' hc;exact c_region _ _ rfl rfl h
 |_=>cases hc
end
def drawJ:Code→Option Nat| .region _ o true=>some o.size|_=>none
section
variable {P : Program} {Q : Exit → Act → World → Prop} {C : Cx} {n : Nat} {a : Act} {w : World} {L : Env} {As : List Asn} {Ps : List (World → Prop)}
theorem k_draw{c:Code}(p j:Nat)(D:List DS)(ks:List Nat)(pl:List (Nat×List Hint))(cl:List Nat){ob:List (World→Prop)}(hm:P.follows .mixedOrders=true)
  (hc:drawJ c=some j) (hS:Sy C n a w L As Ps) (hok:relOk (regO c) p=true) (hks:∀F N0,ksOk (regO c) p (D.map (DS.sp F N0)) ks=true)
  (hd:(List.range p).all (λk=>match dstOf (regO c) k with|some d=>Nat.blt d n|none=>true)=true)
  (hv:drawB P n (regO c) p L As D pl=some (pl.map (λx=>valD D x.1),ob)) (hvD:(match Nat.beq D.length p with|true=>pl.all λx=>isV D x.1|false=>false)=true)
  (hpl:((List.range p).all λi=>match memN cl i with|true=>true|false=>pl.any λx=>Nat.beq x.1 i&&(match memN ks i with|true=>false|false=>true))=true)
  (ho:AllB (C.fr As) w ob)
  (steps:AllI (λi=>∀(V:Nat→Value) a' w',Ext w w'→Sy C n a' w' (envD (regO c) D V (predsOf (regO c) i)++extAt (regO c) p i L) As Ps→(∀j∈predsOf (regO c) i,∀QQ,D[j]? =some (.q QQ)→∃A' P',QQ (V j) A' P'∧St (C.fr As) w' A' P'∧∀b∈fps A',w.heap.size≤b)→
   StepR P (regO c) (Ek ks (Ext w) i) (specAt (D.map (DS.sp (C.fr As) w.heap.size)) i).p Q i a' w') cl)
  (fin:∀(V:Nat→Value) a' w',Ext w w'→Sy C n a' w' (envD (regO c) D V (List.range p)++extOut (regO c) p L) As Ps→(∀j,j<p→alive (regO c) p (D.map (DS.sp (C.fr As) w.heap.size)) ks j=true→∀QQ,D[j]? =some (.q QQ)→∃A' P',QQ (V j) A' P'∧St (C.fr As) w' A' P'∧∀b∈fps A',w.heap.size≤b)→
   wpList P (regO c) Q (sg (regO c) p j) a' w'):c.wp P Q a w:=by
 have hc':c= .region (regI c) (regO c) true∧(regO c).size=j:=by
  cases c with
  |region id o d=>
   cases d with
   |true=>exact⟨rfl,someI' hc⟩
   |false=>cases hc
  |_=>cases hc
 exact r_draw (regO c) p D ks pl cl hm hc'.1 hS hc'.2 hok hks hd hv hvD hpl ho steps fin
end
abbrev RSf{α:Type}(F:Flat α)(a:Option Addr)(c:Nat)(l:List α):World→Prop:=λw=>RS (G:=Flat.toGoT F) w a c l
abbrev Cel(A:Addr)(cs:List Value):World→Prop:=λw=>CellsAt w A cs
abbrev rowF{α:Type}(F:Flat α)(e:Nat)(a:Option Addr)(c:Nat)(l:List α):Asn:= .row a c e F.sz l.length (l.flatMap F.enc)
section
variable {α : Type} {F : Flat α} {a : Option Addr} {c e : Nat} {l : List α} {j : Int} {x y : α} {w : World} {G : List Nat}
theorem rowRS(h:(rowF F e a c l).holds w):RS (G:=Flat.toGoT F) w a c l:=row_rs h rfl rfl rfl
theorem LoadOk.sub{A:Asn}{p:Addr}{cs:List Value}(h:LoadOk A p cs)(o n:Nat):LoadOk A (p.add o) ((cs.drop o).take n):=λw hw=>(h w hw).sub o n
theorem Bx.sub{p:Addr}{cs:List Value}(h:Bx G w (Cel p cs))(o n:Nat):Bx G w (Cel (p.add o) ((cs.drop o).take n)):=λw' hk=>CellsAt.sub (h w' hk) o n
theorem appB{b:Option Addr}{c2:Nat}{m:List α}(h:Bx G w (RSf F b c2 m)):Bx G w (λw=>(CellsAt w (baseOf b) (m.flatMap F.enc)∧(b=none→m.length=0))∧(m.flatMap F.enc).length=m.length*F.sz∧∀u∈m.flatMap F.enc,u.oneCell'=true):=
 h.mono λw h=>app_src h
theorem rowF_app{m:List α}{C:Cx}{n:Nat}{ac:Act}{L:Env}{As:List Asn}{Ps:List (World→Prop)}{d:Nat}(h:Sy C n ac w ((d,.slice a (l.length+m.length) c)::L) (.row a c e F.sz (l.length+m.length) (l.flatMap F.enc++m.flatMap F.enc)::As) Ps){r:List α}(hr:r=l++m):
  Sy C n ac w ((d,.slice a r.length c)::L) (rowF F e a c r::As) Ps:=by
 subst hr
 unfold rowF
 rw[List.length_append,List.flatMap_append]
 exact h
def put(l:List α)(j:Int)(x:α):Option (List α):=if 0≤j∧j<(l.length:Int) then some (l.set j.toNat x) else none
theorem put_some{r:List α}(h:put l j x=some r):0≤j∧j<(l.length:Int)∧r=l.set j.toNat x∧l.length=r.length:=by
 unfold put at h
 split at h
 ·rename_i hb
  obtain rfl:=someI' h
  exact⟨hb.1,hb.2,rfl,by simp⟩
 ·cases h
theorem spl_all{cs vs:List Value}(h:vs.length=cs.length):spl cs 0 vs=vs:=by simp[spl,h]
end
theorem AllB.up{F F':List Nat}{w:World}(hu:∀{p:World→Prop},Bx F w p→Bx F' w p):∀{l:List (World→Prop)},AllB F w l→AllB F' w l
 |[],_=>trivial
 |_::_,h=>⟨hu h.1,AllB.up hu h.2⟩
theorem AllB.app{F:List Nat}{w:World}:∀{a b:List (World→Prop)},AllB F w a→AllB F w b→AllB F w (a++b)
 |[],_,_,h=>h
 |_::_,_,h,k=>⟨h.1,AllB.app h.2 k⟩
end Go.Bur
