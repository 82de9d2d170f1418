import Derived.Test.YtchocpffjnodfaaGreatScope
import Derived.Maps.Own
import Derived.Maps.Views
import Derived.Maps.RangeWalk
namespace Go.Bur
open Go.RowKit
set_option linter.unusedVariables false
set_option linter.unusedSimpArgs false
def mget{β:Type}(z:β):List (Int×β)→Int→β
 |[],_=>z
 |(k,v)::r,x=>match decide (k=x) with
  |true=>v
  |false=>mget z r x
def keyIn(q:IntKind)(x:Int):Bool:=(Lit.int q x).wf
def mlook{β:Type}(q:IntKind)(z:β)(m:List (Int×β))(x:Int):Option β:=match keyIn q x with
 |true=>some (mget z m x)
 |false=>none
def mput{β:Type}(q:IntKind)(m:List (Int×β))(x:Int)(v:β):Option (List (Int×β)):=match keyIn q x&&Nat.ble m.length 1000000 with
 |true=>some ((x,v)::m)
 |false=>none
theorem mlook_some{β:Type}{q:IntKind}{z:β}{m:List (Int×β)}{x:Int}{v:β}(h:mlook q z m x=some v):keyIn q x=true∧v=mget z m x:=by
 unfold mlook at h
 split at h
 ·rename_i hk;exact⟨hk,(someI' h).symm⟩
 ·cases h
theorem mput_some{β:Type}{q:IntKind}{m l:List (Int×β)}{x:Int}{v:β}(h:mput q m x v=some l):keyIn q x=true∧m.length≤1000000∧l=(x,v)::m:=by
 unfold mput at h
 split at h
 ·rename_i hk
  rw[Bool.and_eq_true] at hk
  exact⟨hk.1,Nat.le_of_ble_eq_true hk.2,(someI' h).symm⟩
 ·cases h
def mhas{β:Type}(m:List (Int×β))(x:Int):Bool:=m.any λp=>decide (p.1=x)
def mkeys{β:Type}:List (Int×β)→List Int
 |[]=>[]
 |p::r=>p.1::(mkeys r).filter λy=> !decide (y=p.1)
theorem mem_mkeys{β:Type}{x:Int}:∀{m:List (Int×β)},x∈mkeys m↔mhas m x=true
 |[]=>by simp[mkeys,mhas]
 |p::r=>by
  have ih:=mem_mkeys (x:=x) (m:=r)
  simp only[mkeys,mhas,List.mem_cons,List.mem_filter,List.any_cons,Bool.or_eq_true,decide_eq_true_iff] at ih⊢
  rw[ih]
  constructor
  ·rintro(h|⟨h,_⟩)
   ·exact .inl h.symm
   ·exact .inr h
  ·intro h
   by_cases e:x=p.1
   ·exact .inl e
   ·rcases h with h|h
    ·exact absurd h.symm e
    ·exact .inr ⟨h,by simpa using e⟩
theorem mkeys_nodup{β:Type}:∀{m:List (Int×β)},(mkeys m).Nodup
 |[]=>List.nodup_nil
 |p::r=>List.nodup_cons.2 ⟨λh=>by simpa using (List.mem_filter.1 h).2,(mkeys_nodup (m:=r)).filter _⟩
theorem strike_len{x:Int}:∀{l:List Int},l.Nodup→(l.filter λy=> !decide (y=x)).length+(if x∈l then 1 else 0)=l.length
 |[],_=>rfl
 |y::r,h=>by
  obtain⟨h1,h2⟩:=List.nodup_cons.1 h
  have ih:=strike_len (x:=x) h2
  by_cases e:y=x
  ·subst e
   rw[if_neg h1] at ih
   simp only[List.filter_cons,decide_true,Bool.not_true,Bool.false_eq_true,if_false,List.mem_cons,true_or,if_true,List.length_cons]
   omega
  ·have e':¬x=y:=λh=>e h.symm
   simp only[List.filter_cons,decide_eq_false e,Bool.not_false,if_true,List.mem_cons,e',false_or,List.length_cons]
   omega
theorem mkeys_put_len{β:Type}{m:List (Int×β)}{x:Int}{v:β}:(mkeys ((x,v)::m)).length=if mhas m x then(mkeys m).length else(mkeys m).length+1:=by
 have h:=strike_len (x:=x) (mkeys_nodup (m:=m))
 simp only[mkeys,List.length_cons]
 by_cases hx:mhas m x=true
 ·rw[if_pos (mem_mkeys.2 hx)] at h
  rw[if_pos hx];omega
 ·rw[if_neg (λhh=>hx (mem_mkeys.1 hh))] at h
  rw[if_neg hx];omega
structure MapT(P:Program)(t k e:TypeId)(q:IntKind){β:Type}(z:β)(E:β→Value)(L:β→DataW Unit):Prop where
 ht:P.underlying t=some (.map k e)
 hk:P.underlying k=some (.int q)
 hz:∀w,(zeroValue e).run P w= .ok (E z) w
 he:∀v,plainElem (H:=Unit) P e (E v)=some (L v,[])
 inv:∀u v ps,plainElem (H:=Unit) P e u=some (L v,ps)→u=E v
section
variable {β : Type} {P : Program} {t k e : TypeId} {q : IntKind} {z : β} {E : β → Value} {L : β → DataW Unit}
structure MapD(q:IntKind)(z:β)(L:β→DataW Unit)(m:List (Int×β))(n:Nat)(D:DataW Unit):Prop where
 le:n≤m.length
 top:m.length≤1000001
 tidy:Maps.Tidy D
 get:∀x,keyIn q x=true→D.atKey (.int q x) (L z)=L (mget z m x)
 has:∀x,keyIn q x=true→Maps.has D (.int q x)=mhas m x
 size:Maps.size D=(mkeys m).length
 keys:∀p∈m,keyIn q p.1=true
def MapIs(P:Program)(k e:TypeId)(q:IntKind)(z:β)(L:β→DataW Unit)(b:Nat)(m:List (Int×β))(w:World):Prop:=
 ∃n D,w.ownsMap P k (plainElem (H:=Unit) P e) b n D∧MapD q z L m n D
abbrev mapA(P:Program)(k e:TypeId)(q:IntKind)(z:β)(L:β→DataW Unit)(b:Nat)(m:List (Int×β)):Asn:= .any [b] (MapIs P k e q z L b m)
theorem MapIs.same{b:Nat}{m:List (Int×β)}{w w':World}(h:MapIs P k e q z L b m w)(hb:w'.heap[b]? =w.heap[b]?):MapIs P k e q z L b m w':=by
 obtain⟨n,D,⟨es,clock,h1,h2⟩,h3⟩:=h
 exact⟨n,D,⟨es,clock,hb.trans h1,h2⟩,h3⟩
theorem mapA_holds{b:Nat}{m:List (Int×β)}{w:World}(h:MapIs P k e q z L b m w):(mapA P k e q z L b m).holds w:=λw' hk=>h.same (hk b (by simp))
theorem mapA_is{b:Nat}{m:List (Int×β)}{w:World}(h:(mapA P k e q z L b m).holds w):MapIs P k e q z L b m w:=h w λ_ _=>rfl
theorem map_made(w:World):(mapA P k e q z L w.heap.size []).holds (w.alloc (.map #[] 0)):=
 mapA_holds ⟨0,.map [],World.ownsMap_made w P k _,Nat.le_refl _,by simp,Maps.tidy_empty,λx _=>rfl,λx _=>rfl,rfl,by simp⟩
theorem map_look(T:MapT P t k e q z E L){b:Nat}{m:List (Int×β)}{w:World}(h:(mapA P k e q z L b m).holds w){x:Int}{v:β}(hx:mlook q z m x=some v):
  (Instr.lookup t (.map (some b)) (.int q x) false).run P w= .ok (E v) w:=by
 obtain⟨n,D,ho,hD⟩:=mapA_is h
 obtain⟨hk,rfl⟩:=mlook_some hx
 obtain⟨u,ps,hrun,hu⟩:=ho.lookup (Maps.int_keyed T.hk) T.ht (T.hz w) (T.he z) (Maps.keyOf_int_mk T.hk hk)
 rw[hD.get x hk] at hu
 rw[hrun,T.inv u _ ps hu]
theorem turned_keep{w w':World}{b:Nat}(h:w.mapTurned w' b):Keep [b] w w':=Keep.grown h.grown (λc hc=>by injection hc with hc;simp[hc]) (by
 obtain⟨es,clock,es',clock',_,rfl⟩:=h
 exact Drn.setB (Nat.le_refl _) rfl (λc T fr h=>by cases h))
theorem map_put(T:MapT P t k e q z E L){b:Nat}{m l:List (Int×β)}{w:World}(h:(mapA P k e q z L b m).holds w){x:Int}{v:β}(hx:mput q m x v=some l):
  ∃w',(Instr.mapUpdate t (.map (some b)) (.int q x) (E v)).run P w= .ok () w'∧(mapA P k e q z L b l).holds w'∧Keep [b] w w':=by
 obtain⟨n,D,ho,hD⟩:=mapA_is h
 have hn:=hD.le
 have hm:=hD.top
 obtain⟨hk,hlen,rfl⟩:=mput_some hx
 obtain⟨w',hrun,h1,h2⟩:=ho.store (Maps.int_keyed T.hk) T.ht (by simp only[maxLen];omega) (Maps.keyOf_int_mk T.hk hk) (T.he v)
 refine⟨w',hrun,mapA_holds ⟨n+1,_,h1,by simp;omega,by simp;omega,hD.tidy.put (k:= .int q x) trivial _,λy hy=> ?_,λy hy=> ?_, ?_,λp hp=> ?_⟩,turned_keep h2⟩
 ·by_cases hxy:x=y
  ·subst hxy
   rw[Maps.atKey_put_same hD.tidy.isMap (by trivial)]
   simp[mget]
  ·rw[Maps.atKey_put_other (by intro e;injection e with _ e;exact hxy e.symm),hD.get y hy]
   simp[mget,hxy]
 ·by_cases hxy:x=y
  ·subst hxy
   rw[Maps.has_put_same hD.tidy.isMap (by trivial)]
   simp[mhas]
  ·rw[Maps.has_put_other (by intro e;injection e with _ e;exact hxy e.symm),hD.has y hy]
   simp[mhas,hxy]
 ·rw[Maps.size_put hD.tidy,hD.has x hk,hD.size,mkeys_put_len]
 ·rcases List.mem_cons.1 hp with rfl|hp
  ·exact hk
  ·exact hD.keys p hp
theorem map_len(T:MapT P t k e q z E L){b:Nat}{m:List (Int×β)}{w:World}(h:(mapA P k e q z L b m).holds w)(ty:TypeId):(Builtin.len_ #[t] ty #[.map (some b)]).run P w= .ok (.int .i64 ((mkeys m).length:Int)) w:=by
 obtain⟨n,D,ho,hD⟩:=mapA_is h
 rw[ho.len T.ht ty,hD.size]
def IterIs(P:Program)(k e:TypeId)(q:IntKind)(z:β)(E:β→Value)(L:β→DataW Unit)(b r:Nat)(m:List (Int×β))(l:List Int)(cur:Option Int)(w:World):Prop:=
 ∃n D left cnt,w.ranges P k (plainElem (H:=Unit) P e) b r n D left cnt∧MapD q z L m n D∧(∀x,keyIn q x=true→left (.int q x)=decide (x∈l))∧(∀x∈l,keyIn q x=true)∧l.Nodup∧
  ∀x,cur=some x→(Instr.entry (.pointer (some ⟨r,0,none⟩))).run P w= .ok (.tuple #[.int q x,E (mget z m x)]) w
abbrev iterA(P:Program)(k e:TypeId)(q:IntKind)(z:β)(E:β→Value)(L:β→DataW Unit)(b r:Nat)(m:List (Int×β))(l:List Int)(cur:Option Int):Asn:= .any [b,r] (IterIs P k e q z E L b r m l cur)
theorem entry_same{w w':World}{b r since c0 clock:Nat}{seen:Array Nat}{es:Array MapEntry}{v:Value}(hr:w.heap[r]? =some (.mapIter (some b) since seen c0))(hb:w.heap[b]? =some (.map es clock))(hr':w'.heap[r]? =w.heap[r]?)(hb':w'.heap[b]? =w.heap[b]?)
  (h:(Instr.entry (.pointer (some ⟨r,0,none⟩))).run P w= .ok v w):(Instr.entry (.pointer (some ⟨r,0,none⟩))).run P w'= .ok v w':=by
 have hr2:w'.heap[r]? =some (.mapIter (some b) since seen c0):=hr'.trans hr
 have hb2:w'.heap[b]? =some (.map es clock):=hb'.trans hb
 simp only[Instr.entry,getObj,Sem.run_bind,Sem.run,hr,hb,Result.andThen] at h
 simp only[Instr.entry,getObj,Sem.run_bind,Sem.run,hr2,hb2,Result.andThen]
 cases hs:seen.back? with
 |none=>rw[hs] at h;simp[stuck,Sem.run] at h
 |some stamp=>
  rw[hs] at h
  simp only[Sem.run_bind,Sem.run,hb,hb2,Result.andThen] at h⊢
  by_cases hc:clock !=c0
  ·simp[hc,unsupported,Sem.run] at h
  ·simp only[hc,if_false,Bool.false_eq_true] at h⊢
   cases hf:es.find? (λx=>x.born==stamp) with
   |none=>rw[hf] at h;simp[unsupported,Sem.run] at h
   |some x=>
    rw[hf] at h
    simp[Sem.run] at h⊢
    exact h
theorem IterIs.same{b r:Nat}{m:List (Int×β)}{l:List Int}{cur:Option Int}{w w':World}(h:IterIs P k e q z E L b r m l cur w)(hb:w'.heap[b]? =w.heap[b]?)(hr:w'.heap[r]? =w.heap[r]?):IterIs P k e q z E L b r m l cur w':=by
 obtain⟨n,D,left,cnt,⟨es,clock,since,seen,c0,h1,h2,h3,h4,h5,h6⟩,g1,g2,g3,g4,g5⟩:=h
 exact⟨n,D,left,cnt,⟨es,clock,since,seen,c0,hb.trans h1,h2,h3,h4,hr.trans h5,h6⟩,g1,g2,g3,g4,λx hx=>entry_same h5 h1 hr hb (g5 x hx)⟩
end
section
variable {P : Program} {ops : Array Oper} {Q : Exit → Act → World → Prop} {C : Cx} {n : Nat} {a : Act} {w : World} {Lv : Env} {As : List Asn} {Ps : List (World → Prop)}
variable {β : Type} {t k e : TypeId} {q : IntKind} {z : β} {E : β → Value} {L : β → DataW Unit}
end
theorem mapT_bool{P:Program}{t k e:TypeId}{q:IntKind}(ht:P.underlying t=some (.map k e))(hk:P.underlying k=some (.int q))(he:P.underlying e=some .bool)(hz:∀w,(zeroValue e).run P w= .ok (.bool false) w):
  MapT P t k e q false Value.bool (λv=> .lit (.bool v)) where
 ht:=ht
 hk:=hk
 hz:=hz
 he v:=plainElem_bool he v
 inv u v ps h:=by
  unfold plainElem at h
  rw[he] at h
  cases u<;>simp at h
  rw[h.1]
end Go.Bur
