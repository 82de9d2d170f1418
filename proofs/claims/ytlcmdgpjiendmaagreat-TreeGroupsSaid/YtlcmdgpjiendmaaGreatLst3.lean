import Derived.Test.YtlcmdgpjiendmaaGreatHn
namespace Go.Bur
open Go.RowKit
set_option linter.unusedVariables false
set_option linter.unusedSimpArgs false
theorem aR{α:Type}(l:List α)(i:Nat):idx l (i:Int)=l[i]? :=by
 unfold idx
 rw[if_pos (Int.natCast_nonneg i),Int.toNat_natCast]
theorem pM{α:Type}(l:List α):idx l 0=l[0]? :=aR l 0
theorem cN{x:Int}(h: -9223372036854775808<=x/\x<=9223372036854775807):IntKind.wrap .i64 x=x:=by rw[IntKind.wrap_i64];omega
theorem aJ{i:Nat}(h:i<4611686018427387904):IntKind.wrap .i64 ((i:Int)+1)=((i+1:Nat):Int):=by rw[IntKind.wrap_i64];omega
theorem Ph:IntKind.wrap .i64 1=1:=by rw[IntKind.wrap_i64];rfl
theorem lN{i:Nat}(h:i<4611686018427387904):IntKind.wrap .i64 (((i+1:Nat):Int)-1)=(i:Int):=by rw[IntKind.wrap_i64];omega
theorem wrap_add{i j:Nat}(h:i+j<4611686018427387904):IntKind.wrap .i64 ((i:Int)+(j:Int))=((i+j:Nat):Int):=by rw[IntKind.wrap_i64];omega
theorem bH{i n:Nat}(h:i<n):decide ((i:Int)<(n:Int))=true:=decide_eq_true (by omega)
theorem bI{i n:Nat}(h:¬i<n):decide ((i:Int)<(n:Int))=false:=decide_eq_false (by omega)
theorem FK{k b:Nat}(h:k*b<=140737488355328):room k b=true:=Nat.ble_eq_true_of_le h
theorem ZR{α:Type}{b:Nat}{l m:List α}(h:(l.length+m.length)*b<=140737488355328):app b l m=some (l++m):=by
 unfold app;rw[FK h]
theorem cE{α:Type}{b:Nat}{l m:List α}(h:l.length+m.length<=1000000)(hb:b<=1000):app b l m=some (l++m):=
 ZR (Nat.le_trans (Nat.mul_le_mul h hb) (by decide))
theorem drop_cons{α:Type}{l:List α}{i:Nat}(h:i<l.length):l.drop i=l[i]::l.drop (i+1):=List.drop_eq_getElem_cons h
theorem get_some{α:Type}{l:List α}{i:Nat}(h:i<l.length):l[i]? =some l[i]:=List.getElem?_eq_getElem h
theorem drop_nil{α:Type}{l:List α}{i:Nat}(h:¬i<l.length):l.drop i=[]:=List.drop_eq_nil_of_le (by omega)
theorem Cm{α:Type}{l:List α}{a b:Nat}(h:a<=b)(hb:b<=l.length):sub l (a:Int) (b:Int)=some ((l.drop a).take (b-a)):=by
 unfold sub
 rw[if_pos ⟨by omega,by omega,by omega⟩,Int.toNat_natCast,Int.toNat_natCast]
theorem VF{α:Type}{b:Bool}{x y:α}(h:b=true):cond b x y=x:=by rw[h];rfl
theorem Ru{α:Type}{b:Bool}{x y:α}(h:b=false):cond b x y=y:=by rw[h];rfl
theorem EJ{α:Type}{l:List α}{i:Nat}{x:α}(h:i<l.length):put l (i:Int) x=some (l.set i x):=by
 unfold put
 rw[if_pos ⟨by omega,by omega⟩,Int.toNat_natCast]
theorem XZ{R:Type}{e:Bool}{x y:Option R}(h:e=true->x=y):La e x y=y:=by
 unfold La
 cases e with
 |true=>rw[h rfl];exact RJ y
 |false=>rfl
theorem Ja{α:Type}{b:Nat}{l:List α}(h:l.length<=1000000)(hb:b<=1000):La l.isEmpty (some ([]:List α)) ((app b ([]:List α) l).bind λl1=>some l1)=some l:=by
 have h1:app b ([]:List α) l=some l:=by rw[cE (by simpa using h) hb];rfl
 rw[h1]
 exact XZ λhe=>by simp at he;subst he;rfl
def dY{α σ R:Type}(step:Nat->α->σ->Option R ⊕ σ)(fin:σ->Option R):List α->Nat->σ->Option R
 |[],_,s=>fin s
 |x::t,i,s=>match step i x s with
  | .inl v=>v
  | .inr s'=>dY step fin t (i+1) s'
theorem gH{T α σ R:Type}{F:(T->Option R)->T->Option R}(l:List α)(mk:Nat->σ->T)(step:Nat->α->σ->Option R ⊕ σ)(fin:σ->Option R)
  (hF:∀r i s x,l[i]? =some x->i<l.length->F r (mk i s)=match step i x s with| .inl v=>v| .inr s'=>r (mk (i+1) s'))
  (hE:∀r s,F r (mk l.length s)=fin s):∀m i s,i<=l.length->l.length-i<m->aW F m (mk i s)=dY step fin (l.drop i) i s:=by
 intro m
 induction m with
 |zero=>intro i s _ h;omega
 |succ m ih=>
  intro i s hi hm
  show F (aW F m) (mk i s)=_
  by_cases h:i<l.length
  ·rw[hF _ i s _ (get_some h) h,drop_cons h]
   simp only[dY]
   cases step i l[i] s with
   |inl v=>rfl
   |inr s'=>exact ih (i+1) s' (by omega) (by omega)
  ·obtain rfl:i=l.length:=by omega
   rw[hE,drop_nil h];rfl
theorem iT{T α σ R:Type}{F:(T->Option R)->T->Option R}(l:List α)(mk:Nat->σ->T)(step:Nat->α->σ->Option R ⊕ σ)(fin:σ->Option R)(I:Nat->σ->Prop)
  (hI:∀i s x s',l[i]? =some x->I i s->step i x s= .inr s'->I (i+1) s')
  (hF:∀r i s x,l[i]? =some x->i<l.length->I i s->F r (mk i s)=match step i x s with| .inl v=>v| .inr s'=>r (mk (i+1) s'))
  (hE:∀r s,I l.length s->F r (mk l.length s)=fin s):∀m i s,i<=l.length->l.length-i<m->I i s->aW F m (mk i s)=dY step fin (l.drop i) i s:=by
 intro m
 induction m with
 |zero=>intro i s _ h;omega
 |succ m ih=>
  intro i s hi hm hs
  show F (aW F m) (mk i s)=_
  by_cases h:i<l.length
  ·rw[hF _ i s _ (get_some h) h hs,drop_cons h]
   simp only[dY]
   cases hst:step i l[i] s with
   |inl v=>rfl
   |inr s'=>exact ih (i+1) s' (by omega) (by omega) (hI i s _ s' (get_some h) hs hst)
  ·obtain rfl:i=l.length:=by omega
   rw[hE _ _ hs,drop_nil h];rfl
end Go.Bur
