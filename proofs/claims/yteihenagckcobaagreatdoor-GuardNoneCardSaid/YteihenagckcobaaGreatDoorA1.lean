/- Texts joined. -/
import Init
import Derived.WalkKit
import Derived.WalkLawsBesides
import Derived.WalkSpells
import Derived.ChangeKeysEq
import Derived.StillTail
import Derived.OrdersHeld
import Derived.Scope
set_option linter.unusedVariables false
set_option linter.unusedSimpArgs false
abbrev zB:=@if_neg
abbrev zC:=@if_pos
abbrev zD:=@Nat.le_refl
abbrev zE:=@Bool.and_eq_true
abbrev zF:=@List.mem_map
abbrev zG:=@List.mem_of_getElem?
abbrev zH:=@Nat.zero_add
abbrev zI:=@List.mem_filter
abbrev zJ:=@List.getElem?_set_self
abbrev zK:=@decide_eq_true
abbrev zL:=@List.mem_append
abbrev zM:=@decide_eq_false
abbrev zN:=@List.getD_eq_getElem?_getD
abbrev zO:=@List.getElem?_of_mem
abbrev zP:=@if_true
abbrev zQ:=@List.length_append
abbrev zR:=@List.mem_singleton
abbrev zS:=@decide_eq_true_eq
abbrev zT:=@List.getElem?_eq_none
abbrev zU:=@List.map_cons
abbrev zV:=@beq_iff_eq
abbrev zW:=@List.length_cons
abbrev zX:=@List.mem_cons
abbrev zY:=@Int.eq_ofNat_of_zero_le
abbrev zZ:=@List.length_take
abbrev za:=@Bool.false_eq_true
abbrev zc:=@Option.map_some
abbrev zd:=@List.getElem?_map
abbrev ze:=@List.getElem?_set_ne
abbrev zg:=@List.getElem?_append_left
abbrev zh:=@List.mem_range
abbrev zj:=@List.getElem?_take
abbrev zk:=@Nat.add_mul
abbrev zl:=@List.length_map
abbrev zm:=@List.ext_getElem?
abbrev zn:=@List.getElem?_append_right
abbrev zo:=@Nat.eq_of_beq_eq_true
abbrev zp:=@if_false
abbrev zr:=@List.all_eq_true
abbrev zt:=@List.nodup_cons
abbrev zy:=@Array.getElem?_eq_some_iff
abbrev zz:=@Nat.add_zero
abbrev jM:=@List.length_drop
abbrev jX:=@Nat.lt_or_ge
abbrev jW:=@List.append_assoc
abbrev j5:=@List.map_congr_left
abbrev jU:=@List.any_eq_true
abbrev j3:=@List.getElem_mem
abbrev ka:=@Nat.two_pow_pos
abbrev kj:=@List.getElem?_drop
abbrev ky:=@Nat.le_trans
abbrev kv:=@List.mem_append_left
abbrev kG:=@List.cons_append
abbrev kI:=@List.length_nil
abbrev lq:=@Nat.mul_le_mul_right
abbrev lj:=@List.take_add_one
abbrev lp:=@Nat.mul_le_mul
abbrev lJ:=@List.getElem?_replicate
abbrev lP:=@Nat.pow_succ
abbrev lx:=@Bool.not_eq_true'
abbrev lN:=@List.any_eq_false
abbrev lV:=@List.map_map
abbrev lI:=@List.map_append
abbrev lF:=@List.append_nil
abbrev lu:=@List.pairwise_iff_getElem
abbrev lM:=@beq_eq_false_iff_ne
abbrev mi:=@List.take_of_length_le
abbrev mQ:=@List.findIdx?_eq_some_iff_getElem
abbrev mH:=@List.getElem?_set
abbrev mB:=@Nat.mul_one
abbrev mq:=@Bool.eq_iff_iff
abbrev mP:=@Bool.or_eq_true
abbrev mI:=@Nat.zero_lt_one
abbrev mw:=@List.getElem?_range
abbrev mR:=@List.set_set
abbrev mK:=@Bool.eq_false_iff
abbrev mY:=@List.take_append_drop
abbrev mU:=@List.mem_append_right
abbrev mX:=@List.take_length
abbrev m7:=@List.sum_cons
abbrev nk:=@List.length_set
abbrev nT:=@Option.map_eq_some_iff
abbrev nL:=@List.nodup_append
abbrev nZ:=@Nat.pow_le_pow_right
abbrev nt:=@List.take_append_of_le_length
abbrev oF:=@Nat.lt_trichotomy
abbrev om:=@Option.isSome_iff_exists
abbrev oE:=@List.pairwise_append
abbrev oB:=@Option.getD_some
abbrev ou:=@List.mem_cons_of_mem
abbrev oM:=@List.find?_eq_none
abbrev pO:=@List.foldl_cons
abbrev oV:=@List.filter_eq_self
abbrev oT:=@Bool.not_eq_true
abbrev oP:=@Bool.true_and
abbrev oR:=@Nat.min_eq_left
abbrev pn:=@List.length_pos_iff
abbrev pT:=@Nat.sub_self
abbrev pN:=@List.range_succ
abbrev qx:=@Array.getD_eq_getD_getElem?
abbrev qg:=@List.contains_eq_mem
abbrev qs:=@List.mem_cons_self
abbrev qe:=@List.set_cons_succ
abbrev qd:=@List.pairwise_cons
abbrev rG:=@Nat.div_div_eq_div_mul
abbrev rq:=@Nat.le_of_lt
abbrev rK:=@List.getElem?_modify
abbrev rT:=@List.filter_cons
abbrev qU:=@List.filter_sublist
abbrev qO:=@List.getElem_map
abbrev qV:=@Bool.and_false
abbrev rF:=@List.mem_of_mem_drop
abbrev rH:=@List.find?_some
abbrev rR:=@List.mem_of_find?_eq_some
abbrev r5:=@List.nil_append
abbrev qQ:=@List.flatMap_cons
abbrev qG:=@List.nodup_nil
abbrev rU:=@true_and
abbrev sE:=@List.find?_cons
abbrev r7:=@List.all_cons
abbrev sN:=@List.findIdx?_eq_none_iff
abbrev sG:=@List.map_nil
abbrev sk:=@Nat.mod_eq_of_lt
abbrev sU:=@Nat.mul_eq_zero
abbrev sx:=@List.getElem_of_mem
abbrev sK:=@Bool.and_true
abbrev sr:=@Nat.lt_of_lt_of_le
abbrev sv:=@List.map_replicate
abbrev sW:=@Bool.decide_and
abbrev sR:=@Bool.false_and
abbrev sF:=@List.pairwise_map
abbrev sD:=@List.length_filter_le
abbrev sS:=@Option.map_eq_none_iff
abbrev su:=@of_decide_eq_true
abbrev uG:=@Nat.mod_lt
abbrev uf:=@List.findIdx?_cons
abbrev tj:=@List.map_id
abbrev uR:=@List.flatten_cons
abbrev uK:=@Nat.mul_assoc
abbrev tz:=@Nat.zero_mul
abbrev uZ:=@Array.getElem?_push
abbrev tJ:=@Nat.ne_of_lt
abbrev uS:=@Array.length_toList
abbrev tO:=@List.filterMap_append
abbrev uc:=@List.mem_filterMap
abbrev tZ:=@Bool.not_false
abbrev tF:=@List.mem_of_mem_take
abbrev uC:=@Array.getElem?_append_left
abbrev uV:=@Nat.eq_of_mul_eq_mul_right
abbrev tG:=@List.length_flatten
abbrev vd:=@List.sum_replicate_nat
abbrev uu:=@Nat.add_assoc
abbrev tY:=@List.replicate_succ
abbrev uh:=@List.map_set
abbrev uI:=@List.countP_cons
abbrev tH:=@List.foldl_append
abbrev uF:=@List.count_append
abbrev vS:=@Nat.div_mul_le_self
abbrev wR:=@List.map_eq_nil_iff
abbrev vN:=@Array.mem_of_getElem?
abbrev wG:=@Array.getElem?_toList
abbrev vP:=@Array.getElem?_setIfInBounds_ne
abbrev we:=@List.mem_map_of_mem
abbrev wg:=@List.mem_replicate
abbrev vv:=@Nat.le_of_ble_eq_true
abbrev wb:=@Array.isEmpty_iff
abbrev wN:=@List.filter_congr
abbrev wh:=@List.contains_iff_mem
abbrev vU:=@Bool.false_or
abbrev vW:=@Array.getElem?_modify
abbrev vp:=@List.countP_eq_length_filter
abbrev vG:=@List.length_range
abbrev wq:=@List.count_replicate
abbrev vQ:=@List.take_take
abbrev wu:=@List.take_left'
abbrev wQ:=@List.take_succ_cons
abbrev vC:=@List.drop_succ_cons
abbrev wT:=@List.dropLast_eq_take
abbrev vT:=@List.mem_or_eq_of_mem_set
abbrev wO:=@List.filter_cons_of_neg
abbrev wA:=@List.filter_cons_of_pos
abbrev wL:=@List.filter_append
abbrev wF:=@List.count_eq_zero
abbrev vR:=@List.size_toArray
abbrev vV:=@of_decide_eq_false
abbrev Ac:=@Nat.mul_div_cancel
abbrev x8:=@Array.toList_modify
abbrev xz:=@Array.toList_eraseIdxIfInBounds
abbrev xU:=@List.replicate_succ'
abbrev Ah:=@List.filter_filter
abbrev yl:=@List.filterMap_cons
abbrev xg:=@Nat.lt_of_le_of_lt
abbrev yR:=@List.perm_ext_iff_of_nodup
abbrev xC:=@Nat.eq_zero_or_pos
abbrev xl:=@List.length_dropLast
abbrev xV:=@List.getElem?_cons_succ
abbrev ya:=@List.eq_nil_of_length_eq_zero
abbrev xq:=@List.drop_eq_getElem_cons
abbrev yq:=@Nat.add_sub_cancel_left
abbrev yB:=@List.take_sublist
abbrev Ae:=@List.find?_isSome
abbrev yg:=@List.eq_of_mem_replicate
abbrev yE:=@List.length_filter_lt_length_iff_exists
abbrev yk:=@List.getElem?_cons_zero
abbrev yD:=@List.length_singleton
abbrev xI:=@List.getElem?_zipWith
abbrev xb:=@List.nodup_iff_count
abbrev Am:=@List.count_pos_iff
abbrev Ag:=@List.count_singleton_self
theorem cX {α:Type _}{l:List α}{i:Nat}{a:α}:l[i]?=some a↔∃h:i<l.length,l[i]=a:=List.getElem?_eq_some_iff
theorem cW {α:Type _}{l:List α}{i:Nat}(h:i<l.length):l[i]?=some l[i]:=List.getElem?_eq_getElem h
theorem dC (n:Nat):(n:Int).toNat=n:=Int.toNat_natCast n
theorem O{p:Prop}(h:p:=by omega):p:=h
theorem aA{p:Prop}(h:p:=by simp):p:=h
theorem aB{p:Prop}(h:p:=by decide):p:=h
theorem aC{p:Prop}(h:p:=by simp only;omega):p:=h
theorem aD{p:Prop}(h:p:=by first|omega | (simp only;omega)):p:=h
theorem aE{p:Prop}(h:p:=by simp;omega):p:=h
abbrev aW(b:Nat):Option Go.Addr:=some ⟨b,0,none⟩
namespace Go.Ar
structure bZ where
 size:Nat
 aF:Nat
 batch:Nat
 deriving DecidableEq
def bZ.n (c:bZ):Nat:=c.aF*256/c.size
def VK (x y z:Int):Bool:=decide (8<=x)&&(decide (x<=512)&&(decide (x%8=0)&&(decide (1<=y)&&(decide (y<=4)&&(decide (x<=y*256)&&(decide (1<=z)&&decide (z<=32)))))))
def bZ.ok (c:bZ):Prop:=8<=c.size/\c.size<=512/\c.size%8=0/\1<=c.aF/\c.aF<=4/\c.size<=c.aF*256/\1<=c.batch/\c.batch<=32
theorem Uw (x y z:Int):VK x y z=true↔8<=x/\x<=512/\x%8=0/\1<=y/\y<=4/\x<=y*256/\1<=z/\z<=32:=by simp[VK]
theorem DJ (c:bZ):VK c.size c.aF c.batch=true↔c.ok:=by
 rw[Uw];unfold bZ.ok;omega
def ZS (t:Int×Int×Int):bZ:=⟨t.1.toNat,t.2.1.toNat,t.2.2.toNat⟩
theorem H4 {x y z:Int}(h:VK x y z=true):∃c:bZ,c.ok/\ZS (x,y,z)=c/\x=c.size/\y=c.aF/\z=c.batch:=by
 rw[Uw]at h;refine⟨ZS (x,y,z),?_,rfl,?_,?_,?_⟩<;>simp only[ZS,bZ.ok]<;>omega
def sd:List (Int×Int×Int)->Bool
 | x::y::l=>decide (x.1<y.1)&&sd (y::l)
 | _=>true
def Qe (xs:List (Int×Int×Int)):Bool:=decide (1<=xs.length)&&(decide (xs.length<=40)&&(xs.all (λt=>VK t.1 t.2.1 t.2.2)&&sd xs))
theorem bZ.ok.qn {c:bZ}(h:c.ok):1<=c.n:=by
 unfold bZ.ok at h;exact(Nat.one_le_div_iff O).2 h.2.2.2.2.2.1
theorem bZ.ok.jV {c:bZ}(h:c.ok):c.n<=128:=by
 unfold bZ.ok at h;unfold bZ.n;have:c.aF*256/c.size<=1024/8:=Nat.div_le_div O O O;omega
theorem bZ.uq (c:bZ):c.n*c.size<=c.aF*256:=vS _ _
structure cF where
 st:Nat
 tk:List Bool
 deriving DecidableEq
def cF.many (s:cF):Nat:=s.tk.count true
def idx (c:bZ)(s:cF)(x:Int):Option Nat:=if x<((s.st*256:Nat):Int)\/((s.st*256+s.tk.length*c.size:Nat):Int)<=x then none else some ((x-((s.st*256:Nat):Int)).toNat/c.size)
def at_ (c:bZ)(s:cF)(i:Nat):Nat:=s.st*256+i*c.size
def obj (c:bZ)(s:cF)(x:Int):Option Nat:=match idx c s x with
 | some i=>if x=((at_ c s i:Nat):Int)then some i else none
 | none=>none
theorem Vr {c:bZ}{s:cF}{x:Int}{i:Nat}(hc:0<c.size):idx c s x=some i↔((at_ c s i:Nat):Int)<=x/\x<((at_ c s (i+1):Nat):Int)/\i<s.tk.length:=by
 unfold idx at_;constructor
 ·intro h;split at h
  ·cases h
  ·rename_i hn;cases h;obtain⟨y,rfl⟩:=zY (show 0<=x by omega);have e:((y:Int)-((s.st*256:Nat):Int)).toNat=y-s.st*256:=by omega
   rw[e];have g:(y-s.st*256)/c.size*c.size<=y-s.st*256:=vS _ _;have b:=Nat.lt_div_mul_add (a:=y-s.st*256) hc;have d:(y-s.st*256)/c.size<s.tk.length:=(Nat.div_lt_iff_lt_mul hc).2 O;rw[zk];omega
 ·rintro⟨g,b,d⟩;obtain⟨y,rfl⟩:=zY (show 0<=x by omega);have j:(i+1)*c.size<=s.tk.length*c.size:=lq _ d;rw[zB O];have e:((y:Int)-((s.st*256:Nat):Int)).toNat=y-s.st*256:=by omega
  rw[e]
  congr 1
  rw[zk]at b;refine Nat.div_eq_of_lt_le ?_ ?_
  ·omega
  ·rw[zk];omega
theorem V6 {c:bZ}{s:cF}{x:Int}{i:Nat}(hc:0<c.size):obj c s x=some i↔x=((at_ c s i:Nat):Int)/\i<s.tk.length:=by
 unfold obj;constructor
 ·intro h;split at h
  ·rename_i j hj;split at h
   ·cases h;rename_i he;exact⟨he,((Vr hc).1 hj).2.2⟩
   ·cases h
  ·cases h
 ·rintro⟨rfl,hi⟩;have:idx c s ((at_ c s i:Nat):Int)=some i:=(Vr hc).2 ⟨Int.le_refl _,by unfold at_;rw[zk];omega,hi⟩;rw[this];simp
def low (s:cF):Option Nat:=s.tk.findIdx? (· == false)
def cF.put (s:cF)(i:Nat)(v:Bool):cF:={s with tk:=s.tk.set i v}
def kb (c:bZ)(ss:List cF)(x:Int):Option Nat:=ss.findIdx? λs=>(idx c s x).isSome
def dT (c:bZ)(ss:List cF)(x:Int):Option Bool:=match kb c ss x with
 | some k=>match ss[k]? with
  | some s=>(obj c s x).map λi=>s.tk.getD i false
  | none=>none
 | none=>none
def uU (x y:cF):Bool:=decide (x.many>y.many)||(x.many==y.many&&decide (x.st<y.st))
def Y3 (ss:List cF):Nat->Option Nat
 | 0=>none
 | k+1=>match ss[k]? with
  | some x=>if x.many<x.tk.length then(match Y3 ss k with
   | some j=>match ss[j]? with
    | some y=>if uU x y then some k else some j
    | none=>some k
   | none=>some k)else Y3 ss k
  | none=>Y3 ss k
def iy (ss:List cF):Option Nat:=Y3 ss ss.length
def iG (c:bZ)(ss:List cF):Option (Nat×List cF):=match iy ss with
 | some k=>match ss[k]? with
  | some s=>match low s with
   | some i=>some (at_ c s i,ss.set k (s.put i true))
   | none=>none
  | none=>none
 | none=>none
def QJ (c:bZ):Nat->List cF->List Nat×List cF
 | 0,ss=>([],ss)
 | m+1,ss=>match iG c ss with
  | some (x,ss')=>let r:=QJ c m ss';(x::r.1,r.2)
  | none=>([],ss)
def iq (c:bZ)(ss:List cF)(xs:List Int):Int:=
 if xs.any (λx=>(dT c ss x).isNone)then 8 else if xs.any (λx=>dT c ss x==some false) || !decide xs.Nodup then 9 else 0
def eW (c:bZ)(ss:List cF)(x:Int):List cF:=match kb c ss x with
 | some k=>match ss[k]? with
  | some s=>match obj c s x with
   | some i=>ss.set k (s.put i false)
   | none=>ss
  | none=>ss
 | none=>ss
def cK (ss:List cF):List cF:=ss.filter λs=>s.many != 0
def Z9 (ss:List cF):List Nat:=(ss.filter λs=>s.many==0).map (·.st)
def pB (c:bZ)(ss:List cF)(x:Int):Option Nat:=match kb c ss x with
 | some k=>match ss[k]? with
  | some s=>(idx c s x).map (at_ c s)
  | none=>none
 | none=>none
def gU (c:bZ)(ss:List cF)(st:Nat):List cF:=ss.takeWhile (λs=>s.st<st)++⟨st,List.replicate c.n false⟩::ss.dropWhile (λs=>s.st<st)
def HC (c:bZ)(ss:List cF)(x:Nat):Int:=if ss.any (λs=>max s.st x-min s.st x<c.aF)then 9 else 0
def Gs (ss:List cF):Nat:=(ss.map λs=>s.tk.length-s.many).sum
structure fX where
 low:Nat
 bs:List (List Int)
 deriving DecidableEq
def fW {α:Type}(l:List α)(a b:Nat)(v:α):List α:=l.mapIdx λi x=>if a<=i/\i<b then v else x
theorem Ki {α:Type}(l:List α)(a b:Nat)(v:α):(fW l a b v).length=l.length:=by simp[fW]
theorem Uv {α:Type}(l:List α)(a b:Nat)(v:α)(i:Nat):(fW l a b v)[i]?=(l[i]?).map λx=>if a<=i/\i<b then v else x:=by
 simp[fW,List.getElem?_mapIdx]
theorem La {α:Type}{l:List α}{a b:Nat}{v:α}(h1:a<=b)(h2:b<=l.length):fW l a b v=l.take a++List.replicate (b-a) v++l.drop b:=by
 apply zm;intro i;rw[Uv];rcases jX i a with h|h
 ·rw[jW,zg aE,zj,zC h];have:l[i]?=some l[i]:=cW O;rw[this];simp;omega
 rcases jX i b with h'|h'
 ·rw[jW,zn aE,zg aE];have:l[i]?=some l[i]:=cW O;rw[this];simp[lJ,h,h'];omega
 ·rw[zn aE];have e:i-(l.take a++List.replicate (b-a) v).length=i-b:=by simp;omega
  rw[e,kj,show b+(i-b)=i by omega];cases l[i]?<;>simp;omega
def qT (l:List Nat)(a b v:Nat):Nat:=((l.drop a).take (b-a)).count v
end Go.Ar
namespace Go.Bu
def full (S:Nat->Bool)(k q:Nat):Bool:=(List.range (2^k)).all λi=>S (q*2^k+i)
def can (S:Nat->Bool)(k q:Nat):Bool:=full S k q && !full S (k+1) (q/2)
theorem G9 {k q i:Nat}(hi:i<2^k):(q*2^k+i)/2^k=q:=by
 rw[Nat.add_comm,Nat.add_mul_div_right _ _ (ka k),Nat.div_eq_of_lt hi,zH]
theorem Hs {k q p:Nat}(h:p/2^k=q):p=q*2^k+p%2^k:=by
 rw[←h,Nat.mul_comm];exact(Nat.div_add_mod p (2^k)).symm
theorem ZT {k q p:Nat}:p/2^k=q↔q*2^k<=p/\p<q*2^k+2^k:=by
 have a:=ka k;constructor
 ·intro h;have:=Hs h;have b:=uG p a;omega
 ·rintro⟨h1,h2⟩;have:p=q*2^k+(p-q*2^k):=by omega
  rw[this];exact G9 O
theorem Yj {S:Nat->Bool}{k q:Nat}:full S k q=true↔∀p,p/2^k=q->S p=true:=by
 simp only[full,zr,zh];constructor
 ·intro h p hp;have:=h (p%2^k) (uG _ (ka k))
  rwa [←Hs hp]at this
 ·intro h i hi;exact h _ (G9 hi)
theorem Zn {S:Nat->Bool}{k q:Nat}:can S k q=true↔full S k q=true/\¬full S (k+1) (q/2)=true:=by
 simp[can]
theorem GG {p k j:Nat}(h:k<=j):p/2^j=p/2^k/2^(j-k):=by
 rw[rG,←Nat.pow_add]
 congr 2;omega
theorem AD {S:Nat->Bool}{k j q:Nat}(h:k<=j)(hf:full S j (q/2^(j-k))=true):full S k q=true:=by
 rw[Yj]at hf ⊢;intro p hp;exact hf p (by rw[GG h,hp])
theorem Cj {q k j:Nat}(h:k<j):q/2/2^(j-(k+1))=q/2^(j-k):=by
 rw[rG]
 congr 1
 rw[←Nat.pow_succ']
 congr 1;omega
theorem Qp {S:Nat->Bool}{k j q r p:Nat}(hk:can S k q=true)(hj:full S j r=true)(hp:p/2^k=q)(hr:p/2^j=r)(h:k<j):False:=by
 rw[Zn]at hk;refine hk.2 (AD (j:=j) O ?_);rw[Cj h,←hp,←GG (rq h),hr];exact hj
theorem AE {S:Nat->Bool}{k j q r p:Nat}(hk:can S k q=true)(hj:can S j r=true)(hp:p/2^k=q)(hr:p/2^j=r):k=j/\q=r:=by
 rcases oF k j with h|h|h
 ·exact(Qp hk (Zn.1 hj).1 hp hr h).elim
 ·subst h;exact⟨rfl,hp.symm.trans hr⟩
 ·exact(Qp hj (Zn.1 hk).1 hr hp h).elim
def Bounded (S:Nat->Bool)(n:Nat):Prop:=∀p,S p=true->p<n
theorem Zx {S:Nat->Bool}{n k q:Nat}(hb:Bounded S n)(h:full S k q=true):q*2^k+2^k<=n:=by
 rw[Yj]at h;have a:=ka k;have:=hb _ (h (q*2^k+(2^k-1)) (G9 O));omega
theorem Mz {S:Nat->Bool}{p:Nat}:full S 0 p=S p:=by simp[full]
theorem V2 {S:Nat->Bool}{n p:Nat}(hb:Bounded S n)(hp:S p=true):∃k,can S k (p/2^k)=true:=by
 apply Classical.byContradiction;intro hno;have all:∀k,full S k (p/2^k)=true:=by
  intro k
  induction k with
  | zero=>simpa[Mz]using hp
  | succ k ih=>
   apply Classical.byContradiction;intro hn;refine hno ⟨k,Zn.2 ⟨ih,?_⟩⟩;rw[rG,←lP];exact hn
 have:=Zx hb (all n);have:=@Nat.lt_two_pow_self n;omega
theorem Vp {S:Nat->Bool}{k q p:Nat}(h:can S k q=true)(hp:p/2^k=q):S p=true:=Yj.1 (Zn.1 h).1 p hp
def del (S:Nat->Bool)(k q:Nat):Nat->Bool:=λp=>S p && !(p/2^k==q)
def ins (S:Nat->Bool)(k q:Nat):Nat->Bool:=λp=>S p||p/2^k==q
theorem KY {S:Nat->Bool}{k q p:Nat}:del S k q p=true↔S p=true/\p/2^k≠q:=by simp[del]
theorem KW {S:Nat->Bool}{k q p:Nat}:ins S k q p=true↔S p=true\/p/2^k=q:=by simp[ins]
theorem Kb (k q:Nat):(q*2^k)/2^k=q:=Ac _ (ka k)
theorem xm {S:Nat->Bool}{k q j r:Nat}(hc:can S k q=true):can (del S k q) j r=true↔can S j r=true/\¬(j=k/\r=q):=by
 constructor
 ·intro h;obtain⟨i,s⟩:=Zn.1 h;rw[Yj]at i;have u:full S j r=true:=Yj.2 λp b=>(KY.1 (i p b)).1;refine⟨Zn.2 ⟨u,λd=>s (Yj.2 λp b=>?_)⟩,?_⟩
  ·refine KY.2 ⟨Yj.1 d p b,λg=>?_⟩;rcases jX k (j+1)with m|m
   ·exact Qp hc d g b m
   ·-- the greater Y7 lies in the block
    have a:=Kb j r;have w:=(KY.1 (i _ a)).2;apply w;rw[GG (show j+1<=k by omega)];have e:r*2^j/2^(j+1)=r/2:=by
     rw[lP,←rG,a]
    rw[e,←b,←GG (show j+1<=k by omega),g]
  ·rintro⟨rfl,rfl⟩;exact(KY.1 (i _ (Kb _ _))).2 (Kb _ _)
 ·rintro⟨h,hne⟩;obtain⟨i,s⟩:=Zn.1 h;refine Zn.2 ⟨Yj.2 λp b=>KY.2 ⟨Yj.1 i p b,λg=>hne ?_⟩,λd=>s (Yj.2 λp b=>(KY.1 (Yj.1 d p b)).1)⟩;obtain⟨m,x⟩:=AE h hc b g;exact⟨m,x⟩
theorem wz {S:Nat->Bool}{k q j r:Nat}(hd:∀p,p/2^k=q->S p=false)(hup:¬full (ins S k q) (k+1) (q/2)=true) :
 can (ins S k q) j r=true↔can S j r=true\/(j=k/\r=q):=by
 have g:can (ins S k q) k q=true:=Zn.2 ⟨Yj.2 λp d=>KW.2 (.inr d),hup⟩;constructor
 ·intro h;by_cases he:j=k/\r=q
  ·exact .inr he
  left;obtain⟨i,m⟩:=Zn.1 h;refine Zn.2 ⟨Yj.2 λp d=>?_,λa=>m (Yj.2 λp d=>KW.2 (.inl (Yj.1 a p d)))⟩;rcases KW.1 (Yj.1 i p d)with h1|h1
  ·exact h1
  ·exact(he (AE h g d h1)).elim
 ·rintro(h|⟨rfl,rfl⟩)
  ·obtain⟨i,m⟩:=Zn.1 h;refine Zn.2 ⟨Yj.2 λp d=>KW.2 (.inl (Yj.1 i p d)),λa=>m (Yj.2 λp d=>?_)⟩;rcases KW.1 (Yj.1 a p d)with h1|h1
   ·exact h1
   ·rcases jX k (j+1)with h2|h2
    ·refine(hup (AD (j:=j+1) O ?_)).elim;have e:q/2^(j+1-k)=r/2:=by rw[←h1,←GG (show k<=j+1 by omega),d]
     rw[Cj h2,e];exact a
    ·have b:=Kb j r;have s:=Yj.1 i _ b;have e:r*2^j/2^(j+1)=r/2:=by
      rw[lP,←rG,b]
     have:r*2^j/2^k=q:=by
      rw[GG h2,e,←d,←GG h2,h1]
     rw[hd _ this]at s;cases s
  ·exact g
def gM (q:Nat):Nat:=if q%2=0 then q+1 else q-1
theorem BE (q:Nat):gM q/2=q/2:=by unfold gM;split<;>omega
theorem OX (q:Nat):gM q≠q:=by unfold gM;split<;>omega
theorem MM {q r:Nat}(h:r/2=q/2):r=q\/r=gM q:=by unfold gM;split<;>omega
theorem UA {k q p:Nat}:p/2^(k+1)=q/2↔p/2^k=q\/p/2^k=gM q:=by
 rw[lP,←rG];constructor
 ·intro h;exact MM h
 ·rintro(h|h)<;>rw[h]
  exact BE q
theorem LC {T:Nat->Bool}{k q:Nat}(hd:∀p,p/2^k=q->T p=false)(hm:¬can T k (gM q)=true):¬full (ins T k q) (k+1) (q/2)=true:=by
 intro hup;have a:full T k (gM q)=true:=Yj.2 λp b=>by
  rcases KW.1 (Yj.1 hup p (UA.2 (.inr b)))with h|h
  ·exact h
  ·exact(OX q (b.symm.trans h)).elim
 have:full T (k+1) (gM q/2)=true:=Classical.byContradiction λh=>hm (Zn.2 ⟨a,h⟩);rw[BE]at this;have d:=Yj.1 this (q*2^k) (UA.2 (.inl (Kb k q)));rw[hd _ (Kb k q)]at d;cases d
def dA (S:Nat->Bool)(a b:Nat):Nat->Bool:=λp=>S p||(decide (a<=p)&&decide (p<b))
def take (S:Nat->Bool)(a b:Nat):Nat->Bool:=λp=>S p && !(decide (a<=p)&&decide (p<b))
theorem QV {S:Nat->Bool}{a b p:Nat}:dA S a b p=true↔S p=true\/(a<=p/\p<b):=by simp[dA]
theorem Kf {S:Nat->Bool}{a b p:Nat}:take S a b p=true↔S p=true/\¬(a<=p/\p<b):=by
 simp[take];intro _;omega
theorem GC {S T:Nat->Bool}(h:∀p,S p=true↔T p=true):S=T:=by
 funext p
 have:=h p;cases hs:S p<;>cases ht:T p<;>simp_all
theorem Pa (S:Nat->Bool)(k q:Nat):ins S k q=dA S (q*2^k) (q*2^k+2^k):=
 GC λp=>by rw[KW,QV,ZT]
theorem Oj {S:Nat->Bool}{a b c:Nat}(h1:a<=b)(h2:b<=c):dA (dA S a b) b c=dA S a c:=
 GC λp=>by simp only[QV];cases S p<;>simp<;>omega
theorem Oq (S:Nat->Bool)(a:Nat):dA S a a=S:=GC λp=>by simp only[QV];cases S p<;>simp<;>omega
theorem MH (S:Nat->Bool)(a:Nat):take S a a=S:=GC λp=>by simp only[Kf];cases S p<;>simp<;>omega
def many (n:Nat)(S:Nat->Bool)(k:Nat):Nat:=(List.range n).countP (can S k)
def PA (S:Nat->Bool)(K p:Nat):Bool:=(List.range K).any λk=>can S k (p/2^k)
end Go.Bu
namespace Go.Vc
open Go
abbrev Hp:=Array Obj
abbrev _root_.aN:=Int->Hp->Prop
abbrev _root_.aO:=Bool->Hp->Prop
abbrev _root_.aP:=Hp->Prop
structure Sl where
 a:Option Addr
 len:Nat
 cap:Nat
structure Fv where
 f:Nat
 first:Array Value
 captured:Array Value
inductive CK where
 | i (k:IntKind)|b|p|s|m|str|fn|raw|ag (n:Nat)|ad
 deriving DecidableEq
abbrev _root_.bN:CK:=.i .i64
@[reducible] def iV:Nat->Type
 | 0=>Unit
 | 1=>Int
 | n+2=>Int×iV (n+1)
def iV.vs:(n:Nat)->iV n->List Value
 | 0,_=>[]
 | 1,x=>[.int .i64 x]
 | n+2,x=>.int .i64 x.1::iV.vs (n+1) x.2
@[reducible] def CK.T:CK->Type
 | .i _=>Int
 | .b=>Bool
 | .p=>Option Addr
 | .s=>Sl
 | .m=>Option Nat
 | .str=>ByteArray
 | .fn=>Fv
 | .raw=>Value
 | .ag n=>iV n
 | .ad=>Addr
def CK.v:(c:CK)->c.T->Value
 | .i k,y=>.int k y
 | .b,x=>.bool x
 | .p,y=>.pointer y
 | .s,y=>.slice y.a y.len y.cap
 | .m,y=>.map y
 | .str,x=>.string x
 | .fn,x=>.func (.func x.f) x.first x.captured
 | .raw,y=>y
 | .ag n,y=>.agg (iV.vs n y).toArray
 | .ad,y=>.pointer (some y)
inductive SK where
 | one (c:CK)
 | agg (cs:List CK)
def SK.ks:SK->List CK
 | .one c=>[c]
 | .agg cs=>cs
def eM:List SK->List CK
 | []=>[]
 | s::ss=>s.ks++eM ss
@[reducible] def eH:List CK->Type
 | []=>Hp->Prop
 | c::cs=>c.T->eH cs
@[reducible] def nV:List CK->Type
 | []=>Hp->Nat
 | c::cs=>c.T->nV cs
def Sat:(ks:List CK)->eH ks->List Value->Hp->Prop
 | [],R,[],h=>R h
 | c::cs,R,v::vs,h=>∃x:c.T,v=c.v x/\Sat cs (R x) vs h
 | _,_,_,_=>False
def eH.le:(ks:List CK)->eH ks->eH ks->Prop
 | [],R,R'=>∀h,R h->R' h
 | c::cs,R,R'=>∀x:c.T,eH.le cs (R x) (R' x)
def lam:(ks:List CK)->(List Value->Hp->Prop)->eH ks
 | [],K=>K []
 | c::cs,K=>λx=>lam cs λvs=>K (c.v x::vs)
def vf:(n:Nat)->List Value->(iV n->Prop)->Prop
 | 0,[],K=>K ()
 | 1,[.int .i64 x],K=>K x
 | n+2,.int .i64 x::vs,K=>vf (n+1) vs λy=>K (x,y)
 | _,_,_=>False
theorem DM:∀{n:Nat} {vs:List Value} {K:iV n->Prop},vf n vs K->∃x,vs=iV.vs n x/\K x:=by
 intro n vs K h;unfold vf at h;split at h
 ·exact⟨(),rfl,h⟩
 ·exact⟨_,rfl,h⟩
 ·obtain⟨y,rfl,a⟩:=DM h;exact⟨_,rfl,a⟩
 ·exact h.elim
def mg:(c:CK)->Value->(c.T->Prop)->Prop
 | .i k,.int k' n,K=>if k=k' then K n else False
 | .b,.bool x,K=>K x
 | .p,.pointer a,K=>K a
 | .s,.slice a l c,K=>K ⟨a,l,c⟩
 | .m,.map r,K=>K r
 | .str,.string s,K=>K s
 | .fn,.func (.func f) x y,K=>K ⟨f,x,y⟩
 | .raw,v,K=>K v
 | .ag n,.agg cs,K=>vf n cs.toList K
 | .ad,.pointer (some a),K=>K a
 | _,_,_=>False
def qw:(ks:List CK)->eH ks->List Value->Hp->Prop
 | [],R,[],h=>R h
 | c::cs,R,v::vs,h=>mg c v λx=>qw cs (R x) vs h
 | _,_,_,_=>False
theorem Vj {c:CK}{v:Value}{K:c.T->Prop}(h:mg c v K):∃x,v=c.v x/\K x:=by
 cases c<;>cases v<;>simp only[mg]at h<;>try exact h.elim
 case i.int k k' n=>split at h<;>first|exact h.elim | (rename_i e;subst e;exact⟨n,rfl,h⟩)
 case fn.func f x y=>cases f<;>simp only[mg]at h<;>first|exact h.elim|exact⟨⟨_,x,y⟩,rfl,h⟩
 case b.bool x=>exact⟨x,rfl,h⟩
 case p.pointer a=>exact⟨a,rfl,h⟩
 case s.slice a l c=>exact⟨⟨a,l,c⟩,rfl,h⟩
 case m.map r=>exact⟨r,rfl,h⟩
 case str.string s=>exact⟨s,rfl,h⟩
 case ad.pointer p=>cases p<;>simp only[mg]at h<;>first|exact h.elim|exact⟨_,rfl,h⟩
 case ag.agg n cs=>obtain⟨x,e,d⟩:=DM h;exact⟨x,by simp only[CK.v,←e],d⟩
 all_goals exact⟨_,rfl,h⟩
theorem BX:∀(n:Nat) (x:iV n) (K:iV n->Prop),vf n (iV.vs n x) K=K x
 | 0,_,_=>rfl
 | 1,_,_=>rfl
 | n+2,x,K=>BX (n+1) x.2 _
theorem ET (c:CK)(x:c.T)(K:c.T->Prop):mg c (c.v x) K=K x:=by
 cases c<;>simp[mg,CK.v]
 exact iff_of_eq (BX _ _ _)
theorem Uh:∀{ks:List CK} {R:eH ks} {vs:List Value} {h:Hp},qw ks R vs h->Sat ks R vs h
 | [],_,[],_,h=>h
 | _::_,_,_::_,_,h=>by
  obtain⟨x,e,hx⟩:=Vj h;exact⟨x,e,Uh hx⟩
 | [],_,_::_,_,h=>h.elim
 | _::_,_,[],_,h=>h.elim
theorem Sat.mono:∀{ks:List CK} {R R':eH ks},eH.le ks R R'->∀{vs:List Value} {h:Hp},Sat ks R vs h->Sat ks R' vs h
 | [],_,_,hl,[],_,h=>hl _ h
 | _::_,_,_,hl,_::_,_,⟨x,e,h⟩=>⟨x,e,Sat.mono (hl x) h⟩
 | [],_,_,_,_::_,_,h=>h.elim
 | _::_,_,_,_,[],_,h=>h.elim
theorem VA:∀{ks:List CK} {K:List Value->Hp->Prop} {vs:List Value} {h:Hp},Sat ks (lam ks K) vs h->K vs h
 | [],_,[],_,h=>h
 | _::_,K,v::vs,h,hs=>by
  obtain⟨x,rfl,h'⟩:=hs;exact VA (K:=λvs=>K (CK.v _ x::vs)) h'
 | [],_,_::_,_,h=>h.elim
 | _::_,_,[],_,h=>h.elim
abbrev Env:=Nat->Option Value
def Env.nil:Env:=λ_=>none
def Env.put (ρ:Env)(d:Nat)(v:Value):Env:=λi=>bif Nat.beq i d then some v else ρ i
def Env.gV (ρ:Env):Option Nat->Value->Env
 | some d,v=>ρ.put d v
 | none,_=>ρ
def Env.dR (ρ:Env)(ds:List Nat):Env:=λi=>bif ds.contains i then none else ρ i
def ev (ρ:Env):Operand->Option Value
 | .tmp t=>ρ t
 | .const v=>some v
 | .global g=>some (.pointer (some ⟨g,0,none⟩))
 | .func f=>some (.func (.func f) #[] #[])
def wv (o:Option Value)(K:Value->Prop):Prop:=match o with|some v=>K v|none=>False
def oJ (ρ:Env):List Operand->Option (List Value)
 | []=>some []
 | o::os=>match ev ρ o,oJ ρ os with|some v,some vs=>some (v::vs)|_,_=>none
def cell (h:Hp)(a:Addr):Option Value:=
 match h[a.block]? with
 | some (.cells c _ _)=>if a.spot.isSome then none else c[a.off]?
 | _=>none
def nb (h:Hp)(a:Addr):Bool:=
 match h[a.block]? with
 | some (.cells _ _ (lo,hi))=>lo<=a.off&&a.off<hi
 | _=>false
def jt (h:Hp)(a:Addr)(v:Value):Hp:=
 h.modify a.block fun
  | .cells c elem frozen=>.cells (if a.spot.isSome then c else c.setIfInBounds a.off v) elem frozen
  | o=>o
def gP (k:IntKind)(a:Addr)(h:Hp)(K:Int->Prop):Prop:=∃n,cell h a=some (.int k n)/\K n
def kR (a:Addr)(h:Hp)(K:Bool->Prop):Prop:=∃n,cell h a=some (.bool n)/\K n
def fQ (a:Addr)(h:Hp)(K:Option Addr->Prop):Prop:=∃n,cell h a=some (.pointer n)/\K n
def ja (a:Addr)(h:Hp)(K:Sl->Prop):Prop:=∃n:Sl,cell h a=some (.slice n.a n.len n.cap)/\K n
def kF (a:Addr)(h:Hp)(K:Option Nat->Prop):Prop:=∃n,cell h a=some (.map n)/\K n
def xY (a:Addr)(h:Hp)(K:ByteArray->Prop):Prop:=∃n,cell h a=some (.string n)/\K n
def Je (a:Addr)(h:Hp)(K:Fv->Prop):Prop:=∃n:Fv,cell h a=some (.func (.func n.f) n.first n.captured)/\K n
def vI (a:Addr)(h:Hp)(K:Value->Prop):Prop:=∃n,cell h a=some n/\K n
def EJ (n:Nat)(a:Addr)(h:Hp)(K:iV n->Prop):Prop:=∃x,cell h a=some (CK.v (.ag n) x)/\K x
def wV (a:Addr)(h:Hp)(K:Addr->Prop):Prop:=∃x,cell h a=some (.pointer (some x))/\K x
def vE:(c:CK)->Addr->Hp->(c.T->Prop)->Prop
 | .i k,a,h,K=>gP k a h K
 | .b,a,h,K=>kR a h K
 | .p,a,h,K=>fQ a h K
 | .s,a,h,K=>ja a h K
 | .m,a,h,K=>kF a h K
 | .str,a,h,K=>xY a h K
 | .fn,a,h,K=>Je a h K
 | .raw,a,h,K=>vI a h K
 | .ag n,a,h,K=>EJ n a h K
 | .ad,a,h,K=>wV a h K
def mS:List CK->Addr->Nat->Hp->(List Value->Prop)->Prop
 | [],_,_,_,K=>K []
 | c::cs,a,i,h,K=>vE c (a.add i) h λx=>mS cs a (i+1) h λvs=>K (c.v x::vs)
def jL (v:Value)(t:TypeId)(vs zs:List Value)(b:Bool):Prop:=match b with
 | true=>v=.iface t (.agg vs.toArray)
 | false=>vs=zs/\(v=.nilIface\/∃t' u,v=.iface t' u/\t'≠t)
def ua (v:Value)(t:TypeId)(zs:List Value):List CK->List Value->(List Value->Bool->Prop)->Prop
 | [],acc,K=>∃b:Bool,jL v t acc zs b/\K acc b
 | c::cs,acc,K=>∃x:c.T,ua v t zs cs (acc++[c.v x]) K
theorem ua.out {v:Value}{t:TypeId}{zs:List Value}:∀{cs:List CK} {acc:List Value} {K:List Value->Bool->Prop},ua v t zs cs acc K->∃vs b,jL v t vs zs b/\K vs b
 | [],acc,K,⟨b,h1,h2⟩=>⟨acc,b,h1,h2⟩
 | c::cs,acc,K,⟨x,h⟩=>ua.out h
def iK (v:Value):Prop:=v=.nilIface\/∃t u,v=.iface t u
def j0:Value->Bool
 | .nilIface=>true
 | _=>false
def O1 (v:Value)(A:Prop):Prop:=match v with
 | .agg _=>False
 | .tuple _=>False
 | _=>A
def wP:List Value->Prop->Prop
 | [],A=>A
 | v::vs,A=>O1 v (wP vs A)
def bT (p:Option Addr)(K:Addr->Prop):Prop:=∃a,p=some a/\K a
def Ar (k:IntKind)(e:Int)(K:Int->Prop):Prop:=K (k.wrap e)
def Nz (y:Int)(A:Prop):Prop:=y≠0/\A
def Nn (y:Int)(A:Prop):Prop:=0<=y/\A
def Ix (base:Option Addr)(len:Nat)(i:Int)(sz:Nat)(K:Addr->Prop):Prop:=∃a,base=some a/\0<=i/\i<(len:Int)/\K (a.add (i.toNat*sz))
def m5 (a:Addr)(len:Nat)(i:Int)(sz:Nat)(K:Addr->Prop):Prop:=0<=i/\i<(len:Int)/\K (a.add (i.toNat*sz))
def Pw (s:ByteArray)(i:Int)(K:Int->Prop):Prop:=∃b,0<=i/\s[i.toNat]?=some b/\K (b.toNat:Int)
def If (b:Bool)(A B:Prop):Prop:=match b with
 | true=>A
 | false=>B
theorem If.t {b:Bool}{A B:Prop}(h:If b A B)(e:b=true):A:=by subst e;exact h
theorem If.f {b:Bool}{A B:Prop}(h:If b A B)(e:b=false):B:=by subst e;exact h
theorem If.mk {b:Bool}{A B:Prop}(h1:b=true->A)(h2:b=false->B):If b A B:=by cases b;exact h2 rfl;exact h1 rfl
def Nw (o:Obj)(h:Hp)(K:Addr->Hp->Prop):Prop:=K ⟨h.size,0,none⟩ (h.push o)
def eP (a:Addr)(v:Value)(h:Hp)(K:aP):Prop:=(cell h a).isSome=true/\nb h a=false/\K (jt h a v)
def oH (a:Addr)(h:Hp):List Value->Nat->(Hp->Prop)->Prop
 | [],_,K=>K h
 | v::vs,i,K=>eP (a.add i) v h λh'=>oH a h' vs (i+1) K
def eY (s:Sl)(sz:Nat)(lo hi mx:Int)(K:Sl->Prop):Prop:=
 0<=lo/\lo<=hi/\hi<=mx/\mx<=(s.cap:Int)/\K ⟨if mx.toNat=lo.toNat then s.a else s.a.map (·.add (lo.toNat*sz)),hi.toNat-lo.toNat,mx.toNat-lo.toNat⟩
def dI (h:Hp)(r:Nat)(k:IntKind)(c:CK)(l:List (Int×c.T)):Prop:=
 ∃es clk,h[r]?=some (.map es clk)/\es.toList.map (λe=>(e.key,e.val))=l.map (λx=>(Value.int k x.1,c.v x.2)) ∧
  (l.map (·.1)).Nodup/\(es.toList.map (·.born)).Pairwise (· < ·)/\∀e∈es.toList,e.born<clk
def iU (h:Hp)(m:Option Nat)(k:IntKind)(c:CK)(l:List (Int×c.T)):Prop:=
 match m with
 | none=>l=[]
 | some r=>dI h r k c l
def bY {α:Type}(l:List (Int×α))(n:Int):Option α:=(l.find? λx=>x.1==n).map (·.2)
def dG {α:Type}(l:List (Int×α))(n:Int)(v:α):List (Int×α):=
 if l.any (λx=>x.1==n)then l.map (λx=>if x.1==n then(n,v)else x)else l++[(n,v)]
def di {α:Type}(l:List (Int×α))(n:Int):List (Int×α):=l.filter λx=>!(x.1==n)
def Qg (h h':Hp)(r:Nat):Prop:=h'.size=h.size/\∀b,b≠r->h'[b]?=h[b]?
def Lk (k:IntKind)(c:CK)(m:Option Nat)(n:Int)(h:Hp)(K:Option c.T->Prop):Prop:=∃l,iU h m k c l/\K (bY l n)
def pa (k:IntKind)(c:CK)(m:Option Nat)(h:Hp)(K:Int->Prop):Prop:=∃l,iU h m k c l/\K (l.length:Int)
def j2 (k:IntKind)(c:CK)(m:Option Nat)(n:Int)(x:c.T)(h:Hp)(K:aP):Prop:=
 ∃r l,m=some r/\dI h r k c l/\∀h',Qg h h' r->dI h' r k c (dG l n x)->K h'
def kY (k:IntKind)(c:CK)(m:Option Nat)(n:Int)(h:Hp)(K:aP):Prop:=
 ∃l,iU h m k c l/\∀h',(∀r,m=some r->Qg h h' r)->(m=none->h'=h)->iU h' m k c (di l n)->K h'
def It (h:Hp)(r:Nat)(k:IntKind)(c:CK)(m:Option Nat)(l todo:List (Int×c.T))(cur:Option (Int×c.T)):Prop:=
 match m with
 | none=>l=[]/\todo=[]/\cur=none/\∃s q y,h[r]?=some (.mapIter none s q y)
 | some b=>∃es clk seen,h[r]?=some (.mapIter (some b) clk seen clk)/\h[b]?=some (.map es clk)/\es.toList.map (λe=>(e.key,e.val))=l.map (λx=>(Value.int k x.1,c.v x.2)) ∧
  (l.map (·.1)).Nodup/\(es.toList.map (·.born)).Pairwise (· < ·)/\(∀e∈es.toList,e.born<clk) ∧
  (es.toList.filter λe=>!seen.contains e.born).map (λe=>(e.key,e.val))=todo.map (λx=>(Value.int k x.1,c.v x.2)) ∧
  (∀x,cur=some x->∃e∈es.toList,seen.back?=some e.born/\e.key=.int k x.1/\e.val=c.v x.2)
def mW (k:IntKind)(c:CK)(m:Option Nat)(h:Hp)(K:Addr->Hp->Prop):Prop:=
 ∃l,iU h m k c l/\∀h',h'.size=h.size+1->(∀b,b<h.size->h'[b]?=h[b]?)->It h' h.size k c m l l none->K ⟨h.size,0,none⟩ h'
def mV (k:IntKind)(c:CK)(a:Addr)(h:Hp)(A:Prop)(B:Int->c.T->Hp->Prop):Prop:=
 a.off=0/\∃m l todo cur,It h a.block k c m l todo cur/\(todo=[]->A) ∧
  ∀n x,(n,x)∈todo->∀h',Qg h h' a.block->It h' a.block k c m l (todo.filter λy=>!(y.1==n)) (some (n,x))->B n x h'
def mT (k:IntKind)(c:CK)(a:Addr)(h:Hp)(K:Int->c.T->Prop):Prop:=
 a.off=0/\∃m l todo n x,It h a.block k c m l todo (some (n,x))/\K n x
def dV:Value->Bool
 | .agg _=>false
 | .tuple _=>false
 | _=>true
def Rd (h:Hp)(a:Option Addr)(xs:List Value):Prop:=
 match a with
 | none=>xs=[]
 | some a=>∀j v,xs[j]?=some v->cell h (a.add j)=some v
def DU (s:Sl)(h:Hp)(K:ByteArray->Prop):Prop:=∃bs:List Int,bs.length=s.len/\Rd h s.a (bs.map (.int .u8))/\K ⟨(bs.map λn=>UInt8.ofNat n.toNat).toArray⟩
def App (s:Sl)(sz bytes:Nat)(e:Nat)(zs:List Value)(x:Sl)(h:Hp)(K:Sl->Hp->Prop):Prop:=
 ∃xs ys,xs.length=s.len*sz/\ys.length=x.len*sz/\Rd h s.a xs/\Rd h x.a ys/\(∀v∈ys,dV v=true)/\(s.len+x.len)*bytes<=2^46/\s.len+x.len<=2^62 ∧
  (s.len+x.len<=s.cap->match s.a with
   | some a=>oH (a.add (s.len*sz)) h ys 0 λh'=>K ⟨s.a,s.len+x.len,s.cap⟩ h'
   | none=>K ⟨none,s.len+x.len,s.cap⟩ h) ∧
  (¬s.len+x.len<=s.cap->∀c,s.len+x.len<=c->Nw (.cells (xs++ys++(List.replicate (c-(s.len+x.len)) zs).flatten).toArray e) h λa h'=>K ⟨some a,s.len+x.len,c⟩ h')
def qJ (s:Sl)(sz bytes:Nat)(e:Nat)(zs:List Value)(n:Int)(h:Hp)(K:Sl->Hp->Prop):Prop:=
 0<=n/\∃xs,xs.length=s.len*sz/\Rd h s.a xs/\(∀v∈zs,dV v=true)/\(s.len+n.toNat)*bytes<=2^46/\s.len+n.toNat<=2^62/\(n.toNat:Int)*bytes<=2^46 ∧
  (s.len+n.toNat<=s.cap->match s.a with
   | some a=>oH (a.add (s.len*sz)) h (List.replicate n.toNat zs).flatten 0 λh'=>K ⟨s.a,s.len+n.toNat,s.cap⟩ h'
   | none=>K ⟨none,s.len+n.toNat,s.cap⟩ h) ∧
  (¬s.len+n.toNat<=s.cap->∀c,s.len+n.toNat<=c->Nw (.cells (xs++(List.replicate n.toNat zs).flatten++(List.replicate (c-(s.len+n.toNat)) zs).flatten).toArray e) h λa h'=>K ⟨some a,s.len+n.toNat,c⟩ h')
def qY (d:Sl)(sz:Nat)(s:Sl)(h:Hp)(K:aN):Prop:=
 ∃xs,xs.length=min s.len d.len*sz/\Rd h s.a xs/\(∀v∈xs,dV v=true)/\match d.a with
  | some a=>oH a h xs 0 λh'=>K ((min s.len d.len:Nat):Int) h'
  | none=>K ((min s.len d.len:Nat):Int) h
def yF (s:Sl)(zs:List Value)(h:Hp)(K:aP):Prop:=
 (∀v∈zs,dV v=true)/\match s.a with
  | some a=>oH a h (List.replicate s.len zs).flatten 0 K
  | none=>K h
def Mk (n c:Int)(bytes:Nat)(e:Nat)(zs:List Value)(h:Hp)(K:Sl->Hp->Prop):Prop:=
 0<=n/\n<=c/\(bytes:Int)*c<=2^46/\c<2^62/\Nw (.cells (List.replicate c.toNat zs).flatten.toArray e) h λa h'=>K ⟨some a,n.toNat,c.toNat⟩ h'
def Xa (w w':World):Prop:=w'.os=w.os/\w'.tape=w.tape/\w'.output=w.output/\w.heap.size<=w'.heap.size
def oK:List SK->List Value->List Value
 | [],_=>[]
 | .one _::ss,v::vs=>v::oK ss vs
 | .one _::ss,[]=>undef::oK ss []
 | .agg cs::ss,vs=>.agg (vs.take cs.length).toArray::oK ss (vs.drop cs.length)
def pack (rs:List SK)(vs:List Value):Value:=
 match oK rs vs with
 | [v]=>v
 | l=>.tuple l.toArray
def Wc (P:Program)(f:Nat)(args:Array Value)(rs:List SK)(h:Hp)(R:eH (eM rs)):Prop:=
 ∀w:World,w.heap=h->Calls P f args w λe w'=>Xa w w'/\∃vs,e=.returned (pack rs vs)/\Sat (eM rs) R vs w'.heap
theorem Wc.mono {P:Program}{f:Nat}{args:Array Value}{rs:List SK}{h:Hp}{R R':eH (eM rs)}(c:Wc P f args rs h R)(hl:eH.le (eM rs) R R'):Wc P f args rs h R':=
 λw a=>(c w a).mono λ_ _ ⟨b,vs,e,s⟩=>⟨b,vs,e,s.mono hl⟩
def iJ (P:Program)(v:Value)(name:String)(args:List Value)(rs:List SK)(h:Hp)(R:eH (eM rs)):Prop:=
 ∃t u f,v=.iface t u/\(∀w,(method (P.types.size+Made.depth) t u name).run P w=.ok (f,u) w)/\(∀xs w,(callFunc f xs).run P w=.ok (.enter f xs) w)/\Wc P f (u::args).toArray rs h R
def BM (P:Program)(fv:Fv)(args:List Value)(rs:List SK)(h:Hp)(R:eH (eM rs)):Prop:=
 Wc P fv.f (fv.first++args.toArray++fv.captured) rs h R
abbrev SK.I:SK:=.one bN
abbrev _root_.Go.Value.I (x:Int):Value:=.int .i64 x
def CX:TypeDesc->Option CK
 | .bool=>some .b
 | .int k=>some (.i k)
 | .string=>some .str
 | .pointer _=>some .p
 | .slice _=>some .s
 | .map _ _=>some .m
 | .func _ _ _=>some .fn
 | .interface _=>some .raw
 | _=>none
mutual
def Ai (P:Program):Nat->TypeId->Option (List CK)
 | 0,_=>none
 | n+1,t=>
  match P.underlying t with
  | some (.struct fs)=>Er P n fs.toList
  | some (.array m e)=>(Ai P n e).map λl=>(List.replicate m l).flatten
  | some d=>(CX d).map λc=>[c]
  | none=>none
def Er (P:Program):Nat->List Field->Option (List CK)
 | 0,_=>none
 | _+1,[]=>some []
 | n+1,f::fs=>match Ai P n f.type,Er P n fs with
  | some a,some b=>some (a++b)
  | _,_=>none
end
def NP:SK->SK
 | .agg cs=>bif cs.all (· == .i .i64)then .one (.ag cs.length)else .agg cs
 | s=>s
def VO:TypeDesc->Bool
 | .struct _ | .array _ _=>true
 | _=>false
def jF (P:Program)(t:TypeId):Option SK:=
 match P.underlying t with
 | some d=>bif VO d then(Ai P 24 t).map .agg else(CX d).map .one
 | none=>none
def nF (P:Program)(t:TypeId):Option SK:=(jF P t).map NP
def fJ (b:Bool)(A:Prop):Prop:=match b with|true=>A|false=>False
theorem Wu {b:Bool}{A:Prop}:fJ b A↔b=true/\A:=by cases b<;>simp[fJ]
def oz (op:BinOp)(k:IntKind)(x y:Int)(K:Value->Prop):Prop:=
 match op with
 | .add=>Ar k (x+y) λz=>K (.int k z)
 | .sub=>Ar k (x-y) λz=>K (.int k z)
 | .mul=>Ar k (x*y) λz=>K (.int k z)
 | .quo=>Nz y (Ar k (x.tdiv y) λz=>K (.int k z))
 | .rem=>Nz y (K (.int k (x.tmod y)))
 | .and=>K (.int k (bits .and k x y))
 | .or=>K (.int k (bits .or k x y))
 | .xor=>K (.int k (bits .xor k x y))
 | .andNot=>K (.int k (bits .andNot k x y))
 | .shl=>Nn y (Ar k (x*2^(min y.toNat k.bits)) λz=>K (.int k z))
 | .shr=>Nn y (K (.int k (x.fdiv (2^(min y.toNat k.bits)))))
 | .eql=>K (.bool (x==y))
 | .neq=>K (.bool (x != y))
 | .lss=>K (.bool (decide (x<y)))
 | .leq=>K (.bool (decide (x<=y)))
 | .gtr=>K (.bool (decide (x>y)))
 | .geq=>K (.bool (decide (x≥y)))
def mb (op:BinOp)(b:Bool)(K:Value->Prop):Prop:=
 match op with
 | .eql=>K (.bool b)
 | .neq=>K (.bool (!b))
 | _=>False
def lb (P:Program)(op:BinOp)(t:TypeId)(x y:Value)(K:Value->Prop):Prop:=
 match P.underlying t,x,y with
 | some (.pointer _),.pointer p,.pointer none=>mb op p.isNone K
 | some (.slice _),.slice p _ _,.slice none 0 0=>mb op p.isNone K
 | some (.map _ _),.map p,.map none=>mb op p.isNone K
 | some (.interface _),x,.nilIface=>iK x/\mb op (j0 x) K
 | _,_,_=>False
def k8 (P:Program)(op:BinOp)(t:TypeId)(x y:Value)(K:Value->Prop):Prop:=
 match x,y with
 | .int k a,.int k' b=>if k=k' then oz op k a b K else(match op with | .shl=>oz .shl k a b K | .shr=>oz .shr k a b K|_=>False)
 | .bool a,.bool b=>match P.underlying t with
  | some .bool=>mb op (a==b) K
  | _=>False
 | .string a,.string b=>match op with
  | .eql=>K (.bool (a.toList==b.toList))
  | .neq=>K (.bool (!(a.toList==b.toList)))
  | _=>False
 | _,_=>False
def nS (P:Program)(xs ys:List Value):List Field->Option Bool
 | []=>some true
 | f::fs=>bif f.name == "_" then none else
  match P.underlying f.type,xs[f.offset]?,ys[f.offset]?,nS P xs ys fs with
  | some (.int _),some (.int k a),some (.int k' b),some r=>if k=k' then some ((a==b)&&r)else none
  | some .bool,some (.bool a),some (.bool b),some r=>some ((a==b)&&r)
  | _,_,_,_=>none
def nB (P:Program)(e:TypeId)(xs ys:List Value):List Nat->Option Bool
 | []=>some true
 | i::is=>match P.underlying e,xs[i]?,ys[i]?,nB P e xs ys is with
  | some (.int _),some (.int k a),some (.int k' b),some r=>if k=k' then some ((a==b)&&r)else none
  | some (.pointer _),some (.pointer p),some (.pointer none),some r=>some (p.isNone&&r)
  | _,_,_,_=>none
def mD (P:Program)(op:BinOp)(t:TypeId)(xs ys:List Value)(K:Value->Prop):Prop:=
 match P.underlying t with
 | some (.struct fs)=>fJ (!P.stoodInHeld t && !P.eqGuardType P.depth t) (match nS P xs ys fs.toList with
  | some b=>mb op b K
  | none=>False)
 | some (.array n e)=>fJ (!P.eqGuardType P.depth t&&((P.info? e).isSome&&P.cellsOf e==1)) (match nB P e xs ys (List.range n)with
  | some b=>mb op b K
  | none=>False)
 | _=>False
def tu:Operand->Bool
 | .const (.pointer none)=>true
 | .const (.slice none 0 0)=>true
 | .const (.map none)=>true
 | .const .nilIface=>true
 | _=>false
def uO (P:Program)(op:BinOp)(t:TypeId)(y:Operand)(vx vy:Value)(K:Value->Prop):Prop:=
 bif tu y then lb P op t vx vy K else match vx,vy with
 | .agg xs,.agg ys=>mD P op t xs.toList ys.toList K
 | vx,vy=>k8 P op t vx vy K
def mG (P:Program)(s f:Nat)(K:Field->Prop):Prop:=
 match P.underlying s with
 | some (.struct fs)=>match fs[f]? with
  | some fd=>K fd
  | none=>False
 | _=>False
def kS (P:Program)(t:TypeId)(x:Value)(h:Hp)(K:Value->Prop):Prop:=
 match P.underlying t,x with
 | some (.slice _),.slice _ n _=>K (.int .i64 (n:Int))
 | some .string,.string s=>K (.int .i64 (s.size:Int))
 | some (.array n _),_=>K (.int .i64 (n:Int))
 | some (.map kt et),.map m=>match P.underlying kt,nF P et with
  | some (.int k),some (.one c)=>pa k c m h λz=>K (.int .i64 z)
  | _,_=>False
 | _,_=>False
def vO (P:Program)(t:TypeId)(x i:Value)(ok:Bool)(h:Hp)(K:Value->Prop):Prop:=
 match P.underlying t,x,i with
 | some (.map kt et),.map m,.int k n=>match P.underlying kt,nF P et,P.info? et with
  | some (.int k'),some (.one c),some ti=>match ti.zero with
   | some z=>if k=k' then mg c z λz=>Lk k c m n h λo=>K (bif ok then .tuple #[c.v (o.getD z),.bool o.isSome]else c.v (o.getD z))else False
   | none=>False
  | _,_,_=>False
 | _,_,_=>False
def ni (isMax:Bool):Value->List Value->(Value->Prop)->Prop
 | v,[],K=>K v
 | .int k x,.int _ y::vs,K=>ni isMax (.int k (bif isMax then(if y>x then y else x)else(if y<x then y else x))) vs K
 | _,_,_=>False
def qf (Y7:Nat->Option (Nat×Nat))(cells:List Value):List (Nat×Value)->Option (List Value)
 | []=>some cells
 | (i,v)::rest=>
  match Y7 i with
  | none=>none
  | some (off,size)=>
   if v.cells.size≠size\/off+v.cells.size>cells.length then none
   else qf Y7 (cells.take off++v.cells.toList++cells.drop (off+size)) rest
def UW (ρ:Env):List (Nat×Operand)->Option (List (Nat×Value))
 | []=>some []
 | (i,o)::os=>match ev ρ o,UW ρ os with|some v,some vs=>some ((i,v)::vs)|_,_=>none
def yI (P:Program)(fs:Array Field)(i:Nat):Option (Nat×Nat):=match fs[i]? with
 | some f=>match P.info? f.type with
  | some ti=>some (f.offset,ti.size)
  | none=>none
 | none=>none
def tP (P:Program)(t:TypeId):Bool:=match P.underlying t with
 | some (.interface _)=>true
 | _=>false
def uB (P:Program)(fs:Array Field)(i:Nat):Bool:=match fs[i]? with
 | some f=>tP P f.type
 | none=>false
def tx (raw:Nat->Bool):List (Nat×Value)->List (Nat×Value)
 | []=>[]
 | (i,v)::ps=>(i,bif raw i then .agg #[v]else v)::tx raw ps
def kP (raw:Nat->Bool):List (Nat×Value)->Prop->Prop
 | [],A=>A
 | (i,v)::ps,A=>bif raw i then iK v/\kP raw ps A else kP raw ps A
def mJ (P:Program)(t:TypeId)(ps:List (Nat×Value))(K:Value->Prop):Prop:=
 match P.info? t,P.underlying t with
 | some ti,some (.struct fs)=>match ti.zero with
  | some z=>kP (uB P fs) ps (match qf (yI P fs) z.cells.toList (tx (uB P fs) ps)with
   | some cs=>fJ (fs.toList.all λf=>(P.info? f.type).isSome) (K (.agg cs.toArray))
   | none=>False)
  | none=>False
 | some ti,some (.array _ e)=>match ti.zero,P.info? e with
  | some z,some te=>match qf (λi=>some (i*te.size,te.size)) z.cells.toList ps with
   | some cs=>K (.agg cs.toArray)
   | none=>False
  | _,_=>False
 | _,_=>False
def sY (P:Program)(t:TypeId)(cs:List Value)(off:Nat)(K:Value->Prop):Prop:=
 match P.underlying t,P.info? t with
 | some d,some ti=>bif VO d then K (.agg ((cs.drop off).take ti.size).toArray)else wv (cs[off]?) K
 | _,_=>False
def mN (P:Program)(t:TypeId)(x:Value)(lo hi mx:Option Value)(K:Value->Prop):Prop:=
 match P.underlying t,x with
 | some (.slice e),.slice a n c=>match P.info? e with
  | some ti=>
   let loV:Option Int:=match lo with|none=>some 0|some (.int .i64 z)=>some z|_=>none
   let hiV:Option Int:=match hi with|none=>some n|some (.int .i64 z)=>some z|_=>none
   let mxV:Option Int:=match mx,hi with|none,_=>some c|some (.int .i64 z),some _=>some z|_,_=>none
   match loV,hiV,mxV with
   | some l,some h,some m=>eY ⟨a,n,c⟩ ti.size l h m λs=>K (.slice s.a s.len s.cap)
   | _,_,_=>False
  | none=>False
 | _,_=>False
def sf (ρ:Env):Option Operand->Option (Option Value)
 | none=>some none
 | some o=>(ev ρ o).map some
def qK (P:Program)(o:Op)(ρ:Env)(h:Hp)(K:Value->Prop):Prop:=
 match o with
 | .move x=>wv (ev ρ x) K
 | .assign x=>wv (ev ρ x) K
 | .pick c x y=>wv (ev ρ c) λv=>match v with
  | .bool true=>wv (ev ρ x) K
  | .bool false=>wv (ev ρ y) K
  | _=>False
 | .load t a=>wv (ev ρ a) λv=>match v,jF P t with
  | .pointer (some a),some (.one c)=>fJ (P.info? t).isSome (vE c a h λx=>K (c.v x))
  | .pointer (some a),some (.agg cs)=>fJ (P.cellsOf t==cs.length) (fJ (P.info? t).isSome (mS cs a 0 h λvs=>K (.agg vs.toArray)))
  | _,_=>False
 | .nilCheck x=>wv (ev ρ x) λv=>match v with
  | .pointer p=>bT p λa=>K (.pointer (some a))
  | .func (.func f) a b=>K (.func (.func f) a b)
  | _=>False
 | .binOp op t x y _=>wv (ev ρ x) λvx=>wv (ev ρ y) λvy=>uO P op t y vx vy K
 | .unOp op _ x=>wv (ev ρ x) λv=>match op,v with
  | .not,.bool b=>K (.bool (!b))
  | .neg,.int k n=>Ar k (0-n) λz=>K (.int k z)
  | _,_=>False
 | .convert s d x=>wv (ev ρ x) λv=>match P.underlying s,P.underlying d,v with
  | some _,some (.int k),.int _ n=>Ar k n λz=>K (.int k z)
  | some _,some .string,.string x=>K (.string x)
  | some (.slice e),some .string,.slice a n c=>(match P.underlying e with|some (.int .u8)=>DU ⟨a,n,c⟩ h λs=>K (.string s)|_=>False)
  | _,_,_=>False
 | .fieldAddr s x f=>wv (ev ρ x) λv=>mG P s f λfd=>match v with
  | .pointer (some a)=>fJ (P.cellsOf fd.type != 0) (K (.pointer (some (a.add fd.offset))))
  | _=>False
 | .field s x f=>wv (ev ρ x) λv=>mG P s f λfd=>match v with
  | .agg cs=>sY P fd.type cs.toList fd.offset K
  | _=>False
 | .indexAddr t x i=>wv (ev ρ x) λvx=>wv (ev ρ i) λvi=>match P.underlying t,vx,vi with
  | some (.slice e),.slice b n _,.int _ i=>fJ (P.info? e).isSome (Ix b n i (P.cellsOf e) λa=>K (.pointer (some a)))
  | some (.array n e),.pointer (some a),.int _ i=>fJ (P.info? e).isSome (m5 a n i (P.cellsOf e) λa=>K (.pointer (some a)))
  | _,_,_=>False
 | .index t x i=>wv (ev ρ x) λvx=>wv (ev ρ i) λvi=>match P.underlying t,vx,vi with
  | some .string,.string s,.int _ i=>Pw s i λz=>K (.int .u8 z)
  | _,_,_=>False
 | .lookup t x i ok=>wv (ev ρ x) λvx=>wv (ev ρ i) λvi=>vO P t vx vi ok h K
 | .extract t i=>wv (ev ρ t) λv=>match v with
  | .tuple vs=>wv (vs.toList[i]?) K
  | _=>False
 | .makeFunc fn a b=>match oJ ρ a.toList,oJ ρ b.toList with
  | some va,some vb=>K (.func fn va.toArray vb.toArray)
  | _,_=>False
 | .build t ps=>match UW ρ ps.toList with
  | some vs=>mJ P t vs K
  | none=>False
 | .slice t x lo hi mx=>wv (ev ρ x) λv=>match sf ρ lo,sf ρ hi,sf ρ mx with
  | some lo,some hi,some mx=>mN P t v lo hi mx K
  | _,_,_=>False
 | .makeInterface t x=>wv (ev ρ x) λv=>fJ (P.concrete t) (K (.iface t v))
 | .typeAssert x _ t true=>wv (ev ρ x) λv=>match P.underlying t,P.info? t,jF P t with
  | some (.struct _),some ti,some (.agg cs)=>match ti.zero with
   | some (.agg zs)=>ua v t zs.toList cs [] λvs b=>K (.tuple #[.agg vs.toArray,.bool b])
   | _=>False
  | _,_,_=>False
 | .call c=>match c.callee,oJ ρ c.args.toList,c.argTypes.toList with
  | .builtin .len,some [x],[t]=>kS P t x h K
  | .builtin .cap,some [.slice _ _ n],[t]=>(match P.underlying t with|some (.slice _)=>K (.int .i64 (n:Int))|_=>False)
  | .builtin .max,some (x::xs),_=>ni true x xs K
  | .builtin .min,some (x::xs),_=>ni false x xs K
  | _,_,_=>False
 | _=>False
def rm:Op->Bool
 | .move _ | .assign _ | .pick .. | .load _ _ | .nilCheck _ | .binOp .. | .unOp .. | .convert .. | .fieldAddr .. | .field .. | .indexAddr .. | .index .. | .lookup .. | .extract .. | .makeFunc .. | .build .. | .slice .. | .makeInterface .. => true
 | .typeAssert _ _ _ ok=>ok
 | .call c=>match c.callee with | .builtin .len | .builtin .cap | .builtin .max | .builtin .min=>true|_=>false
 | _=>false
theorem Vz {P:Program}{t:Nat}{i:TypeInfo}(hi:P.info? t=some i)(w:World):(typeInfo t).run P w=.ok i w:=by
 simp[typeInfo,hi]
theorem Qt {P:Program}{t:Nat}(h:(P.info? t).isSome=true)(w:World):(sizeOf t).run P w=.ok (P.cellsOf t) w:=by
 obtain⟨i,a⟩:=om.1 h;simp[sizeOf,typeInfo,a,Program.cellsOf]
theorem KT {P:Program}{t:Nat}{i:TypeInfo}{z:Value}(hi:P.info? t=some i)(hz:i.zero=some z)(w:World):(zeroValue t).run P w=.ok z w:=by
 simp[zeroValue,typeInfo,hi,hz]
theorem JG {P:Program}{op:BinOp}{t:Nat}{k:IntKind}{x y:Int}{K:Value->Prop}(h:oz op k x y K)(w:World) :
 ∃v,(binOp op t (.int k x) (.int k y)).run P w=.ok v w/\K v:=by
 cases op<;>simp only[oz,Ar,Nz,Nn]at h
 all_goals first
  | (refine⟨_,?_,h⟩;simp[binOp,Op.intArith,Op.intCmp,Op.intBits,bits];done)
  | (obtain⟨b,a⟩:=h;refine⟨_,?_,a⟩;simp[binOp,Op.intDiv,b];done)
  | (obtain⟨b,a⟩:=h;refine⟨_,?_,a⟩;simp[binOp,Op.shift,Int.not_lt.2 b];done)
theorem VP {P:Program}{op:BinOp}{t:Nat}{x y:Value}{b:Bool}{K:Value->Prop}(h:mb op b K)(w:World)
 (hb:∀op,(op=.eql\/op=.neq)->binOp op t x y=if op=.eql then(do pure (.bool (←Op.equal t x y)))else(do pure (.bool (!(←Op.equal t x y)))))
 (he:(Op.equal t x y).run P w=.ok b w):∃v,(binOp op t x y).run P w=.ok v w/\K v:=by
 cases op<;>simp only[mb]at h
 case eql=>exact⟨_,by rw[hb .eql (.inl rfl)];simp[he],h⟩
 case neq=>exact⟨_,by rw[hb .neq (.inr rfl)];simp[he],h⟩
theorem Cd {P:Program}{t e:Nat}(hu:P.underlying t=some (.pointer e))(p:Option Addr)(d:Nat)(w:World):(Op.equalIn (d+1) t (.pointer p) (.pointer none)).run P w=.ok p.isNone w:=by
 cases p<;>simp[Op.equalIn,run_underlying hu]
theorem Oc {P:Program}{t e:Nat}(hu:P.underlying t=some (.slice e))(p:Option Addr)(n c d:Nat)(w:World):(Op.equalIn (d+1) t (.slice p n c) (.slice none 0 0)).run P w=.ok p.isNone w:=by
 cases p<;>simp[Op.equalIn,run_underlying hu]
theorem IX {P:Program}{t k e:Nat}(hu:P.underlying t=some (.map k e))(p:Option Nat)(d:Nat)(w:World):(Op.equalIn (d+1) t (.map p) (.map none)).run P w=.ok p.isNone w:=by
 cases p<;>simp[Op.equalIn,run_underlying hu]
theorem Pq {P:Program}{t:Nat}(hu:P.underlying t=some .bool)(a b:Bool)(d:Nat)(w:World):(Op.equalIn (d+1) t (.bool a) (.bool b)).run P w=.ok (a==b) w:=by
 simp[Op.equalIn,run_underlying hu]
theorem JE {P:Program}{w:World}{s:Sl}{K:ByteArray->Prop}(h:DU s w.heap K):∃b,(Conv.bytesToString (.slice s.a s.len s.cap)).run P w=.ok (.string b) w/\K b:=by
 obtain⟨g,i,d,p⟩:=h;refine⟨_,?_,p⟩;cases hs:s.a with
 | none=>
  rw[hs]at d;simp only[Rd,wR]at d;subst d;simp[Conv.bytesToString];rfl
 | some a=>
  rw[hs]at d;have e:(loadCells a s.len).run P w=.ok (g.map (Value.int .u8)).toArray w:=by
   rw[←i];simpa using run_loadCells_list (P:=P) (w:=w) a (g.map (Value.int .u8)) (λj v m=>d j v m)
  have key:∀(l:List Int) (acc:ByteArray),List.foldl (λb a=>b.push (UInt8.ofNat a.toNat)) acc l=⟨acc.data++(l.map λn=>UInt8.ofNat n.toNat).toArray⟩:=by
   intro l
   induction l with
   | nil=>intro acc;simp
   | cons n l ih=>intro acc;rw[pO,ih];congr 1;apply Array.ext';simp[ByteArray.push]
  simp only[Conv.bytesToString,Sem.run_bind,e,Result.andThen_ok];simp[key]
theorem O2 {P:Program}{t:Nat}{ms:Array (String×TypeId)}(hu:P.underlying t=some (.interface ms)){v:Value}(hv:iK v)(d:Nat)(w:World):(Op.equalIn (d+1) t v .nilIface).run P w=.ok (j0 v) w:=by
 rcases hv with rfl|⟨t',u,rfl⟩
 ·simp[Op.equalIn,run_underlying hu,j0]
 ·simp[Op.equalIn,run_underlying hu,j0]
theorem Ml {P:Program}{xt t:TypeId}{ti:TypeInfo}{fs:Array Field}{v:Value}{vs zs:List Value}{b:Bool}(hu:P.underlying t=some (.struct fs))(hi:P.info? t=some ti)(hz:ti.zero=some (.agg zs.toArray))
 (h:jL v t vs zs b) (w:World) :
 (Instr.typeAssert v xt t true).run P w=.ok (.tuple #[.agg vs.toArray,.bool b]) w:=by
 have a:=KT hi hz w;cases b with
 | true=>
  simp only[jL]at h;subst h;simp[Instr.typeAssert,run_underlying hu]
 | false=>
  simp only[jL]at h;obtain⟨rfl,h⟩:=h;rcases h with rfl|⟨t',u,rfl,hne⟩
  ·simp[Instr.typeAssert,run_underlying hu,a]
  ·simp[Instr.typeAssert,run_underlying hu,hne,a]
theorem MU {P:Program}{op:BinOp}{t:Nat}{x y:Value}{K:Value->Prop}(h:lb P op t x y K)(w:World) :
 ∃v,(binOp op t x y).run P w=.ok v w/\K v:=by
 unfold lb at h;split at h
 case h_1 e p hu=>
  refine VP h w ?_ ?_
  ·rintro op (rfl|rfl)<;>simp[binOp]
  ·exact Cd hu p 9999 w
 case h_2 e p _ _ hu=>
  refine VP h w ?_ ?_
  ·rintro op (rfl|rfl)<;>simp[binOp]
  ·exact Oc hu p _ _ 9999 w
 case h_3 e e' p hu=>
  refine VP h w ?_ ?_
  ·rintro op (rfl|rfl)<;>simp[binOp]
  ·exact IX hu p 9999 w
 case h_4 ms hu=>
  obtain⟨a,h⟩:=h;refine VP h w ?_ ?_
  ·rcases a with rfl|⟨t',u,rfl⟩<;>rintro op (rfl|rfl)<;>simp[binOp]
  ·exact O2 hu a 9999 w
 ·exact h.elim
theorem I4 {P:Program}{op:BinOp}{t:Nat}{x y:Value}{K:Value->Prop}(h:k8 P op t x y K)(w:World) :
 ∃v,(binOp op t x y).run P w=.ok v w/\K v:=by
 unfold k8 at h;split at h
 case h_1 k a k' b=>
  split at h
  ·rename_i e;subst e;exact JG h w
  ·cases op<;>simp only at h
   case shl=>simp only[oz,Ar,Nn]at h;obtain⟨g,d⟩:=h;exact⟨_,by simp[binOp,Op.shift,Int.not_lt.2 g],d⟩
   case shr=>simp only[oz,Ar,Nn]at h;obtain⟨g,d⟩:=h;exact⟨_,by simp[binOp,Op.shift,Int.not_lt.2 g],d⟩
 case h_2 a b=>
  split at h
  ·rename_i hu;refine VP h w ?_ ?_
   ·rintro op (rfl|rfl)<;>simp[binOp]
   ·exact Pq hu a b 9999 w
  ·exact h.elim
 case h_3 a b=>
  cases op<;>simp only at h
  ·exact⟨_,rfl,h⟩
  ·exact⟨_,rfl,h⟩
 ·exact h.elim
theorem GD {c:CK}{a:Addr}{h:Hp}{K:c.T->Prop}(hl:vE c a h K):∃x,cell h a=some (c.v x)/\K x:=by
 cases c<;>exact hl
theorem wU {P:Program}{w:World}{a:Addr}{v:Value}(h:cell w.heap a=some v):(load a).run P w=.ok v w:=by
 have:w.cell? a=some v:=h;simp[this]
theorem Gx {P:Program}{w:World}:∀{cs:List CK} {a:Addr} {i:Nat} {K:List Value->Prop},mS cs a i w.heap K →
 ∃vs,vs.length=cs.length/\K vs/\∀acc,(loadCellsFrom a i cs.length acc).run P w=.ok (acc++vs.toArray) w
 | [],a,i,K,h=>⟨[],rfl,h,λacc=>by simp[loadCellsFrom]⟩
 | c::cs,a,i,K,h=>by
  obtain⟨x,hx,hK⟩:=GD h;obtain⟨vs,d,b,e⟩:=Gx (P:=P) hK;refine⟨c.v x::vs,by simp[d],b,λacc=>?_⟩;simp only[zW,loadCellsFrom,Sem.run_bind,wU hx,Result.andThen_ok,e]
  congr 1
  apply Array.ext';simp
theorem Ko {P:Program}{t:Nat}{d:TypeDesc}(h:P.underlying t=some d)(w:World):(isAgg t).run P w=.ok (VO d) w:=by
 simp only[isAgg,Sem.run_bind,run_underlying h,Result.andThen_ok];cases d<;>rfl
theorem A7 {P:Program}{t:Nat}{c:CK}(h:jF P t=some (.one c)):∃d,P.underlying t=some d/\VO d=false:=by
 unfold jF at h;split at h
 ·rename_i d hd;refine⟨d,hd,?_⟩;cases e:VO d
  ·rfl
  ·rw[e]at h;simp at h
 ·cases h
theorem C2 {P:Program}{t:Nat}{c:List CK}(h:jF P t=some (.agg c)):∃d,P.underlying t=some d/\VO d=true:=by
 unfold jF at h;split at h
 ·rename_i d hd;refine⟨d,hd,?_⟩;cases e:VO d
  ·rw[e]at h;simp at h
  ·rfl
 ·cases h
theorem OM {P:Program}{t ty:Nat}{x:Value}{K:Value->Prop}{w:World}(h:kS P t x w.heap K) :
 ∃v,(Builtin.len_ #[t] ty #[x]).run P w=.ok v w/\K v:=by
 unfold kS at h;split at h
 case h_1 e a n c hu=>exact⟨_,by simp[Builtin.len_,run_underlying hu,goInt],h⟩
 case h_2 s hu=>exact⟨_,by simp[Builtin.len_,run_underlying hu,goInt],h⟩
 case h_3 n e y hu=>exact⟨_,by simp[Builtin.len_,run_underlying hu,goInt],h⟩
 case h_4 kt et m hu=>
  split at h
  case h_1 k c hk hs=>
   obtain⟨l,d,g⟩:=h;cases m with
   | none=>simp only[iU]at d;subst d;exact⟨_,by simp[Builtin.len_,run_underlying hu,goInt],g⟩
   | some r=>
    obtain⟨p,j,u,i,_⟩:=d;have b:p.size=l.length:=by simpa using congrArg List.length i
    refine⟨_,?_,g⟩;simp[Builtin.len_,run_underlying hu,goInt,getObj,Sem.run,u,b]
  ·exact h.elim
 ·exact h.elim
theorem Ga {P:Program}{w:World}:∀{vs:List Value} {v:Value} {b:Bool} {K:Value->Prop},ni b v vs K →
 ∃z,(vs.foldlM (if b then Builtin.max2 else Builtin.min2) v).run P w=.ok z w/\K z
 | [],v,b,K,h=>⟨v,by simp,by simpa[ni]using h⟩
 | u::vs,v,b,K,h=>by
  cases v<;>cases u<;>simp only[ni]at h<;>try exact h.elim
  case int.int k x k' y=>
   obtain⟨z,hz,hK⟩:=Ga h;refine⟨z,?_,hK⟩;cases b
   ·simpa[Builtin.min2]using hz
   ·simpa[Builtin.max2]using hz
theorem Zz {ρ:Env}{a:Act}(hf:∀x v,ev ρ x=some v->a.eval x=v):∀{os:List Operand} {vs:List Value},oJ ρ os=some vs->os.map a.eval=vs
 | [],vs,h=>by simp[oJ]at h;simp[h]
 | o::os,vs,h=>by
  simp only[oJ]at h;split at h
  ·rename_i v vs' h1 h2;cases h;simp[hf _ _ h1,Zz hf h2]
  ·cases h
theorem Vq {ρ:Env}{a:Act}(hf:∀x v,ev ρ x=some v->a.eval x=v):∀{os:List (Nat×Operand)} {vs:List (Nat×Value)},UW ρ os=some vs->os.map (λ(i,x)=>(i,a.eval x))=vs
 | [],vs,h=>by simp[UW]at h;simp[h]
 | (i,o)::os,vs,h=>by
  simp only[UW]at h;split at h
  ·rename_i v vs' h1 h2;cases h;simp[hf _ _ h1,Vq hf h2]
  ·cases h
theorem Ho {k:IntKind}{n:Int}{c:CK}:∀(es:List MapEntry) (l:List (Int×c.T)) (i:Nat),
 es.map (λe=>(e.key,e.val))=l.map (λx=>(Value.int k x.1,c.v x.2)) →
 Instr.findNow (.int k) (.int k n) es i=some (match l.findIdx? (λx=>x.1==n)with|some j=>some (i+j,match l[j]? with|some x=>c.v x.2|none=>undef)|none=>none)
 | [],l,i,h=>by
  cases l with
  | nil=>simp[Instr.findNow]
  | cons x l=>simp at h
 | e::es,[],i,h=>by simp at h
 | e::es,x::l,i,h=>by
  simp only[zU,List.cons.injEq,Prod.mk.injEq]at h;obtain⟨⟨h1,h2⟩,h3⟩:=h;have a:=Ho (n:=n) es l (i+1) h3;simp only[Instr.findNow,h1,Instr.sameNow,zP];by_cases hx:n=x.1
  ·have e1:(n==x.1)=true:=by simpa using hx
   have e2:(x.1==n)=true:=by simpa using hx.symm
   simp[uf,e1,e2,h2]
  ·have e1:(n==x.1)=false:=by simpa using hx
   have e2:(x.1==n)=false:=by simpa using λh=>hx h.symm
   simp only[e1,a,uf,e2];cases List.findIdx? (λx=>x.1==n) l with
   | none=>simp
   | some j=>simp;omega
theorem Q3 {P:Program}{kt:Nat}{k:IntKind}(hk:P.underlying kt=some (.int k)){n:Int}{c:CK}{es:List MapEntry}{l:List (Int×c.T)}
 (he:es.map (λe=>(e.key,e.val))=l.map (λx=>(Value.int k x.1,c.v x.2))) (w:World) :
 (Instr.findKey kt (.int k n) es).run P w=.ok (match l.findIdx? (λx=>x.1==n)with|some j=>some (j,match l[j]? with|some x=>c.v x.2|none=>undef)|none=>none) w:=by
 simp[Instr.findKey,run_underlying hk,Ho es l 0 he]
theorem J7 {P:Program}{kt:Nat}{k:IntKind}(hk:P.underlying kt=some (.int k))(b:Bool)(n:Int)(d:Nat)(w:World) :
 (Instr.checkKey b (d+1) kt (.int k n)).run P w=.ok () w:=by
 simp[Instr.checkKey,run_underlying hk]
theorem Qm {P:Program}{kt:Nat}{k:IntKind}(hk:P.underlying kt=some (.int k))(b:Bool)(n:Int)(w:World) :
 (Instr.checkKey b 10000 kt (.int k n)).run P w=.ok () w:=J7 hk b n 9999 w
theorem Og {α:Type}(l:List (Int×α))(n:Int):bY l n=(l.findIdx? (λx=>x.1==n)).bind λj=>(l[j]?).map (·.2):=by
 induction l with
 | nil=>rfl
 | cons x l ih=>
  simp only[bY,sE,uf]at *;cases h:x.1==n
  ·simp only[ih];cases List.findIdx? (λx=>x.1==n) l<;>simp
  ·simp
theorem VH {α:Type}{l:List (Int×α)}{n:Int}{j:Nat}(h:l.findIdx? (λx=>x.1==n)=some j):∃x,l[j]?=some x/\x.1=n:=by
 rw[mQ]at h;obtain⟨a,b,_⟩:=h;exact⟨l[j],by simp[a],by simpa using b⟩
theorem LX {P:Program}{t:Nat}{x i:Value}{ok:Bool}{K:Value->Prop}{w:World}(h:vO P t x i ok w.heap K) :
 ∃v,(Instr.lookup t x i ok).run P w=.ok v w/\K v:=by
 unfold vO at h;split at h
 case h_2=>exact h.elim
 rename_i kt et m k n hu;split at h
 case h_2=>exact h.elim
 rename_i k' c ti hk hs hi;split at h
 case h_2=>exact h.elim
 rename_i z hz;split at h
 case isFalse=>exact h.elim
 rename_i e;subst e;obtain⟨B,a,l,b,u⟩:=Vj h;refine⟨_,?_,u⟩;cases m with
 | none=>
  simp only[iU]at b;subst b;simp only[Instr.lookup,Sem.run_bind,run_underlying hu,Result.andThen_ok,Sem.run_pure,Qm hk,Q3 (c:=c) (l:=[]) hk (rfl:List.map _ (#[]:Array MapEntry).toList=_),List.findIdx?_nil,KT hi hz];cases ok<;>simp[bY,a]
 | some r=>
  obtain⟨A,g,s,d,_⟩:=b;simp only[Instr.lookup,Sem.run_bind,run_underlying hu,Result.andThen_ok,Sem.run_pure,Qm hk,getObj,Sem.run,s,Q3 hk d,Og];cases hf:l.findIdx? (λx=>x.1==n)with
  | none=>cases ok<;>simp[KT hi hz,a]
  | some j=>
   obtain⟨y,p,_⟩:=VH hf;cases ok<;>simp[p]
theorem CL (off:Nat):∀(vs:List Value) (k:Nat) (cs:Array Value),off+k+vs.length<=cs.size →
 ((vs.zipIdx k).foldl (λcs (c,j)=>cs.setIfInBounds (off+j) c) cs).toList=cs.toList.take (off+k)++vs++cs.toList.drop (off+k+vs.length)
 | [],k,cs,h=>by simp
 | v::vs,k,cs,h=>by
  simp only[List.zipIdx_cons,pO];rw[CL off vs (k+1) _ (by simp only[Array.size_setIfInBounds,zW]at *;omega)];simp only[zW]at h;have hlt:off+k<cs.toList.length:=by simp;omega
  simp only[Array.toList_setIfInBounds,zW];apply zm;intro m;simp only[List.getElem?_append,zZ,nk,zQ,zj,mH,kj,List.getElem?_cons,zW]
  grind
theorem VZ (Y7:Nat->Option (Nat×Nat)):∀(ps:List (Nat×Value)) (cells:List Value) (cs:List Value),qf Y7 cells ps=some cs->Instr.fill Y7 cells.toArray ps=some cs.toArray
 | [],cells,cs,h=>by simp[qf]at h;simp[Instr.fill,h]
 | (i,v)::rest,cells,cs,h=>by
  simp only[qf]at h;simp only[Instr.fill];cases hp:Y7 i with
  | none=>rw[hp]at h;cases h
  | some os=>
   obtain⟨off,size⟩:=os;rw[hp]at h;simp only at h ⊢;split at h
   ·cases h
   ·rename_i hc;simp only[not_or,Decidable.not_not,Nat.not_lt]at hc;obtain⟨a,b⟩:=hc;rw[zB (by simp[a];omega)];have:=CL off v.cells.toList 0 cells.toArray aE;have e:(v.cells.zipIdx.foldl (λcs (c,j)=>cs.setIfInBounds (off+j) c) cells.toArray)=(cells.take off++v.cells.toList++cells.drop (off+size)).toArray:=by
     apply Array.ext';rw[←Array.foldl_toList,Array.toList_zipIdx,this];simp[a]
    rw[e];exact VZ Y7 rest _ _ h
theorem GE {P:Program}{w:World}:∀(fs:List Field),(fs.all λf=>(P.info? f.type).isSome)=true →
 (fs.mapM λf=>(do pure (f.offset,←sizeOf f.type):Sem (Nat×Nat))).run P w=.ok (fs.map λf=>(f.offset,P.cellsOf f.type)) w
 | [],_=>by simp
 | f::fs,h=>by
  simp only[r7,zE]at h;have ih:=GE (P:=P) (w:=w) fs h.2;simp only[List.mapM_cons,Sem.run_bind,Qt h.1,Result.andThen_ok,Sem.run_pure,ih,zU]
theorem yi {raw:Nat->Bool}:∀{ps:List (Nat×Value)} {A:Prop},kP raw ps A->A/\∀Y7 cells,Instr.fill Y7 cells (tx raw ps)=Instr.fill Y7 cells ps
 | [],A,h=>⟨h,λ_ _=>rfl⟩
 | (i,v)::ps,A,h=>by
  simp only[kP]at h;cases hr:raw i
  ·rw[hr]at h;obtain⟨hA,ih⟩:=yi h;exact⟨hA,λY7 cells=>by simp only[tx,Instr.fill,ih,hr,cond_false]⟩
  ·rw[hr]at h;simp only[cond_true]at h;obtain⟨hA,ih⟩:=yi h.2;have e:(Value.agg #[v]).cells=v.cells:=by
    rcases h.1 with rfl|⟨t,u,rfl⟩<;>rfl
   exact⟨hA,λY7 cells=>by simp only[tx,Instr.fill,ih,hr,cond_true,e]⟩
theorem Ev {P:Program}{t:Nat}{ps:Array (Nat×Value)}{K:Value->Prop}{w:World}(h:mJ P t ps.toList K) :
 ∃v,(Instr.build t ps).run P w=.ok v w/\K v:=by
 unfold mJ at h;split at h
 case h_1 p fs hi hu=>
  split at h
  case h_2=>exact h.elim
  rename_i z hz;obtain⟨h,m⟩:=yi h;split at h
  case h_2=>exact h.elim
  rename_i cs hf;rw[Wu]at h;obtain⟨a,u⟩:=h;refine⟨_,?_,u⟩;have r:=GE (P:=P) (w:=w) fs.toList a;have d:(fs.mapM λf=>(do pure (f.offset,←sizeOf f.type):Sem (Nat×Nat))).run P w=.ok (fs.map λf=>(f.offset,P.cellsOf f.type)) w:=by
   rw[Array.mapM_eq_mapM_toList];simp only[Sem.run_map,r,Result.andThen_ok]
   congr 1
   apply Array.ext';simp
  have g:(λi=>(fs.map λf=>(f.offset,P.cellsOf f.type))[i]?)=yI P fs:=by
   funext i
   simp only[yI,Array.getElem?_map];cases hfi:fs[i]? with
   | none=>simp
   | some f=>
    have b:f∈fs.toList:=by
     have:=vN hfi;simpa using this
    have:=zr.1 a f b;obtain⟨p,j⟩:=om.1 this;simp[j,Program.cellsOf]
  have:=VZ _ _ _ _ hf;rw[m]at this;simp only[Instr.build,Sem.run_bind,KT hi hz,Result.andThen_ok,run_underlying hu,d,g];have e:z.cells.toList.toArray=z.cells:=by simp
  rw[e]at this;simp[this]
 case h_2 p n e hi hu=>
  split at h
  case h_2=>exact h.elim
  rename_i z te hz hte;split at h
  case h_2=>exact h.elim
  rename_i cs hf;refine⟨_,?_,h⟩;have:=VZ _ _ _ _ hf;have e1:z.cells.toList.toArray=z.cells:=by simp
  rw[e1]at this;have s:(sizeOf e).run P w=.ok te.size w:=by simp[sizeOf,Vz hte]
  simp only[Instr.build,Sem.run_bind,KT hi hz,Result.andThen_ok,run_underlying hu,s];simp[this]
 ·exact h.elim
theorem Wq {o:Option Value}{K:Value->Prop}(h:wv o K):∃v,o=some v/\K v:=by
 cases o with
 | none=>exact h.elim
 | some v=>exact⟨v,rfl,h⟩
theorem Fs {P:Program}{t off:Nat}{cs:Array Value}{K:Value->Prop}{w:World}(h:sY P t cs.toList off K) :
 ∃v,(part t cs off).run P w=.ok v w/\K v:=by
 unfold sY at h;split at h
 case h_2=>exact h.elim
 rename_i d ti hu hi;cases hd:VO d
 ·rw[hd]at h;obtain⟨v,a,b⟩:=Wq h;refine⟨v,?_,b⟩;have:cs[off]?=some v:=by simpa using a
  simp[part,Ko hu,hd,this]
 ·rw[hd]at h;refine⟨_,?_,h⟩;simp only[part,Sem.run_bind,Ko hu,hd,Result.andThen_ok,sizeOf,Vz hi,zP,Sem.run_pure]
  congr 2
  apply Array.ext';simp
theorem QX {P:Program}{w:World}{z:Int}{y:Nat}{code:BoundsCode}(h0:0<=z)(h1:z<=y):(Instr.sliceBound (.int .i64 z) y code).run P w=.ok z.toNat w:=by
 simp[Instr.sliceBound,asIntOf,h0,h1]
theorem A4 {o:Option Value}{d l:Int}(h:(match o with|none=>some d|some (.int .i64 z)=>some z|_=>none)=some l):(o=none/\l=d)\/o=some (.int .i64 l):=by
 split at h
 ·simp at h;exact .inl ⟨rfl,h.symm⟩
 ·simp at h;subst h;exact .inr rfl
 ·cases h
theorem Od {P:Program}{t:Nat}{x:Value}{lo hi mx:Option Value}{K:Value->Prop}{w:World}(h:mN P t x lo hi mx K) :
 ∃v,(Instr.sliceAt t x lo hi mx).run P w=.ok v w/\K v:=by
 unfold mN at h;split at h
 case h_2=>exact h.elim
 rename_i e a n c hu;split at h
 case h_2=>exact h.elim
 rename_i ti hi';simp only at h;split at h
 case h_2=>exact h.elim
 rename_i l hh m hlo hhi hmx;obtain⟨j,A,u,r,s⟩:=h;refine⟨_,?_,s⟩;simp only at r;have d:(sizeOf e).run P w=.ok ti.size w:=by simp[sizeOf,Vz hi']
 have p:(Instr.sliceBounds true n c lo hi mx).run P w=.ok (l.toNat,hh.toNat,m.toNat) w:=by
  have g:(mx=none/\m=c)\/(mx=some (.int .i64 m)/\hi≠none):=by
   split at hmx
   ·simp at hmx;exact .inl ⟨rfl,hmx.symm⟩
   ·simp at hmx;subst hmx;exact .inr ⟨rfl,by simp⟩
   ·cases hmx
  have i:=A4 hlo;have b:=A4 hhi;clear hlo hhi hmx;rcases g with⟨rfl,rfl⟩|⟨rfl,hne⟩<;>rcases b with⟨rfl,rfl⟩|rfl
  case inr.inl=>exact absurd rfl hne
  all_goals rcases i with⟨rfl,rfl⟩|rfl
  ·simp[Instr.sliceBounds]
  ·have:=QX (P:=P) (w:=w) (z:=l) (y:=n) (code:=.sliceB) j O;simp[Instr.sliceBounds,this]
  ·have:=QX (P:=P) (w:=w) (z:=hh) (y:=c) (code:=.sliceAcap) O O;simp[Instr.sliceBounds,this]
  ·have:=QX (P:=P) (w:=w) (z:=hh) (y:=c) (code:=.sliceAcap) O O;have:=QX (P:=P) (w:=w) (z:=l) (y:=hh.toNat) (code:=.sliceB) O O;simp[Instr.sliceBounds, *]
  ·have:=QX (P:=P) (w:=w) (z:=m) (y:=c) (code:=.slice3Acap) O O;have:=QX (P:=P) (w:=w) (z:=hh) (y:=m.toNat) (code:=.slice3B) O O;simp[Instr.sliceBounds, *]
  ·have:=QX (P:=P) (w:=w) (z:=m) (y:=c) (code:=.slice3Acap) O O;have:=QX (P:=P) (w:=w) (z:=hh) (y:=m.toNat) (code:=.slice3B) O O;have:=QX (P:=P) (w:=w) (z:=l) (y:=hh.toNat) (code:=.slice3C) O O;simp[Instr.sliceBounds, *]
 simp only[Instr.sliceAt,Instr.slice,Sem.run_bind,run_underlying hu,Result.andThen_ok,p,d,Sem.run_pure]
theorem LB {P:Program}{op:BinOp}{t:Nat}{x y:Operand}{a b:Value}(w:World)(h:(∀cs,a≠.agg cs)/\a≠.nilIface):(eqGuard op t x y a b).run P w=.ok () w:=by
 unfold eqGuard;cases op<;>simp
 all_goals (cases a<;>first|rfl | (simp at h))
theorem EM {P:Program}{op:BinOp}{t:Nat}{x y:Value}{K:Value->Prop}(h:k8 P op t x y K):(∀cs,x≠.agg cs)/\x≠.nilIface:=by
 unfold k8 at h;split at h<;>first|exact absurd h id | (constructor<;>simp)
theorem Iz {P:Program}{op:BinOp}{t:Nat}{x y:Value}{K:Value->Prop}(h:lb P op t x y K):∀cs,x≠.agg cs:=by
 unfold lb at h;split at h
 case h_4=>rcases h.1 with rfl|⟨t',u,rfl⟩<;>simp
 all_goals first|exact absurd h id|simp
theorem Po {P:Program}{op:BinOp}{t:Nat}{x:Operand}{c:Value}{a b:Value}(w:World)(h:∀cs,a≠.agg cs):(eqGuard op t x (.const c) a b).run P w=.ok () w:=by
 unfold eqGuard;cases op<;>simp
 all_goals (cases a<;>first|rfl|exact absurd rfl (h _) | (cases b<;>simp))
theorem NZ {y:Operand}(h:tu y=true):∃c,y=.const c:=by
 unfold tu at h;split at h<;>first|exact⟨_,rfl⟩|cases h
theorem HP {P:Program}{s f:Nat}{K:Field->Prop}(h:mG P s f K):∃fs fd,P.underlying s=some (.struct fs)/\fs[f]?=some fd/\K fd:=by
 unfold mG at h;split at h
 ·split at h
  ·exact⟨_,_,by assumption,by assumption,h⟩
  ·exact h.elim
 ·exact h.elim
theorem Pj {P:Program}{t:Nat}(h:P.cellsOf t≠0):(P.info? t).isSome=true:=by
 unfold Program.cellsOf at h;cases hi:P.info? t with
 | none=>rw[hi]at h;simp at h
 | some i=>rfl
theorem Gr {ρ:Env}{a:Act}(hf:∀x v,ev ρ x=some v->a.eval x=v){o:Option Operand}{v:Option Value}(h:sf ρ o=some v):o.map a.eval=v:=by
 cases o with
 | none=>simp[sf]at h;simp[h]
 | some o=>
  simp only[sf,nT]at h;obtain⟨u,b,rfl⟩:=h;simp[hf _ _ b]
theorem KO {P:Program}{t:Nat}{d:TypeDesc}{cs:Array Value}{off:Nat}{v:Value}{w:World}(hd:P.underlying t=some d)(hag:VO d=false)(h:cs.toList[off]?=some v):(part t cs off).run P w=.ok v w:=by
 have a:cs[off]?=some v:=by simpa using h
 simp[part,Ko hd,hag,a]
theorem xw {P:Program}{xs ys:Array Value}(d:Nat):∀(fs:List Field) (b:Bool),nS P xs.toList ys.toList fs=some b->∀w,(Op.eqFields (d+1) xs ys fs).run P w=.ok b w
 | [],b,h,w=>by simp[nS]at h;subst h;simp[Op.eqFields]
 | f::fs,b,h,w=>by
  simp only[nS]at h;cases hn:f.name == "_"
  ·rw[hn]at h;simp only[cond_false]at h;have hne:f.name ≠ "_" := by simpa using hn
   split at h
   ·rename_i k0 k a k' b' r hu hx hy hr;split at h
    case isFalse=>cases h
    rename_i e;subst e;simp only[Option.some.injEq]at h;subst h;have ih:=xw (d:=d) fs r hr w;simp only[Op.eqFields,hne,ne_eq,not_false_eq_true,zP,Sem.run_bind,KO hu rfl hx,KO hu rfl hy,Result.andThen_ok,run_equalIn_int w d f.type k k0 a b' hu];cases hab:a==b'<;>simp[ih]
   ·rename_i a b' r hu hx hy hr;simp only[Option.some.injEq]at h;subst h;have ih:=xw (d:=d) fs r hr w;simp only[Op.eqFields,hne,ne_eq,not_false_eq_true,zP,Sem.run_bind,KO hu rfl hx,KO hu rfl hy,Result.andThen_ok,run_equalIn_bool' w d f.type a b' hu];cases hab:a==b'<;>simp[ih]
   ·cases h
  ·rw[hn]at h;cases h
theorem yN {P:Program}{e:TypeId}(hC:P.cellsOf e=1){xs ys:Array Value}(d:Nat):∀(is:List Nat) (b:Bool),nB P e xs.toList ys.toList is=some b->∀w,(Op.eqItems (d+1) e (P.cellsOf e) xs ys is).run P w=.ok b w
 | [],b,h,w=>by simp[nB]at h;subst h;simp[Op.eqItems]
 | i::is,b,h,w=>by
  simp only[nB]at h;split at h
  ·rename_i k0 k a k' b' r hu hx hy hr;split at h
   case isFalse=>cases h
   rename_i e';subst e';simp only[Option.some.injEq]at h;subst h;have ih:=yN hC d is r hr w;simp only[Op.eqItems,hC,mB,Sem.run_bind,KO hu rfl hx,KO hu rfl hy,Result.andThen_ok,run_equalIn_int w d e k k0 a b' hu];rw[hC]at ih;cases hab:a==b'<;>simp[ih]
  ·rename_i t0 p r hu hx hy hr;simp only[Option.some.injEq]at h;subst h;have ih:=yN hC d is r hr w;simp only[Op.eqItems,hC,mB,Sem.run_bind,KO hu rfl hx,KO hu rfl hy,Result.andThen_ok,Cd hu p d w];rw[hC]at ih;cases hab:p.isNone<;>simp[ih]
  ·cases h
theorem J9 {P:Program}{op:BinOp}{t:Nat}{xs ys:Array Value}{K:Value->Prop}(h:mD P op t xs.toList ys.toList K)(x y:Operand)(w:World) :
 ∃v,(do eqGuard op t x y (.agg xs) (.agg ys);binOp op t (.agg xs) (.agg ys):Sem Value).run P w=.ok v w/\K v:=by
 have fin:∀b:Bool,(Op.equalIn 10000 t (.agg xs) (.agg ys)).run P w=.ok b w->P.eqGuardType P.depth t=false->mb op b K →
  ∃v,(do eqGuard op t x y (.agg xs) (.agg ys);binOp op t (.agg xs) (.agg ys):Sem Value).run P w=.ok v w/\K v:=by
  intro b a hgt h;have j:=run_eqGuard_agg (P:=P) w op t x y xs ys hgt;cases op<;>simp only[mb]at h
  ·exact⟨_,by simp only[Sem.run_bind,j,Result.andThen_ok,run_eql_struct,a],h⟩
  ·exact⟨_,by simp only[Sem.run_bind,j,Result.andThen_ok,run_neq_struct,a],h⟩
 unfold mD at h;split at h
 case h_1 fs hu=>
  rw[Wu]at h;obtain⟨d,h⟩:=h;simp only[zE,lx]at d;split at h
  case h_2=>exact h.elim
  rename_i b hb;have g:P.fieldsOf t=fs:=by simp[Program.fieldsOf,hu]
  have a:(Op.equalIn 10000 t (.agg xs) (.agg ys)).run P w=.ok b w:=by
   have:=run_equalIn_struct (P:=P) w 9999 t xs ys (by rw[g];exact hu) d.1;rw[g]at this;exact this.trans (xw 9998 fs.toList b hb w)
  exact fin b a d.2 h
 case h_2 n e hu=>
  rw[Wu]at h;obtain⟨d,h⟩:=h;simp only[zE,lx,zV]at d;split at h
  case h_2=>exact h.elim
  rename_i b hb;obtain⟨i,m⟩:=om.1 d.2.1;exact fin b ((run_equalIn_array (P:=P) w 9999 xs ys hu m).trans (yN d.2.2 9998 _ b hb w)) d.1 h
 case h_3=>exact h.elim
theorem H5 {P:Program}{ρ:Env}{K:Value->Prop}{a:Act}{w:World}(hf:∀x v,ev ρ x=some v->a.eval x=v)(o:Oper)(hk:qK P o.op ρ w.heap K) :
 ∃v,(execOp a.eval o).run P w=.ok (.value v) w/\K v:=by
 obtain⟨dst,op,ty,pos,V,U⟩:=o;simp only at hk;have g:∀{s:Sem Value},(∃v,s.run P w=.ok v w/\K v)->∃v,(do pure (Next.value (←s)):Sem Next).run P w=.ok (.value v) w/\K v:=by
  rintro s ⟨v,j,e⟩;exact⟨v,by simp[j],e⟩
 unfold qK at hk;split at hk
 case h_1 x=>
  obtain⟨v,j,e⟩:=Wq hk;exact⟨v,by simp[execOp,hf _ _ j],e⟩
 case h_2 x=>
  obtain⟨v,j,e⟩:=Wq hk;exact⟨v,by simp[execOp,hf _ _ j],e⟩
 case h_3 c x y=>
  obtain⟨v,j,e⟩:=Wq hk;split at e
  ·obtain⟨u,B,e⟩:=Wq e;exact⟨u,by simp[execOp,hf _ _ j,asBool,hf _ _ B],e⟩
  ·obtain⟨u,B,e⟩:=Wq e;exact⟨u,by simp[execOp,hf _ _ j,asBool,hf _ _ B],e⟩
  ·exact e.elim
 case h_4 t x=>
  obtain⟨v,j,e⟩:=Wq hk;simp only[execOp,hf _ _ j];apply g;split at e
  case h_1 L c E=>
   rw[Wu]at e;obtain⟨d,hd,H⟩:=A7 E;obtain⟨x,p,e⟩:=GD e.2;exact⟨_,by simp only[Instr.loadAt,Instr.sureAddr,loadVar,Sem.run_bind,Sem.run_pure,Result.andThen_ok,Ko hd,H];simpa using wU p,e⟩
  case h_2 L cs E=>
   rw[Wu,Wu]at e;obtain⟨r,z,e⟩:=e;obtain⟨d,hd,H⟩:=C2 E;obtain⟨vs,hl,e,W⟩:=Gx (P:=P) e;have Y:P.cellsOf t=cs.length:=by simpa using r
   refine⟨_,?_,e⟩;simp only[Instr.loadAt,Instr.sureAddr,loadVar,Sem.run_bind,Sem.run_pure,Result.andThen_ok,Ko hd,H,zP,Qt z,loadCells,Y,W];simp
  ·exact e.elim
 case h_5 x=>
  obtain⟨v,j,e⟩:=Wq hk;simp only[execOp,hf _ _ j];split at e
  ·obtain⟨L,rfl,e⟩:=e;exact⟨_,by simp,e⟩
  ·exact⟨_,by simp,e⟩
  ·exact e.elim
 case h_6 op t x y yt=>
  obtain⟨D,p,hk⟩:=Wq hk;obtain⟨vy,hy,hk⟩:=Wq hk;simp only[execOp,hf _ _ p,hf _ _ hy];apply g;unfold uO at hk;cases hn:tu y
  ·rw[hn]at hk;simp only[cond_false]at hk;split at hk
   ·exact J9 hk x y w
   obtain⟨v,j,e⟩:=I4 hk w;exact⟨v,by simp[LB w (EM hk),j],e⟩
  ·rw[hn]at hk;simp only[cond_true]at hk;obtain⟨v,j,e⟩:=MU hk w;obtain⟨c,hc⟩:=NZ hn;have hg:=Po (P:=P) (op:=op) (t:=t) (x:=x) (c:=c) (b:=vy) w (Iz hk);exact⟨v,by rw[hc];simp[hg,j],e⟩
 case h_7 op ty' x=>
  obtain⟨D,p,hk⟩:=Wq hk;simp only[execOp,hf _ _ p];apply g;split at hk
  ·exact⟨_,by simp[Op.unary],hk⟩
  ·exact⟨_,by simp[Op.unary,Op.intArith],hk⟩
  ·exact hk.elim
 case h_8 s d x=>
  obtain⟨D,p,hk⟩:=Wq hk;simp only[execOp,hf _ _ p];apply g;split at hk
  ·rename_i r z;exact⟨_,by simp[convert,run_underlying r,run_underlying z,Conv.intToInt],hk⟩
  ·rename_i r z;exact⟨_,by simp[convert,run_underlying r,run_underlying z],hk⟩
  ·rename_i r z;split at hk
   ·rename_i B;obtain⟨b,W,e⟩:=JE (P:=P) hk;exact⟨_,by simpa[convert,run_underlying r,run_underlying z,run_underlying B]using W,e⟩
   ·exact hk.elim
  ·exact hk.elim
 case h_9 s x f=>
  obtain⟨D,p,hk⟩:=Wq hk;obtain⟨fs,Z,E,J,hk⟩:=HP hk;simp only[execOp,hf _ _ p];apply g;split at hk
  ·rename_i L;rw[Wu]at hk;have M:P.cellsOf Z.type≠0:=by simpa using hk.1
   refine⟨_,?_,hk.2⟩;simp only[Instr.fieldAt,Sem.run_bind,run_underlying E,Result.andThen_ok,J,Instr.sureAddr,Sem.run_pure,fieldPlace,Qt (Pj M),M,zp]
  ·exact hk.elim
 case h_10 s x f=>
  obtain⟨D,p,hk⟩:=Wq hk;obtain⟨fs,Z,E,J,hk⟩:=HP hk;simp only[execOp,hf _ _ p];apply g;split at hk
  ·rename_i cs;obtain⟨v,j,e⟩:=Fs (w:=w) hk;refine⟨v,?_,e⟩;simp only[Instr.field,Sem.run_bind,run_underlying E,Result.andThen_ok,J,asAgg,Sem.run_pure,j]
  ·exact hk.elim
 case h_11 t x i=>
  obtain⟨D,p,hk⟩:=Wq hk;obtain⟨vi,F,hk⟩:=Wq hk;simp only[execOp,hf _ _ p,hf _ _ F];apply g;split at hk
  ·have B:=(by assumption:P.underlying t=some _);rw[Wu]at hk;obtain⟨r,L,rfl,z,Q,e⟩:=hk;refine⟨_,?_,e⟩;simp[Instr.indexAt,asIntOf,run_underlying B,Qt r,z,Q]
  ·have B:=(by assumption:P.underlying t=some _);rw[Wu]at hk;obtain⟨r,z,Q,e⟩:=hk;refine⟨_,?_,e⟩;simp[Instr.indexAt,asIntOf,run_underlying B,Qt r,z,Q,Instr.sureAddr]
  ·exact hk.elim
 case h_12 t x i=>
  obtain⟨D,p,hk⟩:=Wq hk;obtain⟨vi,F,hk⟩:=Wq hk;simp only[execOp,hf _ _ p,hf _ _ F];apply g;split at hk
  ·have B:=(by assumption:P.underlying t=some _);obtain⟨b,r,z,e⟩:=hk;refine⟨_,?_,e⟩;simp[Instr.index,asIntOf,run_underlying B,r,z]
  ·exact hk.elim
 case h_13 t x i ok=>
  obtain⟨D,p,hk⟩:=Wq hk;obtain⟨vi,F,hk⟩:=Wq hk;simp only[execOp,hf _ _ p,hf _ _ F];exact g (LX hk)
 case h_14 t i=>
  obtain⟨D,p,hk⟩:=Wq hk;simp only[execOp,hf _ _ p];apply g;split at hk
  ·obtain⟨v,j,e⟩:=Wq hk;have N:=j;rw[wG]at N;exact⟨v,by simp[Instr.extract,N],e⟩
  ·exact hk.elim
 case h_15 fn x y=>
  split at hk
  ·rename_i va vb r z;have e1:=Zz hf r;have e2:=Zz hf z;refine⟨_,?_,hk⟩;have G:x.map a.eval=va.toArray:=by apply Array.ext';simpa using e1
   have X:y.map a.eval=vb.toArray:=by apply Array.ext';simpa using e2
   simp[execOp,Instr.makeFunc,G,X]
  ·exact hk.elim
 case h_16 t ps=>
  split at hk
  ·rename_i vs r;have e1:=Vq hf r;have G:ps.map (λ(i,x)=>(i,a.eval x))=vs.toArray:=by apply Array.ext';simpa using e1
   simp only[execOp];apply g;rw[G];exact Ev (by simpa using hk)
  ·exact hk.elim
 case h_17 t x lo F mx=>
  obtain⟨D,p,hk⟩:=Wq hk;simp only[execOp,hf _ _ p];apply g;split at hk
  ·rename_i l h m r z Q;rw[Gr hf r,Gr hf z,Gr hf Q];exact Od hk
  ·exact hk.elim
 case h_18 t x=>
  obtain⟨D,p,hk⟩:=Wq hk;rw[Wu]at hk;simp only[execOp,hf _ _ p];exact⟨_,by simp[run_makeInterface w t D hk.1],hk.2⟩
 case h_19 x xt t=>
  obtain⟨D,p,hk⟩:=Wq hk;simp only[execOp,hf _ _ p];apply g;split at hk
  case h_2=>exact hk.elim
  rename_i fs ti cs B F E;split at hk
  case h_2=>exact hk.elim
  rename_i zs hz;obtain⟨vs,b,j,e⟩:=hk.out;exact⟨_,Ml B F (by simpa using hz) j w,e⟩
 case h_20 c=>
  obtain⟨S,C,R⟩:=c;simp only at hk;split at hk
  ·rename_i x t ha ht;have A:=Zz hf ha;have e1:C.map a.eval = #[x]:=by apply Array.ext';simpa using A
   have e2:R = #[t]:=by apply Array.ext';simpa using ht
   subst e2;obtain⟨v,j,e⟩:=OM (ty:=ty) hk;refine⟨v,?_,e⟩;simp[execOp,resolve,e1,invoke,builtin,j]
  ·rename_i L l n t ha ht;have A:=Zz hf ha;have e1:C.map a.eval = #[.slice L l n]:=by apply Array.ext';simpa using A
   have e2:R = #[t]:=by apply Array.ext';simpa using ht
   subst e2;split at hk
   ·rename_i B;refine⟨_,?_,hk⟩;simp[execOp,resolve,e1,invoke,builtin,Builtin.cap_,run_underlying B,goInt]
   ·exact hk.elim
  ·rename_i x xs ha;have A:=Zz hf ha;have e1:C.map a.eval=(x::xs).toArray:=by apply Array.ext';simpa using A
   obtain⟨v,j,e⟩:=Ga (P:=P) (w:=w) hk;refine⟨v,?_,e⟩;simp only[zP]at j;simp[execOp,resolve,e1,invoke,builtin,Builtin.max_,j]
  ·rename_i x xs ha;have A:=Zz hf ha;have e1:C.map a.eval=(x::xs).toArray:=by apply Array.ext';simpa using A
   obtain⟨v,j,e⟩:=Ga (P:=P) (w:=w) hk;refine⟨v,?_,e⟩;simp only[za,zp]at j;simp[execOp,resolve,e1,invoke,builtin,Builtin.min_,j]
  ·exact hk.elim
 ·exact hk.elim
def mL (P:Program):List TypeId->Option (List SK)
 | []=>some []
 | t::ts=>match jF P t,mL P ts with|some s,some ss=>some (s::ss)|_,_=>none
def Vl (P:Program)(f:Nat):Bool:=
 match P.funcs[f]? with
 | some fn=>!(fn.name == "runtime.NumGoroutine") && fn.body.isSome
 | none=>false
def qN (P:Program)(f:Nat)(args:List Value)(h:Hp)(K:aO):Prop:=
 ∀w:World,w.heap=h->∃b w',(callFunc f args.toArray).run P w=.ok (.value (.bool b)) w'/\Xa w w'/\K b w'.heap
def yJ (P:Program)(f:Nat)(args:List Value)(h:Hp)(K:Value->Hp->Prop):Prop:=
 match P.funcs[f]? with
 | some fn=>match mL P fn.resultTypes.toList with
  | some rs=>match Vl P f with
   | true=>Wc P f args.toArray rs h (lam (eM rs) λvs h'=>K (pack rs vs) h')
   | false=>match rs with
    | [.one .b]=>qN P f args h λb h'=>K (.bool b) h'
    | _=>False
  | none=>False
 | none=>False
def zx (P:Program)(v:Value)(name:String)(args:List Value)(ty:TypeId)(h:Hp)(K:Value->Hp->Prop):Prop:=
 match (match P.underlying ty with|some (.tuple ts)=>mL P ts.toList|_=>mL P [ty])with
 | some rs=>iJ P v name args rs h (lam (eM rs) λvs h'=>K (pack rs vs) h')
 | none=>False
def xo (P:Program)(fv:Fv):Prop:=Vl P fv.f=true
def VE (P:Program)(fv:Fv)(args:List Value)(rs:List SK)(h:Hp)(R:eH (eM rs)):Prop:=
 xo P fv/\BM P fv args rs h R
def yj (P:Program)(fv:Fv)(args:List Value)(ty:TypeId)(h:Hp)(K:Value->Hp->Prop):Prop:=
 match (match P.underlying ty with|some (.tuple ts)=>mL P ts.toList|_=>mL P [ty])with
 | some rs=>VE P fv args rs h (lam (eM rs) λvs h'=>K (pack rs vs) h')
 | none=>False
def xe (a:Addr)(vs:List Value)(h:Hp)(K:aP):Prop:=
 match vs with
 | [v]=>eP a v h K
 | vs=>oH a h vs 0 K
def qu (P:Program)(t:TypeId)(K:IntKind->CK->Prop):Prop:=
 match P.underlying t with
 | some (.map kt et)=>match P.underlying kt,nF P et with
  | some (.int k),some (.one c)=>K k c
  | _,_=>False
 | _=>False
def yp (P:Program)(t:TypeId)(len:Nat)(ps:List (Nat×Value))(K:TypeId->List Value->Prop):Prop:=
 match P.underlying t with
 | some (.slice e)=>match P.info? e with
  | some te=>match te.zero with
   | some z=>match len,ps with
    | 0,[]=>K e []
    | 0,_::_=>False
    | len+1,ps=>fJ (Nat.ble ((len+1)*te.size) 16777216&&Nat.blt 0 ((len+1)*te.size)&&z.cells.size==te.size)
     (match qf (λi=>some (i*te.size,te.size)) (List.replicate (len+1) z.cells.toList).flatten ps with
     | some cs=>K e cs
     | none=>False)
   | none=>False
  | none=>False
 | _=>False
def eK (P:Program)(o:Op)(ty:TypeId)(ρ:Env)(h:Hp)(K:Value->Hp->Prop):Prop:=
 match o with
 | .store t a x=>wv (ev ρ a) λva=>wv (ev ρ x) λvx=>match va with
  | .pointer (some a)=>bif tP P t then fJ ((P.info? t).isSome&&P.cellsOf t==1) (iK vx/\eP a vx h λh'=>K undef h')
   else fJ ((P.info? t).isSome&&vx.cells.size==P.cellsOf t) (wP vx.cells.toList (xe a vx.cells.toList h λh'=>K undef h'))
  | _=>False
 | .alloc e=>match P.info? e with
  | some te=>match te.zero with
   | some z=>Nw (.cells z.cells e (0,0)) h λa h'=>K (.pointer (some a)) h'
   | none=>False
  | none=>False
 | .box e x=>wv (ev ρ x) λv=>bif tP P e then iK v/\Nw (.cells #[v] e (0,0)) h λa h'=>K (.pointer (some a)) h' else Nw (.cells v.cells e (0,0)) h λa h'=>K (.pointer (some a)) h'
 | .buildSlice t len ps=>match UW ρ ps.toList with
  | some vs=>yp P t len vs λe cs=>Nw (.cells cs.toArray e (0,0)) h λa h'=>K (.slice (some a) len len) h'
  | none=>False
 | .makeMap t r=>match r with
  | none=>Nw (.map #[] 0) h λa h'=>K (.map (some a.block)) h'
  | some _=>False
 | .makeSlice t l c=>wv (ev ρ l) λvl=>wv (ev ρ c) λvc=>match P.underlying t,vl,vc with
  | some (.slice e),.int .i64 n,.int .i64 m=>match P.info? e with
   | some te=>match te.zero with
    | some z=>fJ (z.cells.size==te.size&&Nat.blt 0 te.size) (Mk n m te.bytes e z.cells.toList h λs h'=>K (.slice s.a s.len s.cap) h')
    | none=>False
   | none=>False
  | _,_,_=>False
 | .range t x=>wv (ev ρ x) λv=>qu P t λki c=>match v with
  | .map m=>mW ki c m h λa h'=>K (.pointer (some a)) h'
  | _=>False
 | .mapUpdate t m k x=>wv (ev ρ m) λvm=>wv (ev ρ k) λvk=>wv (ev ρ x) λvx=>qu P t λki c=>match vm,vk with
  | .map m,.int k' n=>if ki=k' then mg c vx λx=>j2 ki c m n x h λh'=>K undef h' else False
  | _,_=>False
 | .call c=>match c.callee,oJ ρ c.args.toList,c.argTypes.toList with
  | .value (.func f),some args,_=>yJ P f args h K
  | .value g,some args,_=>wv (ev ρ g) λvg=>mg .fn vg λfv=>yj P fv args ty h K
  | .invoke r name,some args,_=>wv (ev ρ r) λvr=>zx P vr name args ty h K
  | .builtin .append,some [.slice sa sn sc,.slice xa xn xc],[t,t']=>match P.underlying t with
   | some (.slice e)=>match P.info? e with
    | some te=>match te.zero with
     | some z=>fJ (Nat.beq t t'&&z.cells.size==te.size&&Nat.blt 0 te.size) (App ⟨sa,sn,sc⟩ te.size te.bytes e z.cells.toList ⟨xa,xn,xc⟩ h λs h'=>K (.slice s.a s.len s.cap) h')
     | none=>False
    | none=>False
   | _=>False
  | .builtin .delete,some [.map m,.int k' n],t::_=>qu P t λki c=>if ki=k' then kY ki c m n h λh'=>K (.tuple #[]) h' else False
  | .builtin .append,some [.slice sa sn sc,.int .i64 n],[t,t']=>match P.underlying t,P.underlying t' with
   | some (.slice e),some (.int _)=>match P.info? e with
    | some te=>match te.zero with
     | some z=>fJ (z.cells.size==te.size&&Nat.blt 0 te.size) (qJ ⟨sa,sn,sc⟩ te.size te.bytes e z.cells.toList n h λs h'=>K (.slice s.a s.len s.cap) h')
     | none=>False
    | none=>False
   | _,_=>False
  | .builtin .copy,some [.slice da dn dc,.slice xa xn xc],t::_=>match P.underlying t with
   | some (.slice e)=>match P.info? e with
    | some te=>qY ⟨da,dn,dc⟩ te.size ⟨xa,xn,xc⟩ h λz h'=>K (.int .i64 z) h'
    | none=>False
   | _=>False
  | .builtin .clear,some [.slice sa sn sc],[t]=>match P.underlying t with
   | some (.slice e)=>match P.info? e with
    | some te=>match te.zero with
     | some z=>fJ (z.cells.size==te.size&&Nat.blt 0 te.size) (yF ⟨sa,sn,sc⟩ z.cells.toList h λh'=>K (.tuple #[]) h')
     | none=>False
    | none=>False
   | _=>False
  | _,_,_=>False
 | _=>False
def pX (P:Program)(o:Op)(ty:TypeId)(ρ:Env)(h:Hp)(K:Value->Hp->Prop):Prop:=
 bif rm o then qK P o ρ h (λv=>K v h)else eK P o ty ρ h K
theorem D0:∀{vs:List Value} {A:Prop},wP vs A->A/\∀v∈vs,dV v=true
 | [],A,h=>⟨h,by simp⟩
 | v::vs,A,h=>by
  have h1:dV v=true/\wP vs A:=by cases v<;>first|exact h.elim|exact⟨rfl,h⟩
  obtain⟨b,d⟩:=D0 h1.2;exact⟨b,λu a=>by
   rcases zX.1 a with rfl|a
   ·exact h1.1
   ·exact d u a⟩
theorem Xa.refl (w:World):Xa w w:=⟨rfl,rfl,rfl,zD _⟩
theorem Xa.trans {a b c:World}(h:Xa a b)(k:Xa b c):Xa a c:=⟨k.1.trans h.1,k.2.1.trans h.2.1,k.2.2.1.trans h.2.2.1,ky h.2.2.2 k.2.2.2⟩
theorem KI (h:Hp)(a:Addr)(v:Value):(jt h a v).size=h.size:=by simp[jt]
theorem Dm {P:Program}{w:World}{a:Addr}{v:Value}(ho:dV v=true)(h1:(cell w.heap a).isSome=true)(h2:nb w.heap a=false):(store a v).run P w=.ok () (w.setCell a v):=by
 obtain⟨u,e⟩:=om.1 h1;have b:w.cell? a=some u:=e;have d:w.frozen? a=false:=h2;cases v<;>simp[dV]at ho<;>simp[store,Sem.run,b,d]
theorem UX {P:Program}:∀{vs:List Value} {w:World} {a:Addr} {i:Nat} {K:aP},(∀v∈vs,dV v=true)->oH a w.heap vs i K →
 ∃w',(storeCells a vs i).run P w=.ok () w'/\Xa w w'/\K w'.heap
 | [],w,a,i,K,_,h=>⟨w,by simp[storeCells],.refl _,h⟩
 | v::vs,w,a,i,K,ho,h=>by
  obtain⟨h1,h2,h3⟩:=h;have m:=Dm (P:=P) (ho v aA) h1 h2;obtain⟨w',g,e,j⟩:=UX (P:=P) (w:=w.setCell (a.add i) v) (λu d=>ho u (by simp[d])) h3;refine⟨w',?_,Xa.trans (b:=w.setCell (a.add i) v) ⟨rfl,rfl,rfl,Nat.le_of_eq (KI w.heap (a.add i) v).symm⟩ e,j⟩;simp only[storeCells,Sem.run_bind,m,Result.andThen_ok,g]
theorem Pv {P:Program}{vs:List Value}{w:World}{a:Addr}{K:aP}(ho:∀v∈vs,dV v=true)(h:xe a vs w.heap K) :
 ∃w',(storeCells a vs).run P w=.ok () w'/\Xa w w'/\K w'.heap:=by
 refine UX ho ?_;unfold xe at h;split at h
 ·simpa[oH,Addr.add_zero']using h
 ·exact h
def Qy (P:Program)(s:Sem Next)(w:World)(K:Value->Hp->Prop):Prop:=
 (∃v w',s.run P w=.ok (.value v) w'/\Xa w w'/\K v w'.heap) ∨
 (∃w',s.run P w=.ok .skip w'/\Xa w w'/\K undef w'.heap) ∨
 (∃f args rs R,s.run P w=.ok (.enter f args) w/\Wc P f args rs w.heap R/\∀vs h',Sat (eM rs) R vs h'->K (pack rs vs) h')
theorem Qy.upon {P:Program}{o:Oper}{a:Act}{w:World}{K:Value->Hp->Prop}{next:Act->World->Prop}{Q:Exit->Act->World->Prop}
 (h:Qy P (execOp a.eval o) w K) (hn:∀v w',Xa w w'->K v w'.heap->next (a.put o.dst v) w'):o.wp P a w next Q:=by
 unfold Oper.wp;rcases h with⟨v,w',hr,b,hK⟩|⟨w',hr,b,hK⟩|⟨f,args,rs,R,hr,hc,hK⟩
 ·rw[hr];exact hn _ _ b hK
 ·rw[hr];exact hn _ _ b hK
 ·rw[hr];refine(hc w rfl).mono λe w' ⟨b,vs,d,g⟩=>?_;subst d;exact hn _ _ b (hK _ _ g)
theorem KR {P:Program}{f:Nat}(h:Vl P f=true)(args:Array Value)(w:World):(callFunc f args).run P w=.ok (.enter f args) w:=by
 unfold Vl at h;split at h
 ·rename_i fn hf;simp only[zE,lx,lM]at h;obtain⟨d,b⟩:=h;obtain⟨c,a⟩:=om.1 b;simp[callFunc,hf,d,a]
 ·cases h
theorem JT {P:Program}{f:Nat}{args:List Value}{w:World}{K:Value->Hp->Prop}(h:yJ P f args w.heap K):Qy P (callFunc f args.toArray) w K:=by
 unfold yJ at h;split at h
 ·split at h
  ·rename_i rs hrs;split at h
   ·rename_i hc;exact .inr (.inr ⟨f,_,rs,_,KR hc _ _,h,λvs j d=>VA d⟩)
   ·split at h
    ·obtain⟨b,a,g,e,i⟩:=h w rfl;exact .inl ⟨_,a,g,e,i⟩
    ·exact h.elim
  ·exact h.elim
 ·exact h.elim
theorem Ex {P:Program}{fv:Fv}{args:List Value}{ty:Nat}{w:World}{K:Value->Hp->Prop}(h:yj P fv args ty w.heap K) :
 Qy P (callFunc fv.f (fv.first++args.toArray++fv.captured)) w K:=by
 unfold yj at h;split at h
 ·rename_i rs _;exact .inr (.inr ⟨_,_,rs,_,KR h.1 _ _,h.2,λvs b a=>VA a⟩)
 ·exact h.elim
theorem Ij {P:Program}{v:Value}{name:String}{args:List Value}{ty:Nat}{w:World}{K:Value->Hp->Prop}(h:zx P v name args ty w.heap K) :
 Qy P (callMethod v name args.toArray) w K:=by
 unfold zx at h;split at h
 ·rename_i rs _;obtain⟨t,u,f,rfl,a,b,h⟩:=h;refine .inr (.inr ⟨f,_,rs,_,?_,h,λvs e d=>VA d⟩);simp only[callMethod,Sem.run_bind,run_program,Result.andThen_ok,a,b];simp
 ·exact h.elim
theorem G8 {P:Program}{t:Nat}{K:IntKind->CK->Prop}(h:qu P t K):∃kt et k c,P.underlying t=some (.map kt et)/\P.underlying kt=some (.int k)/\K k c:=by
 unfold qu at h;split at h
 ·split at h
  ·exact⟨_,_,_,_,by assumption,by assumption,h⟩
  ·exact h.elim
 ·exact h.elim
theorem VI (w:World)(o:Obj):Xa w {w with heap:=w.heap.push o}:=⟨rfl,rfl,rfl,by simp⟩
theorem Ut (h:Hp)(r:Nat)(o:Obj):Qg h (h.setIfInBounds r o) r:=⟨by simp,λb a=>by rw[vP (Ne.symm a)]⟩
theorem Da {es:List MapEntry}{k:IntKind}{c:CK}:∀(l:List (Int×c.T)) (es:List MapEntry) (j:Nat) (n:Int) (x:c.T),
 es.map (λe=>(e.key,e.val))=l.map (λx=>(Value.int k x.1,c.v x.2))->(l.map (·.1)).Nodup->l.findIdx? (λx=>x.1==n)=some j →
 (es.modify j λe=>{e with key:=.int k n,val:=c.v x}).map (λe=>(e.key,e.val))=(l.map λy=>if y.1==n then(n,x)else y).map (λx=>(Value.int k x.1,c.v x.2))
 | [],es,j,n,x,he,hn,hj=>by simp at hj
 | y::l,[],j,n,x,he,hn,hj=>by simp at he
 | y::l,e::es,j,n,x,he,hn,hj=>by
  simp only[zU,List.cons.injEq]at he;simp only[zU,zt]at hn;simp only[uf]at hj;cases hy:y.1==n
  ·rw[hy]at hj;simp only[za,zp,nT]at hj;obtain⟨j',hj',rfl⟩:=hj;have:=Da (es:=es) l es j' n x he.2 hn.2 hj';simp only[List.modify_succ_cons,zU,this,hy,he.1];simp
  ·rw[hy]at hj;simp at hj;subst hj;have a:y.1=n:=by simpa using hy
   simp only[List.modify_zero_cons,zU,hy,zP,List.cons.injEq,rU,he.2]
   congr 1
   have:∀z∈l,(z.1==n)=false:=by
    intro z hz;have:z.1≠y.1:=λe=>hn.1 (by rw[←e];exact we hz);simpa[a]using this
   have e:l=l.map λz=>if z.1==n then(n,x)else z:=by
    conv=>lhs;rw[←tj l]
    apply j5;intro z hz;simp[this z hz]
   exact e
theorem ME {α:Type}{l:List (Int×α)}{n:Int}{j:Nat}(h:l.findIdx? (λx=>x.1==n)=some j):l.any (λx=>x.1==n)=true:=by
 obtain⟨x,a,rfl⟩:=VH h;rw[jU];exact⟨x,zG a,by simp⟩
theorem Hx {α:Type}{l:List (Int×α)}{n:Int}(h:l.findIdx? (λx=>x.1==n)=none):l.any (λx=>x.1==n)=false:=by
 rw[sN]at h;rw[lN];simpa using h
theorem gD {α:Type}{l:List (Int×α)}{n:Int}{x:α}(hn:(l.map (·.1)).Nodup):((dG l n x).map (·.1)).Nodup:=by
 unfold dG;split
 ·have:(l.map λy=>if y.1==n then(n,x)else y).map (·.1)=l.map (·.1):=by
   rw[lV];apply j5;intro y _;simp only[Function.comp];split
   ·rename_i h;simp at h;exact h.symm
   ·rfl
  rwa [this]
 ·rename_i h;rw[lI,nL];refine⟨hn,by simp,?_⟩;intro a ha b hb;simp at hb;subst hb;rintro rfl;obtain⟨y,d,rfl⟩:=zF.1 ha;exact h (jU.2 ⟨y,d,by simp⟩)
theorem FZ {P:Program}{t kt et:Nat}{k:IntKind}{c:CK}(hu:P.underlying t=some (.map kt et))(hk:P.underlying kt=some (.int k)){r:Nat}{l:List (Int×c.T)}{n:Int}{x:c.T}{w:World}
 (hm:dI w.heap r k c l):∃w',(Instr.mapUpdate t (.map (some r)) (.int k n) (c.v x)).run P w=.ok () w'/\Xa w w'/\Qg w.heap w'.heap r/\dI w'.heap r k c (dG l n x):=by
 obtain⟨es,d,z,i,A,F,D⟩:=hm;have B:r<w.heap.size:=(zy.1 z).1;have g:∀o,(w.heap.setIfInBounds r o)[r]?=some o:=λo=>by simp[B]
 cases hf:l.findIdx? (λx=>x.1==n)with
 | some j=>
  obtain⟨y,G,E⟩:=VH hf;have H:j<l.length:=(cX.1 G).1;have p:es.toList.length=l.length:=by simpa using congrArg List.length i
  have u:j<es.size:=by simp at p;omega
  have s:es[j].key=.int k n:=by
   have:=congrArg (λl=>l[j]?) i;simp only[zd,G,zc]at this;rw[wG,Array.getElem?_eq_getElem u]at this;simp at this;rw[this.1,E]
  refine⟨{w with heap:=w.heap.setIfInBounds r (.map (es.modify j λe=>{e with key:=.int k n,val:=c.v x}) d)},?_,⟨rfl,rfl,rfl,by simp⟩,Ut _ _ _,?_⟩
  ·simp only[Instr.mapUpdate,Sem.run_bind,run_underlying hu,Result.andThen_ok,Qm hk,getObj,Sem.run,z,Q3 hk i,hf];simp[Array.getElem?_eq_getElem u,s,Instr.keyThatStays,Instr.sameBits,setObj,Sem.run,z]
  ·refine⟨_,d,g _,?_,gD A,?_,?_⟩
   ·rw[x8,Da (es:=[]) l es.toList j n x i A hf];simp[dG,ME hf]
   ·have:(es.modify j λe=>{e with key:=.int k n,val:=c.v x}).toList.map (·.born)=es.toList.map (·.born):=by
     rw[x8];apply zm;intro m;simp only[zd,rK];cases es.toList[m]?<;>simp
     split<;>rfl
    rw[this];exact F
   ·intro e he';have:e.born∈(es.modify j λe=>{e with key:=.int k n,val:=c.v x}).toList.map (·.born):=we he';have e2:(es.modify j λe=>{e with key:=.int k n,val:=c.v x}).toList.map (·.born)=es.toList.map (·.born):=by
     rw[x8];apply zm;intro m;simp only[zd,rK];cases es.toList[m]?<;>simp
     split<;>rfl
    rw[e2]at this;obtain⟨J,L,K⟩:=zF.1 this;rw[←K];exact D J L
 | none=>
  refine⟨{w with heap:=w.heap.setIfInBounds r (.map (es.push {key:=.int k n,val:=c.v x,born:=d}) (d+1))},?_,⟨rfl,rfl,rfl,by simp⟩,Ut _ _ _,?_⟩
  ·simp only[Instr.mapUpdate,Sem.run_bind,run_underlying hu,Result.andThen_ok,Qm hk,getObj,Sem.run,z,Q3 hk i,hf];simp[setObj,Sem.run,z]
  ·refine⟨_,d+1,g _,?_,gD A,?_,?_⟩
   ·simp[dG,Hx hf,i]
   ·simp only[Array.toList_push,lI,zU,sG,oE];refine⟨F,by simp,?_⟩;intro a ha b hb';simp at hb';subst hb';obtain⟨e,C,rfl⟩:=zF.1 ha;exact D e C
   ·intro e he';simp only[Array.toList_push,zL,zR]at he';rcases he' with h|rfl
    ·have:=D e h;omega
    ·simp
theorem D8 {k:IntKind}{c:CK}:∀(l:List (Int×c.T)) (es:List MapEntry) (j:Nat) (n:Int),
 es.map (λe=>(e.key,e.val))=l.map (λx=>(Value.int k x.1,c.v x.2))->(l.map (·.1)).Nodup->l.findIdx? (λx=>x.1==n)=some j →
 (es.eraseIdx j).map (λe=>(e.key,e.val))=(di l n).map (λx=>(Value.int k x.1,c.v x.2))
 | [],es,j,n,he,hn,hj=>by simp at hj
 | y::l,[],j,n,he,hn,hj=>by simp at he
 | y::l,e::es,j,n,he,hn,hj=>by
  simp only[zU,List.cons.injEq]at he;simp only[zU,zt]at hn;simp only[uf]at hj;cases hy:y.1==n
  ·rw[hy]at hj;simp only[za,zp,nT]at hj;obtain⟨j',hj',rfl⟩:=hj;have:=D8 l es j' n he.2 hn.2 hj';simp only[List.eraseIdx_cons_succ,zU,this,di,rT,hy,he.1];simp
  ·rw[hy]at hj;simp at hj;subst hj;have a:y.1=n:=by simpa using hy
   simp only[List.eraseIdx_zero,List.tail_cons,di,rT,hy,Bool.not_true,za,zp,he.2]
   congr 1
   symm
   rw[oV];intro z hz;have:z.1≠y.1:=λe=>hn.1 (by rw[←e];exact we hz);simpa[a]using this
theorem Mr {α:Type}{l:List (Int×α)}{n:Int}(h:l.findIdx? (λx=>x.1==n)=none):di l n=l:=by
 rw[sN]at h;unfold di;rw[oV];intro z hz;have:=h z hz;simpa using this
theorem iT {α:Type}{l:List (Int×α)}{n:Int}(hn:(l.map (·.1)).Nodup):((di l n).map (·.1)).Nodup:=
 hn.sublist (List.Sublist.map _ qU)
theorem Jo {P:Program}{t kt et ty:Nat}{k:IntKind}{c:CK}(hu:P.underlying t=some (.map kt et))(hk:P.underlying kt=some (.int k)){m:Option Nat}{l:List (Int×c.T)}{n:Int}{w:World}{ats:List Nat}
 (hm:iU w.heap m k c l):∃w',(Builtin.delete_ (t::ats).toArray ty #[.map m,.int k n]).run P w=.ok (.tuple #[]) w'/\Xa w w'/\(∀r,m=some r->Qg w.heap w'.heap r)/\(m=none->w'.heap=w.heap)/\iU w'.heap m k c (di l n):=by
 cases m with
 | none=>
  simp only[iU]at hm;subst hm;exact⟨w,by simp[Builtin.delete_,run_underlying hu,Qm hk],.refl _,λr h=>(by cases h),λ_=>rfl,rfl⟩
 | some r=>
  obtain⟨g,a,i,d,p,y,u⟩:=hm;have s:r<w.heap.size:=(zy.1 i).1;have b:∀o,(w.heap.setIfInBounds r o)[r]?=some o:=λo=>by simp[s]
  cases hf:l.findIdx? (λx=>x.1==n)with
  | some j=>
   refine⟨{w with heap:=w.heap.setIfInBounds r (.map (g.eraseIdxIfInBounds j) a)},?_,⟨rfl,rfl,rfl,by simp⟩,λz h=>(by cases h;exact Ut _ _ _),(λh=>by cases h),?_⟩
   ·simp[Builtin.delete_,run_underlying hu,Qm hk,getObj,Sem.run,i,Q3 hk d,hf,setObj]
   ·refine⟨_,a,b _,?_,iT p,?_,?_⟩
    ·rw[xz];exact D8 l g.toList j n d p hf
    ·rw[xz];exact y.sublist (List.Sublist.map _ (List.eraseIdx_sublist _ _))
    ·rw[xz];intro e he';exact u e ((List.eraseIdx_sublist _ _).mem he')
  | none=>
   refine⟨{w with heap:=w.heap.setIfInBounds r (.map g a)},?_,⟨rfl,rfl,rfl,by simp⟩,λz h=>(by cases h;exact Ut _ _ _),(λh=>by cases h),?_⟩
   ·simp[Builtin.delete_,run_underlying hu,Qm hk,getObj,Sem.run,i,Q3 hk d,hf,setObj]
   ·rw[Mr hf];exact⟨g,a,b _,d,p,y,u⟩
theorem tg {P:Program}{w:World}{sz n:Nat}{s:Sl}{xs:List Value}(hl:xs.length=s.len*sz)(h:Rd w.heap s.a xs)(hn:n=s.len) :
 (Builtin.firstCells sz n (.slice s.a s.len s.cap)).run P w=.ok xs.toArray w:=by
 subst hn;obtain⟨a,len,cap⟩:=s;cases a with
 | none=>simp only[Rd]at h;subst h;simp[Builtin.firstCells]
 | some a=>
  simp only at hl h;simp only[Builtin.firstCells];rw[←hl];have:=run_loadCells_list (P:=P) (w:=w) a xs (λj v b=>h j v b);exact this
theorem KK {z:Array Value}(hz:0<z.size):∀n,Builtin.zeroCells z n=(List.replicate n z.toList).flatten.toArray:=by
 intro n;apply Array.ext';simp only[Builtin.zeroCells,Array.toList_map,Array.toList_range]
 induction n with
 | zero=>simp
 | succ n ih=>
  rw[xU,List.flatten_append];simp only[uR,List.flatten_nil,lF];rw[←ih];rw[Nat.succ_mul,List.range_add,lI,lV]
  congr 1
  apply List.ext_getElem
  ·simp
  ·intro i h1 h2;simp at h1 h2;simp[sk h1,h1]
theorem Dk (n c:Nat)(h:¬n<=c):Builtin.nextslicecap n c<=2*n:=by
 unfold Builtin.nextslicecap;split
 ·omega
 ·split
  ·omega
  ·have key:∀r c,c<=2*n->(Builtin.growBy n r c)<=2*n:=by
    intro r
    induction r with
    | zero=>intro c hc;simpa[Builtin.growBy]using hc
    | succ r ih=>
     intro c hc;simp only[Builtin.growBy];split
     ·exact hc
     ·exact ih _ O
   exact key _ _ O
theorem MQ {P:Program}{t e ty:Nat}{te:TypeInfo}{z:Value}{s x:Sl}{K:Sl->Hp->Prop}{w:World}(hu:P.underlying t=some (.slice e))(hi:P.info? e=some te)(hz:te.zero=some z)(hzs:z.cells.size=te.size)(hpos:0<te.size)
 (h:App s te.size te.bytes e z.cells.toList x w.heap K) :
 ∃r w',(Builtin.append_ #[t,t] ty #[.slice s.a s.len s.cap,.slice x.a x.len x.cap]).run P w=.ok (.slice (Sl.a r) r.len r.cap) w'/\Xa w w'/\K r w'.heap:=by
 obtain⟨M,H,N,L,G,J,D,V,W,b,d⟩:=h;have u:=tg (P:=P) (n:=s.len) N G rfl;have i:=tg (P:=P) (n:=x.len) L J rfl;by_cases hroom:s.len+x.len<=s.cap
 ·have b:=b hroom;cases hsa:s.a with
  | some a=>
   rw[hsa]at b;obtain⟨w',R,Q,E⟩:=UX (P:=P) D b;rw[hsa]at u;refine⟨⟨some a,s.len+x.len,s.cap⟩,w',?_,Q,E⟩;simp[Builtin.append_,run_underlying hu,sizeOf,typeInfo,hi,Builtin.lenOf,hroom,i,R]
  | none=>
   rw[hsa]at b;rw[hsa]at u;refine⟨⟨none,s.len+x.len,s.cap⟩,w,?_,.refl _,b⟩;simp[Builtin.append_,run_underlying hu,sizeOf,typeInfo,hi,Builtin.lenOf,hroom,i]
 ·have d:=d hroom;have j:¬(2^48<Builtin.nextslicecap (s.len+x.len) s.cap*te.bytes):=by
   have:=Dk (s.len+x.len) s.cap hroom;have:Builtin.nextslicecap (s.len+x.len) s.cap*te.bytes<=2*(s.len+x.len)*te.bytes:=lq _ this;rw[uK]at this;omega
  have F:¬(IntKind.i64.max<((s.len+x.len:Nat):Int)):=by
   have:IntKind.i64.max=9223372036854775807:=by decide
   rw[this];omega
  have B:¬(IntKind.i64.max<((s.len:Int)+(x.len:Int))):=by
   have:IntKind.i64.max=9223372036854775807:=by decide
   rw[this];omega
  have A:=KK (z:=z.cells) O;have y:s.cap<s.len+x.len:=by omega
  have g:¬(281474976710656<Builtin.nextslicecap (s.len+x.len) s.cap*te.bytes):=by simpa using j
  let q:=Question.appendCap (s.len+x.len) s.cap e
  let c:=q.cut (w.tape w.drawn q)
  have S:s.len+x.len<=c:=by simp only[c,q,Question.cut];omega
  have E:=d c S;refine⟨⟨some ⟨w.heap.size,0,none⟩,s.len+x.len,c⟩,{w with drawn:=w.drawn+1,heap:=w.heap.push (.cells (M++H++(List.replicate (c-(s.len+x.len)) z.cells.toList).flatten).toArray e (0,0))},?_,⟨rfl,rfl,rfl,by simp⟩,E⟩;have U:(Question.appendCap (s.len+x.len) s.cap e).forced=false:=rfl;have C:¬(9223372036854775807<(s.len:Int)+(x.len:Int)):=by omega
  have p:=tg (P:=P) (w:=w.drew) (n:=s.len) N (show Rd w.drew.heap s.a M from G) rfl;have m:=tg (P:=P) (w:=w.drew) (n:=x.len) L (show Rd w.drew.heap x.a H from J) rfl;simp[Builtin.append_,run_underlying hu,sizeOf,typeInfo,hi,Builtin.lenOf,hroom,C,U,g,p,m,zeroValue,hz,A,newRow];refine⟨rfl,?_⟩;unfold World.alloc World.drew;simp[c,q]
theorem Ja {P:Program}{t t' e ty:Nat}{te:TypeInfo}{z:Value}{s:Sl}{n:Int}{ki:IntKind}{K:Sl->Hp->Prop}{w:World}(hu:P.underlying t=some (.slice e))(hu':P.underlying t'=some (.int ki))(hi:P.info? e=some te)(hz:te.zero=some z)(hzs:z.cells.size=te.size)(hpos:0<te.size)
 (h:qJ s te.size te.bytes e z.cells.toList n w.heap K) :
 ∃r w',(Builtin.append_ #[t,t'] ty #[.slice s.a s.len s.cap,.int .i64 n]).run P w=.ok (.slice (Sl.a r) r.len r.cap) w'/\Xa w w'/\K r w'.heap:=by
 obtain⟨H,W,X,V,J,Y,h6,h7,i,m⟩:=h;obtain⟨n,rfl⟩:=zY H;simp only[dC]at Y h6 h7 i m;have F:=tg (P:=P) (n:=s.len) X V rfl;have U:∀v∈(List.replicate n z.cells.toList).flatten,dV v=true:=by
  intro v G;simp only[List.mem_flatten,wg]at G;obtain⟨l,⟨_,rfl⟩,G⟩:=G;exact J v G
 have D:IntKind.i64.wrap (n:Int)=n:=by unfold IntKind.wrap;simp[IntKind.bits,IntKind.signed];omega
 have B:IntKind.i64.wrap 0=0:=by decide
 have u:=KK (z:=z.cells) O;have C:¬((n:Int)<0):=by omega
 have Q:¬((n:Int)*(te.bytes:Int)>2^48):=by
  have:(2:Int)^46<=2^48:=by decide
  omega
 have p:¬(281474976710656<(n:Int)*(te.bytes:Int)):=by simpa using Q
 have N:n*te.size=0->(List.replicate n z.cells.toList).flatten=[]:=by
  intro h0;rcases sU.1 h0 with h|h
  ·subst h;simp
  ·omega
 by_cases hroom:s.len+n<=s.cap
 ·have i:=i hroom;cases hsa:s.a with
  | some a=>
   rw[hsa]at i;obtain⟨w',L,io,M⟩:=UX (P:=P) U i;rw[hsa]at F;refine⟨⟨some a,s.len+n,s.cap⟩,w',?_,io,M⟩;by_cases hn:n*te.size=0
   ·have:=N hn;rw[this]at L;rcases sU.1 hn with hn'|hn'
    ·subst hn';have b:s.len<=s.cap:=by simpa using hroom
     simp[Builtin.append_,run_underlying hu,run_underlying hu',sizeOf,typeInfo,hi,Builtin.lenOf,b,asInt,asIntOf,B,L]
    ·omega
   ·have g:¬n=0:=λe=>hn (by rw[e];simp);have d:¬te.size=0:=by omega
    simp[Builtin.append_,run_underlying hu,run_underlying hu',sizeOf,typeInfo,hi,Builtin.lenOf,hroom,L,asInt,asIntOf,D,C,p,hn,g,d,zeroValue,hz,u]
  | none=>
   rw[hsa]at i;rw[hsa]at F;refine⟨⟨none,s.len+n,s.cap⟩,w,?_,.refl _,i⟩;by_cases hn:n*te.size=0
   ·rcases sU.1 hn with hn'|hn'
    ·subst hn';have b:s.len<=s.cap:=by simpa using hroom
     simp[Builtin.append_,run_underlying hu,run_underlying hu',sizeOf,typeInfo,hi,Builtin.lenOf,b,asInt,asIntOf,B]
    ·omega
   ·have g:¬n=0:=λe=>hn (by rw[e];simp);have d:¬te.size=0:=by omega
    simp[Builtin.append_,run_underlying hu,run_underlying hu',sizeOf,typeInfo,hi,Builtin.lenOf,hroom,asInt,asIntOf,D,C,p,hn,g,d,zeroValue,hz,u]
 ·have m:=m hroom;have A:¬(2^48<Builtin.nextslicecap (s.len+n) s.cap*te.bytes):=by
   have:=Dk (s.len+n) s.cap hroom;have:Builtin.nextslicecap (s.len+n) s.cap*te.bytes<=2*(s.len+n)*te.bytes:=lq _ this;rw[uK]at this;omega
  have j:¬(281474976710656<Builtin.nextslicecap (s.len+n) s.cap*te.bytes):=by simpa using A
  let q:=Question.appendCap (s.len+n) s.cap e
  let c:=q.cut (w.tape w.drawn q)
  have Z:s.len+n<=c:=by simp only[c,q,Question.cut];omega
  have M:=m c Z;refine⟨⟨some ⟨w.heap.size,0,none⟩,s.len+n,c⟩,{w with drawn:=w.drawn+1,heap:=w.heap.push (.cells (W++(List.replicate n z.cells.toList).flatten++(List.replicate (c-(s.len+n)) z.cells.toList).flatten).toArray e (0,0))},?_,⟨rfl,rfl,rfl,by simp⟩,M⟩;have hf:(Question.appendCap (s.len+n) s.cap e).forced=false:=rfl;have S:¬(9223372036854775807<(s.len:Int)+(n:Int)):=by omega
  have x:=tg (P:=P) (w:=w.drew) (n:=s.len) X (show Rd w.drew.heap s.a W from V) rfl;by_cases hn:n*te.size=0
  ·rcases sU.1 hn with hn'|hn'
   ·subst hn';have b:¬s.len<=s.cap:=by simpa using hroom
    have y:¬(281474976710656<Builtin.nextslicecap s.len s.cap*te.bytes):=by simpa using j
    have R:(Question.appendCap s.len s.cap e).forced=false:=rfl;have E:¬(9223372036854775807<(s.len:Int)):=by omega
    simp[Builtin.append_,run_underlying hu,run_underlying hu',sizeOf,typeInfo,hi,Builtin.lenOf,b,E,R,y,x,zeroValue,hz,u,newRow,asInt,asIntOf,B];refine⟨rfl,?_⟩;unfold World.alloc World.drew;simp[c,q]
   ·omega
  ·have g:¬n=0:=λe=>hn (by rw[e];simp);have d:¬te.size=0:=by omega
   simp[Builtin.append_,run_underlying hu,run_underlying hu',sizeOf,typeInfo,hi,Builtin.lenOf,hroom,S,hf,j,x,zeroValue,hz,u,newRow,asInt,asIntOf,D,C,p,hn,g,d];refine⟨rfl,?_⟩;unfold World.alloc World.drew;simp[c,q]
theorem Ni {P:Program}{t e ty:Nat}{ats:List TypeId}{te:TypeInfo}{d s:Sl}{K:aN}{w:World}(hu:P.underlying t=some (.slice e))(hi:P.info? e=some te)
 (h:qY d te.size s w.heap K):∃z w',(Builtin.copy_ (t::ats).toArray ty #[.slice d.a d.len d.cap,.slice s.a s.len s.cap]).run P w=.ok (.int .i64 z) w'/\Xa w w'/\K z w'.heap:=by
 obtain⟨p,r,i,x,m⟩:=h;have g:(Builtin.firstCells te.size (min s.len d.len) (.slice s.a s.len s.cap)).run P w=.ok p.toArray w:=by
  obtain⟨a,len,cap⟩:=s;cases a with
  | none=>simp only[Rd]at i;subst i;simp[Builtin.firstCells]
  | some a=>
   simp only at r i;simp only[Builtin.firstCells];rw[←r];exact run_loadCells_list (P:=P) (w:=w) a p (λj v u=>i j v u)
 have b:Nat.min s.len d.len=min s.len d.len:=rfl;cases hda:d.a with
 | none=>
  rw[hda]at m;refine⟨_,w,?_,.refl _,m⟩;simp[Builtin.copy_,run_underlying hu,sizeOf,typeInfo,hi,Builtin.lenOf,g,b,goInt]
 | some a=>
  rw[hda]at m;obtain⟨w',B,A,y⟩:=UX (P:=P) x m;refine⟨_,w',?_,A,y⟩;simp[Builtin.copy_,run_underlying hu,sizeOf,typeInfo,hi,Builtin.lenOf,g,b,B,goInt]
theorem EX {P:Program}{t e ty:Nat}{te:TypeInfo}{z:Value}{s:Sl}{K:aP}{w:World}(hu:P.underlying t=some (.slice e))(hi:P.info? e=some te)(hz:te.zero=some z)(hzs:z.cells.size=te.size)(hpos:0<te.size)
 (h:yF s z.cells.toList w.heap K):∃w',(Builtin.clear_ #[t] ty #[.slice s.a s.len s.cap]).run P w=.ok (.tuple #[]) w'/\Xa w w'/\K w'.heap:=by
 obtain⟨m,h⟩:=h;have d:=KK (z:=z.cells) O;obtain⟨a,len,cap⟩:=s;cases a with
 | none=>exact⟨w,by simp[Builtin.clear_,run_underlying hu],.refl _,h⟩
 | some a=>
  simp only at h;cases len with
  | zero=>
   simp[oH]at h;exact⟨w,by simp[Builtin.clear_,run_underlying hu],.refl _,h⟩
  | succ n=>
   obtain⟨w',j,i,g⟩:=UX (P:=P) (λv b=>by
    simp only[List.mem_flatten,wg]at b;obtain⟨l,⟨_,rfl⟩,b⟩:=b;exact m v b) h
   refine⟨w',?_,i,g⟩;simp[Builtin.clear_,run_underlying hu,zeroValue,typeInfo,hi,hz,d,j]
theorem Iq {P:Program}{t len:Nat}{ps:List (Nat×Value)}{K:TypeId->List Value->Prop}(h:yp P t len ps K):∃e te z cs,P.underlying t=some (.slice e)/\P.info? e=some te/\te.zero=some z/\K e cs ∧
 ((len=0/\ps=[]/\cs=[])\/(len*te.size<=16777216/\0<len*te.size/\z.cells.size=te.size/\qf (λi=>some (i*te.size,te.size)) (List.replicate len z.cells.toList).flatten ps=some cs)):=by
 unfold yp at h;split at h
 case h_2=>exact h.elim
 rename_i e hu;split at h
 case h_2=>exact h.elim
 rename_i te hi;split at h
 case h_2=>exact h.elim
 rename_i z hz;split at h
 ·exact⟨e,te,z,[],hu,hi,hz,h,.inl ⟨rfl,rfl,rfl⟩⟩
 ·exact h.elim
 ·rw[Wu]at h;obtain⟨a,h⟩:=h;simp only[zE,zV]at a;split at h
  case h_2=>exact h.elim
  rename_i cs hf;exact⟨e,te,z,cs,hu,hi,hz,h,.inr ⟨vv a.1.1,Nat.blt_eq.mp a.1.2,a.2,hf⟩⟩
theorem CU {z:Array Value}(hz:0<z.size)(n:Nat):((Array.range (n*z.size)).map (z[· % z.size]!))=(List.replicate n z.toList).flatten.toArray:=KK hz n
theorem O9 {P:Program}{ρ:Env}{K:Value->Hp->Prop}{a:Act}{w:World}(hf:∀x v,ev ρ x=some v->a.eval x=v)(o:Oper)(hk:eK P o.op o.type ρ w.heap K) :
 Qy P (execOp a.eval o) w K:=by
 obtain⟨dst,op,ty,pos,after,guard⟩:=o;simp only at hk;have p:∀{s:Sem Value},(∃v B,s.run P w=.ok v B/\Xa w B/\K v B.heap)->Qy P (do pure (Next.value (←s)):Sem Next) w K:=by
  rintro s ⟨v,B,hv,L,D⟩;exact .inl ⟨v,B,by simp[hv],L,D⟩
 have M:∀{s:Sem Unit},(∃B,s.run P w=.ok () B/\Xa w B/\K undef B.heap)->Qy P (do s;pure Next.skip:Sem Next) w K:=by
  rintro s ⟨B,hv,L,D⟩;exact .inr (.inl ⟨B,by simp[hv],L,D⟩)
 unfold eK at hk;split at hk
 case h_1 t x y=>
  obtain⟨va,H,hk0⟩:=Wq hk;clear hk;obtain⟨Z,hx,hk⟩:=Wq hk0;clear hk0;simp only[execOp,hf _ _ H,hf _ _ hx];split at hk
  ·rename_i ad;cases hraw:tP P t
   case true=>
    rw[hraw]at hk;simp only[cond_true]at hk;rw[Wu]at hk;obtain⟨hc,hif,s1,s2,D⟩:=hk;simp only[zE,zV]at hc;obtain⟨h1,Y⟩:=hc;apply M;have hone:dV Z=true:=by rcases hif with rfl|⟨t',u,rfl⟩<;>rfl
    have F:Z.cells = #[Z]:=by rcases hif with rfl|⟨t',u,rfl⟩<;>rfl
    have C:=Dm (P:=P) (w:=w) hone s1 s2;refine⟨w.setCell ad Z,?_,⟨rfl,rfl,rfl,Nat.le_of_eq (KI w.heap ad Z).symm⟩,D⟩;have hr':(storeCells ad #[Z].toList).run P w=.ok () (w.setCell ad Z):=by
     simp only[storeCells,Addr.add_zero',Sem.run_bind,C,Result.andThen_ok];rfl
    simp only[Instr.storeAt,Instr.sureAddr,Sem.run_bind,Sem.run_pure,Result.andThen_ok,storeVar,Qt h1,Y,F,ne_eq,zp];simpa using hr'
   rw[hraw]at hk;simp only[cond_false]at hk;rw[Wu]at hk;obtain⟨hc,hk⟩:=hk;simp only[zE,zV]at hc;obtain⟨h1,Y⟩:=hc;obtain⟨hk,h3⟩:=D0 hk;apply M;obtain⟨B,C,L,D⟩:=Pv (P:=P) h3 hk;refine⟨B,?_,L,D⟩;simp only[Instr.storeAt,Instr.sureAddr,Sem.run_bind,Sem.run_pure,Result.andThen_ok,storeVar,Qt h1,Y,ne_eq,not_true_eq_false,zp];simpa using C
  ·exact hk.elim
 case h_2 e=>
  split at hk
  case h_2=>exact hk.elim
  rename_i N J;split at hk
  case h_2=>exact hk.elim
  rename_i z U;apply p;refine⟨_,_,?_,VI _ _,hk⟩;simp[Instr.alloc,KT J U,newVar,newRow,newObj,Sem.run]
 case h_3 e x=>
  obtain⟨v,hv,hk⟩:=Wq hk;simp only[execOp,hf _ _ hv];apply p;cases hraw:tP P e
  case true=>
   rw[hraw]at hk;simp only[cond_true]at hk;have F:v.cells = #[v]:=by rcases hk.1 with rfl|⟨t',u,rfl⟩<;>rfl
   refine⟨_,_,?_,VI _ _,hk.2⟩;simp[Instr.box,newVar,newRow,newObj,Sem.run,F]
  rw[hraw]at hk;refine⟨_,_,?_,VI _ _,hk⟩;simp[Instr.box,newVar,newRow,newObj,Sem.run]
 case h_4 t len ps=>
  split at hk
  case h_2=>exact hk.elim
  rename_i vs hps;have e1:=Vq hf hps;have d:ps.map (λ(i,x)=>(i,a.eval x))=vs.toArray:=by apply Array.ext';simpa using e1
  obtain⟨e,N,z,cs,E,J,U,hk,hcase⟩:=Iq hk;simp only[execOp,d];apply p;refine⟨_,_,?_,VI _ _,hk⟩;rcases hcase with⟨rfl,rfl,rfl⟩|⟨hle,aa,hzs,hfl⟩
  ·simp only[Instr.buildSlice,Sem.run_bind,run_underlying E,Result.andThen_ok,sizeOf,Vz J,Sem.run_pure,tz];simp[Instr.fill,newRow,newObj,Sem.run,Array.range_zero']
  have hts:0<N.size:=Nat.pos_of_mul_pos_left aa;have hfill:=VZ _ _ _ _ hfl;have W:=CU (z:=z.cells) O len;rw[hzs]at W;have hne:¬(len*N.size=0):=by omega
  have hle':¬(len*N.size>2^24):=by
   have:(2:Nat)^24=16777216:=by decide
   omega
  simp only[Instr.buildSlice,Sem.run_bind,run_underlying E,Result.andThen_ok,sizeOf,Vz J,Sem.run_pure,hle',zp,hne,KT J U,W,hzs,hfill,newRow,newObj,Sem.run]
 case h_5 t r=>
  split at hk
  ·apply p;refine⟨_,_,?_,VI _ _,hk⟩;simp[Instr.makeMap,newObj,Sem.run]
  ·exact hk.elim
 case h_6 t l c=>
  obtain⟨vl,hl,hk⟩:=Wq hk;obtain⟨vc,hc,hk⟩:=Wq hk;simp only[execOp,hf _ _ hl,hf _ _ hc];split at hk
  case h_2=>exact hk.elim
  rename_i e n m E _;split at hk
  case h_2=>exact hk.elim
  rename_i N J;split at hk
  case h_2=>exact hk.elim
  rename_i z U;rw[Wu]at hk;obtain⟨j,h0,h1,Y,h3,hk⟩:=hk;simp only[zE,zV]at j;have aa:0<N.size:=Nat.blt_eq.mp j.2;apply p;refine⟨_,_,?_,VI _ _,hk⟩;have hwn:IntKind.i64.wrap n=n:=by unfold IntKind.wrap;simp[IntKind.bits,IntKind.signed];omega
  have hwm:IntKind.i64.wrap m=m:=by unfold IntKind.wrap;simp[IntKind.bits,IntKind.signed];omega
  have hbig:¬((N.bytes:Int)*m>2^48):=by
   have:(2:Int)^46<=2^48:=by decide
   omega
  have hm0:¬m<0:=by omega
  have hn0:¬n<0:=by omega
  have hnm:¬n>m:=by omega
  have X:¬m<n:=by omega
  have W:=CU (z:=z.cells) O m.toNat;have hrz2:Array.map (λx=>z.cells[x%z.cells.size]!) (Array.range (m.toNat*N.size))=(List.replicate m.toNat z.cells.toList).flatten.toArray:=by rw[←j.1];exact W
  have R:¬(281474976710656<(N.bytes:Int)*m):=by simpa using hbig
  by_cases hz0:m.toNat*N.size=0
  ·have hmz:m.toNat=0:=by
    rcases sU.1 hz0 with h|h
    ·exact h
    ·omega
   simp[Instr.makeSlice,run_underlying E,Vz J,asInt,asIntOf,hwn,hwm,R,hm0,hn0,hnm,X,askRoom,mark,sizeOf,hmz,newRow];rw[show Array.range 0 = #[]from rfl];simp
  ·simp[Instr.makeSlice,run_underlying E,Vz J,asInt,asIntOf,hwn,hwm,R,hm0,hn0,hnm,X,askRoom,mark,sizeOf,hz0,KT J U,newRow,hrz2];intro _;rfl
 case h_7 t x=>
  obtain⟨v,hv,G⟩:=Wq hk;obtain⟨kt,et,ki,c,E,V,Q⟩:=G8 G;clear hk G;simp only[execOp,hf _ _ hv];split at Q
  case h_2=>exact Q.elim
  rename_i m;apply p;obtain⟨l,hm,D⟩:=Q;cases m with
  | none=>
   refine⟨_,{w with heap:=w.heap.push (.mapIter none 0 #[] 0)},?_,VI _ _,D _ aA (λb hb=>by simp[uZ,tJ hb]) ?_⟩
   ·simp[Instr.range,run_underlying E,newObj,Sem.run]
   ·simp only[iU]at hm;exact⟨hm,hm,rfl,0,#[],0,by simp⟩
  | some b=>
   obtain⟨es,clk,C,he,hn,hp,hb⟩:=hm;have hlt:b<w.heap.size:=(zy.1 C).1;refine⟨_,{w with heap:=w.heap.push (.mapIter (some b) clk #[] clk)},?_,VI _ _,D _ aA (λb hb=>by simp[uZ,tJ hb]) ?_⟩
   ·simp[Instr.range,run_underlying E,newObj,getObj,Sem.run,C]
   ·exact⟨es,clk,#[],by simp,by simp[uZ,tJ hlt,C],he,hn,hp,hb,by rw[oV.2 (λe _=>by simp)];exact he,λx hx=>by cases hx⟩
 case h_8 t m k x=>
  obtain⟨vm,hm,G⟩:=Wq hk;obtain⟨vk,hkk,Q⟩:=Wq G;obtain⟨Z,hx,hk3⟩:=Wq Q;obtain⟨kt,et,ki,c,E,V,S⟩:=G8 hk3;clear hk G Q hk3;simp only[execOp,hf _ _ hm,hf _ _ hkk,hf _ _ hx];split at S
  ·split at S
   ·rename_i e;subst e;obtain⟨x,rfl,r,l,rfl,hl,D⟩:=Vj S;apply M;obtain⟨B,C,L,ho,hl'⟩:=FZ (P:=P) E V (x:=x) hl;exact⟨B,C,L,D _ ho hl'⟩
   ·exact S.elim
  ·exact S.elim
 case h_9 c=>
  obtain⟨callee,A,ats⟩:=c;simp only at hk;split at hk
  ·rename_i f args' H;have e1:=Zz hf H;have d:A.map a.eval=args'.toArray:=by apply Array.ext';simpa using e1
   have:=JT hk;simpa[execOp,resolve,d,Act.eval,Deferred.ofValue,invoke]using this
  ·rename_i g args' _ H;obtain⟨vg,hg,hk⟩:=Wq hk;obtain⟨fv,rfl,hk⟩:=Vj hk;have e1:=Zz hf H;have d:A.map a.eval=args'.toArray:=by apply Array.ext';simpa using e1
   have:=Ex hk;simpa[execOp,resolve,d,hf _ _ hg,CK.v,Deferred.ofValue,invoke]using this
  ·rename_i r name args' H;obtain⟨vr,C,hk⟩:=Wq hk;have e1:=Zz hf H;have d:A.map a.eval=args'.toArray:=by apply Array.ext';simpa using e1
   have:=Ij hk;simpa[execOp,resolve,d,hf _ _ C,invoke]using this
  ·rename_i sa sn sc xa xn xc t t' H ht;have e1:=Zz hf H;have d:A.map a.eval = #[.slice sa sn sc,.slice xa xn xc]:=by apply Array.ext';simpa using e1
   have e2:ats = #[t,t']:=by apply Array.ext';simpa using ht
   subst e2;split at hk
   case h_2=>exact hk.elim
   rename_i e E;split at hk
   case h_2=>exact hk.elim
   rename_i N J;split at hk
   case h_2=>exact hk.elim
   rename_i z U;rw[Wu]at hk;obtain⟨j,hk⟩:=hk;simp only[zE,zV]at j;obtain⟨⟨h1,Y⟩,h3⟩:=j;have ett:t=t':=zo h1;subst ett;obtain⟨r,B,C,L,D⟩:=MQ (P:=P) (ty:=ty) E J U Y (Nat.blt_eq.mp h3) hk;refine .inl ⟨_,B,?_,L,D⟩;simp only at C;simp[execOp,resolve,d,invoke,builtin,C]
  ·rename_i m k' n t ats' H ht;have e1:=Zz hf H;have d:A.map a.eval = #[.map m,.int k' n]:=by apply Array.ext';simpa using e1
   have e2:ats=(t::ats').toArray:=by apply Array.ext';simpa using ht
   subst e2;obtain⟨kt,et,ki,c,E,V,G⟩:=G8 hk;clear hk;split at G
   ·rename_i e;subst e;obtain⟨l,hl,D⟩:=G;obtain⟨B,C,L,h1,Y,h3⟩:=Jo (P:=P) (ty:=ty) (ats:=ats') E V (n:=n) hl;refine .inl ⟨_,B,?_,L,D _ h1 Y h3⟩;simp[execOp,resolve,d,invoke,builtin,C]
   ·exact G.elim
  ·rename_i sa sn sc n t t' H ht;have e1:=Zz hf H;have d:A.map a.eval = #[.slice sa sn sc,.int .i64 n]:=by apply Array.ext';simpa using e1
   have e2:ats = #[t,t']:=by apply Array.ext';simpa using ht
   subst e2;split at hk
   case h_2=>exact hk.elim
   rename_i e ki E hu';split at hk
   case h_2=>exact hk.elim
   rename_i N J;split at hk
   case h_2=>exact hk.elim
   rename_i z U;rw[Wu]at hk;obtain⟨j,hk⟩:=hk;simp only[zE,zV]at j;obtain⟨r,B,C,L,D⟩:=Ja (P:=P) (ty:=ty) E hu' J U j.1 (Nat.blt_eq.mp j.2) hk;refine .inl ⟨_,B,?_,L,D⟩;simp only at C;simp[execOp,resolve,d,invoke,builtin,C]
  ·rename_i da dn dc xa xn xc t ats' H ht;have e1:=Zz hf H;have d:A.map a.eval = #[.slice da dn dc,.slice xa xn xc]:=by apply Array.ext';simpa using e1
   have e2:ats=(t::ats').toArray:=by apply Array.ext';simpa using ht
   subst e2;split at hk
   case h_2=>exact hk.elim
   rename_i e E;split at hk
   case h_2=>exact hk.elim
   rename_i N J;obtain⟨r,B,C,L,D⟩:=Ni (P:=P) (ty:=ty) (ats:=ats') E J hk;refine .inl ⟨_,B,?_,L,D⟩;simp only at C;simp[execOp,resolve,d,invoke,builtin,C]
  ·rename_i sa sn sc t H ht;have e1:=Zz hf H;have d:A.map a.eval = #[.slice sa sn sc]:=by apply Array.ext';simpa using e1
   have e2:ats = #[t]:=by apply Array.ext';simpa using ht
   subst e2;split at hk
   case h_2=>exact hk.elim
   rename_i e E;split at hk
   case h_2=>exact hk.elim
   rename_i N J;split at hk
   case h_2=>exact hk.elim
   rename_i z U;rw[Wu]at hk;obtain⟨j,hk⟩:=hk;simp only[zE,zV]at j;obtain⟨B,C,L,D⟩:=EX (P:=P) (ty:=ty) E J U j.1 (Nat.blt_eq.mp j.2) hk;refine .inl ⟨_,B,?_,L,D⟩;simp only at C;simp[execOp,resolve,d,invoke,builtin,C]
  ·exact hk.elim
 ·exact hk.elim
theorem AG {k:IntKind}{c:CK}(p:MapEntry->Bool)(q:Int×c.T->Bool):∀(L:List MapEntry) (T:List (Int×c.T)),L.map (λe=>(e.key,e.val))=T.map (λx=>(Value.int k x.1,c.v x.2)) →
 (∀(j:Nat) (e:MapEntry) (y:Int×c.T),L[j]?=some e->T[j]?=some y->p e=q y)->(L.filter p).map (λe=>(e.key,e.val))=(T.filter q).map (λx=>(Value.int k x.1,c.v x.2))
 | [],T,h,_=>by
  cases T with
  | nil=>rfl
  | cons y T=>simp at h
 | e::L,[],h,_=>by simp at h
 | e::L,y::T,h,hpq=>by
  simp only[zU,List.cons.injEq]at h;have h0:=hpq 0 e y rfl rfl;have a:=AG p q L T h.2 (λj b i d g=>hpq (j+1) b i (by simpa using d) (by simpa using g));simp only[rT,h0];cases q y
  ·simpa using a
  ·simp[h.1,a]
theorem It.AM {P:Program}{r:Nat}{k:IntKind}{c:CK}{m:Option Nat}{l todo:List (Int×c.T)}{cur:Option (Int×c.T)}{w:World}(hit:It w.heap r k c m l todo cur)(ty:Nat) :
 (todo=[]/\∃w',(Instr.next (.pointer (some ⟨r,0,none⟩)) false ty).run P w=.ok (.tuple #[.bool false]) w'/\Xa w w'/\w'.heap=w.heap) ∨
 (∃n x w',(n,x)∈todo/\(Instr.next (.pointer (some ⟨r,0,none⟩)) false ty).run P w=.ok (.tuple #[.bool true,.int k n,c.v x]) w'/\Xa w w'/\Qg w.heap w'.heap r ∧
  It w'.heap r k c m l (todo.filter λy=>!(y.1==n)) (some (n,x))):=by
 cases m with
 | none=>
  obtain⟨rfl,rfl,rfl,s,q,y,hr⟩:=hit;exact .inl ⟨rfl,w,by simp[Instr.next,getObj,Sem.run,hr],.refl _,rfl⟩
 | some b=>
  obtain⟨es,clk,seen,hr,hb,he,hn,hp,hlt,htodo,hcur⟩:=hit;have hrlt:r<w.heap.size:=(zy.1 hr).1;have hrb:r≠b:=λe=>by rw[e,hb]at hr;cases hr
  have hchk:¬((!seen.isEmpty && !es.isEmpty&&es.all (·.born≥clk))=true):=by
   intro h;simp only[zE,lx,Array.all_eq_true',zS]at h;obtain⟨⟨_,h2⟩,h3⟩:=h;have h2':es ≠ #[]:=by simpa[wb]using h2
   obtain⟨e,hme⟩:=Array.exists_mem_of_ne_empty es h2';have:=h3 e hme;have:=hlt e (by simpa using hme);omega
  have hold:((es.filter λe=>!seen.contains e.born).filter (·.born<clk))=es.filter λe=>!seen.contains e.born:=by
   rw[Array.filter_eq_self];intro e hme;have:e∈es:=(Array.mem_filter.1 hme).1;simpa using hlt e (by simpa using this)
  have hnew:((es.filter λe=>!seen.contains e.born).filter (·.born≥clk)) = #[]:=by
   rw[Array.filter_eq_empty_iff];intro e hme;have:e∈es:=(Array.mem_filter.1 hme).1;have:=hlt e (by simpa using this);simp;omega
  have hlist:(es.filter λe=>!seen.contains e.born).toList=es.toList.filter λe=>!seen.contains e.born:=Array.toList_filter;have hrun:∀(cand:Array (Option MapEntry)),cand=(if(es.filter λe=>!seen.contains e.born).isEmpty then #[none]else #[])++(es.filter λe=>!seen.contains e.born).map some →
   (Instr.next (.pointer (some ⟨r,0,none⟩)) false ty).run P w=(do
    match cand[←choose (.mapNext cand.size)]? with
    | some (some e)=>do
     setObj r (.mapIter (some b) clk (seen.push e.born) clk)
     pure (.tuple #[.bool true,e.key,e.val])
    | some none=>pure (.tuple #[.bool false])
    | none=>stuck "Next: no such candidate" : Sem Value).run P w := by
   rintro cand rfl;simp only[Instr.next,getObj,Sem.run_bind,Sem.run,hr,Result.andThen_ok,hb,hchk,zp,hold,hnew,Array.append_empty,za,Sem.run_bind]
   try rfl
  cases htd:todo with
  | nil=>
   left;subst htd;have hnil:(es.filter λe=>!seen.contains e.born) = #[]:=by
    apply Array.ext';rw[hlist];have:=congrArg List.length htodo;simpa using this
   refine⟨rfl,w,?_,.refl _,rfl⟩;rw[hrun #[none] (by rw[hnil];simp)];simp[choose,Sem.run,Question.forced]
  | cons y ys=>
   right;have hlen:(es.filter λe=>!seen.contains e.born).size=todo.length:=by
    rw[←uS,hlist];simpa using congrArg List.length htodo
   have hne:(es.filter λe=>!seen.contains e.born).isEmpty=false:=by
    rw[htd]at hlen;simp only[zW]at hlen;cases hce:(es.filter λe=>!seen.contains e.born).isEmpty
    ·rfl
    ·rw[wb]at hce;rw[hce]at hlen;simp at hlen
   have key:∀(i:Nat),i<todo.length->∀w1:World,w1.heap=w.heap->Xa w w1->∃n x w',(n,x)∈todo ∧
    ((match ((es.filter λe=>!seen.contains e.born).map some)[i]? with
     | some (some e)=>do
      setObj r (.mapIter (some b) clk (seen.push e.born) clk)
      pure (.tuple #[.bool true,e.key,e.val])
     | some none=>pure (.tuple #[.bool false])
     | none=>stuck "Next: no such candidate" : Sem Value)).run P w1 = .ok (.tuple #[.bool true, .int k n, c.v x]) w' /\ Xa w w' /\ Qg w.heap w'.heap r ∧
    It w'.heap r k c (some b) l (todo.filter λy=>!(y.1==n)) (some (n,x)):=by
    intro i hi w1 hw1 io;have hi':i<(es.filter λe=>!seen.contains e.born).size:=by omega
    let e:=(es.filter λe=>!seen.contains e.born)[i]
    have hei:(es.filter λe=>!seen.contains e.born)[i]?=some e:=by simp[e,hi']
    have hti:(es.toList.filter λe=>!seen.contains e.born)[i]?=some e:=by rw[←hlist,wG];exact hei
    have hty:todo[i]?=some todo[i]:=by simp[hi]
    have hkv:(e.key,e.val)=(Value.int k todo[i].1,c.v todo[i].2):=by
     have:=congrArg (λl=>l[i]?) htodo;simp only[zd,hti,hty,zc,Option.some.injEq]at this;exact this
    simp only[Prod.mk.injEq]at hkv;have hmemF:e∈es.toList.filter λe=>!seen.contains e.born:=zG hti;have hme:e∈es.toList:=(zI.1 hmemF).1;have hns:seen.contains e.born=false:=by simpa using(zI.1 hmemF).2
    refine⟨todo[i].1,todo[i].2,{w1 with heap:=w1.heap.setIfInBounds r (.mapIter (some b) clk (seen.push e.born) clk)},j3 _,?_,?_,?_,?_⟩
    ·have hr1:w1.heap[r]?=some (.mapIter (some b) clk seen clk):=by rw[hw1];exact hr
     simp only[Array.getElem?_map,hei,zc,setObj,Sem.run_bind,Sem.run,hr1,Result.andThen_ok,Sem.run_pure,hkv.1,hkv.2]
    ·exact⟨io.1,io.2.1,io.2.2.1,by simp only[Array.size_setIfInBounds];exact io.2.2.2⟩
    ·rw[hw1];exact Ut _ _ _
    ·rw[hw1];refine⟨es,clk,seen.push e.born,by simp[hrlt],?_,he,hn,hp,hlt,?_,λx hx=>?_⟩
     ·rw[vP hrb];exact hb
     ·-- the rest
      have hinj:∀e'∈es.toList,(e'.born==e.born)=true->e'=e:=by
       intro e' h1 h2;have h2':e'.born=e.born:=by simpa using h2
       obtain⟨p,hp1,kc⟩:=sx h1;obtain⟨q,hq1,hq2⟩:=sx hme;have hpw:=lu.1 hp;rcases oF p q with h|h|h
       ·have:=hpw p q (by simpa using hp1) (by simpa using hq1) h;simp[kc,hq2,h2']at this
       ·subst h;rw[←kc,hq2]
       ·have:=hpw q p (by simpa using hq1) (by simpa using hp1) h;simp[kc,hq2,h2']at this
      have hf1:(es.toList.filter λe'=>!(seen.push e.born).contains e'.born)=(es.toList.filter λe'=>!seen.contains e'.born).filter λe'=>!(e'.born==e.born):=by
       rw[Ah];apply wN;intro e' _;simp[Array.contains_eq_mem,Array.mem_push];rw[Bool.and_comm]
       congr 1
      rw[hf1];refine AG _ _ _ _ htodo λj e' y h1 h2=>?_;have hm':e'∈es.toList:=(zI.1 (zG h1)).1;have hkv':(e'.key,e'.val)=(Value.int k y.1,c.v y.2):=by
       have:=congrArg (λl=>l[j]?) htodo;simp only[zd,h1,h2,zc,Option.some.injEq]at this;exact this
      simp only[Prod.mk.injEq]at hkv'
      congr 1
      rw[mq];constructor
      ·intro hb';have:=hinj e' hm' hb';subst this;have:=hkv'.1.symm.trans hkv.1;simp only[Value.int.injEq,rU]at this;simpa using this
      ·intro hy;have hy':y.1=todo[i].1:=by simpa using hy
       have hkk:e'.key=e.key:=by rw[hkv'.1,hkv.1,hy']
       obtain⟨p,hp1,kc⟩:=sx hm';obtain⟨q,hq1,hq2⟩:=sx hme;have hll:es.toList.length=l.length:=by simpa using congrArg List.length he
       have hk1:∀(p:Nat) (hp:p<es.toList.length),es.toList[p].key=.int k (l[p]' O).1:=by
        intro p hp;have:=congrArg (λl=>l[p]?) he;simp only[zd,cW hp,cW (show p<l.length by omega),zc,Option.some.injEq,Prod.mk.injEq]at this;exact this.1
       have e1:=hk1 p hp1;have e2:=hk1 q hq1;rw[kc]at e1;rw[hq2]at e2;rw[hkk,e2]at e1;simp only[Value.int.injEq,rU]at e1;have:p=q:=by
        have hnn:=lu.1 hn;rcases oF p q with h|h|h
        ·exact absurd (by rw[qO,qO];exact e1.symm) (hnn p q aE aE h)
        ·exact h
        ·exact absurd (by rw[qO,qO];exact e1) (hnn q p aE aE h)
       subst this;rw[←kc,←hq2];simp
     ·cases hx;refine⟨e,hme,by simp,hkv.1,hkv.2⟩
   have hsz:((if(es.filter λe=>!seen.contains e.born).isEmpty then #[none]else #[])++(es.filter λe=>!seen.contains e.born).map some:Array (Option MapEntry))=(es.filter λe=>!seen.contains e.born).map some:=by
    rw[hne];simp
   rw[←htd];rw[hrun _ hsz.symm];have hpos:0<todo.length:=by rw[htd];simp
   simp only[Sem.run_bind,choose,Sem.run,Array.size_map,hlen];cases hfo:(Question.mapNext todo.length).forced
   ·simp only[za,zp,Result.andThen_ok];exact key _ (by simp only[Question.cut];exact uG _ hpos) _ rfl ⟨rfl,rfl,rfl,zD _⟩
   ·simp only[zP,Result.andThen_ok];exact key 0 hpos w rfl (.refl _)
theorem It.NL {P:Program}{r:Nat}{k:IntKind}{c:CK}{m:Option Nat}{l todo:List (Int×c.T)}{n:Int}{x:c.T}{w:World}(hit:It w.heap r k c m l todo (some (n,x))) :
 (Instr.entry (.pointer (some ⟨r,0,none⟩))).run P w=.ok (.tuple #[.int k n,c.v x]) w:=by
 cases m with
 | none=>obtain⟨_,_,h,_⟩:=hit;cases h
 | some b=>
  obtain⟨A,E,z,H,G,L,K,D,F,u,i⟩:=hit;obtain⟨e,s,a,B,C⟩:=i _ rfl;have d:A.find? (·.born==e.born)=some e:=by
   rw[←Array.find?_toList,List.find?_eq_some_iff_getElem];obtain⟨p,g,kc⟩:=sx s;refine⟨by simp,p,g,kc,λj J=>?_⟩;have y:=lu.1 D j p (by simp;simp at g;omega) (by simpa using g) J;rw[qO,qO,kc]at y;rw[lx];cases hb2:(A.toList[j].born==e.born)
   ·rfl
   ·have:=zV.1 hb2;omega
  simp[Instr.entry,getObj,Sem.run,H,G,a,d,B,C]
def wD (k:IntKind)(c:CK)(o:Op)(ρ:Env)(h:Hp)(K:Value->Hp->Prop):Prop:=
 match o with
 | .next x false=>wv (ev ρ x) λv=>match v with
  | .pointer (some a)=>mV k c a h (K (.tuple #[.bool false]) h) λn y h'=>K (.tuple #[.bool true,.int k n,c.v y]) h'
  | _=>False
 | .entry x=>wv (ev ρ x) λv=>match v with
  | .pointer (some a)=>mT k c a h λn y=>K (.tuple #[.int k n,c.v y]) h
  | _=>False
 | _=>False
theorem It.spot {a:Addr}(h:a.off=0):∃s,a=⟨a.block,0,s⟩:=⟨a.spot,by cases a;simp at h;subst h;rfl⟩
theorem Bl {P:Program}{k:IntKind}{c:CK}{ρ:Env}{K:Value->Hp->Prop}{a:Act}{w:World}(hf:∀x v,ev ρ x=some v->a.eval x=v)(o:Oper)(hk:wD k c o.op ρ w.heap K):Qy P (execOp a.eval o) w K:=by
 obtain⟨B,op,u,pos,p,g⟩:=o;simp only at hk;unfold wD at hk;split at hk
 ·rename_i x;obtain⟨v,i,hk⟩:=Wq hk;simp only[execOp,hf _ _ i];split at hk
  case h_2=>exact hk.elim
  rename_i ad;obtain⟨r,m,l,e,C,d,A,z⟩:=hk;obtain⟨s,j⟩:=It.spot r;have b:∀w:World,(Instr.next (.pointer (some ad)) false u).run P w=(Instr.next (.pointer (some ⟨ad.block,0,none⟩)) false u).run P w:=by
   intro w;rw[j];rfl
  rcases d.AM (P:=P) u with⟨ht,w',hr,io,hh⟩|⟨n,y,w',hm,hr,io,ho,hi'⟩
  ·exact .inl ⟨.tuple #[.bool false],w',by simp[b,hr],io,by rw[hh];exact A ht⟩
  ·exact .inl ⟨.tuple #[.bool true,.int k n,c.v y],w',by simp[b,hr],io,z n y hm _ ho hi'⟩
 ·rename_i x;obtain⟨v,i,hk⟩:=Wq hk;simp only[execOp,hf _ _ i];split at hk
  case h_2=>exact hk.elim
  rename_i ad;obtain⟨r,m,l,e,n,y,d,D⟩:=hk;obtain⟨s,j⟩:=It.spot r;have b:(Instr.entry (.pointer (some ad))).run P w=(Instr.entry (.pointer (some ⟨ad.block,0,none⟩))).run P w:=by
   rw[j];rfl
  exact .inl ⟨.tuple #[.int k n,c.v y],w,by simp[b,d.NL (P:=P)],.refl _,D⟩
 ·exact hk.elim
structure Fits (N:Nat) (ρ:Env) (a:Act):Prop where
 defers:a.defers=[]
 size:a.tmps.size=N
 at_:∀i v,ρ i=some v->a.tmps[i]?=some v
theorem Fits.ev {N:Nat}{ρ:Env}{a:Act}(h:Fits N ρ a):∀x v,ev ρ x=some v->a.eval x=v:=by
 intro x v hx;cases x with
 | tmp t=>
  have:=h.at_ t v hx;simp[Act.eval,qx,this]
 | const u=>simp only[Vc.ev,Option.some.injEq]at hx;exact hx
 | global g=>simp only[Vc.ev,Option.some.injEq]at hx;exact hx
 | func f=>simp only[Vc.ev,Option.some.injEq]at hx;exact hx
def pC (N:Nat):Option Nat->Bool
 | some d=>Nat.blt d N
 | none=>true
theorem Fits.put {N:Nat}{ρ:Env}{a:Act}(h:Fits N ρ a){d:Option Nat}(hd:pC N d=true)(v:Value):Fits N (ρ.gV d v) (a.put d v):=by
 cases d with
 | none=>exact h
 | some d=>
  have g:d<N:=Nat.blt_eq.mp hd;refine⟨h.defers,by simp[Act.put,h.size],λi u b=>?_⟩;simp only[Env.gV,Env.put]at b;cases hi:Nat.beq i d
  ·rw[hi]at b;have j:i≠d:=λe=>by subst e;simp at hi
   simp only[Act.put];rw[vP (Ne.symm j)];exact h.at_ i u b
  ·rw[hi]at b;have e:i=d:=zo hi;subst e;simp only[cond_true,Option.some.injEq]at b;subst b;simp[Act.put,h.size,g]
theorem Fits.weaken {N:Nat}{ρ ρ':Env}{a:Act}(h:Fits N ρ a)(hw:∀i v,ρ' i=some v->ρ i=some v):Fits N ρ' a:=
 ⟨h.defers,h.size,λi v b=>h.at_ i v (hw i v b)⟩
theorem G4 (ρ:Env)(ds:List Nat):∀i v,ρ.dR ds i=some v->ρ i=some v:=by
 intro i v h;simp only[Env.dR]at h;cases hc:ds.contains i<;>rw[hc]at h<;>simp at h
 exact h
theorem Fits.lit {N:Nat}{ρ:Env}{a:Act}(h:Fits N ρ a){c:Nat}{b b':Bool}(hc:ρ c=some (.bool b))(e:b=b'):Fits N (ρ.put c (.bool b')) a:=by
 subst e;refine h.weaken λi v d=>?_;simp only[Env.put]at d;cases hi:Nat.beq i c
 ·rw[hi]at d;exact d
 ·rw[hi]at d;have e:i=c:=zo hi;subst e;rw[hc];exact d
def HB (ops:Array Oper)(o:Oper)(ρ:Env):Bool:=
 match o.guard with
 | none=>true
 | some (j,want)=>match (ops[j]?).bind (·.dst)with
  | some c=>match ρ c with
   | some (.bool b)=>b==want
   | _=>false
  | none=>false
def ru (ops:Array Oper)(o:Oper)(ρ:Env):Bool:=
 match o.guard with
 | none=>false
 | some (j,want)=>match (ops[j]?).bind (·.dst)with
  | some c=>match ρ c with
   | some (.bool b)=>!(b==want)
   | some (.tuple _)=>true
   | _=>false
  | none=>false
theorem Y6 {N:Nat}{ops:Array Oper}{o:Oper}{ρ:Env}{a:Act}(hf:Fits N ρ a)(h:HB ops o ρ=true):Region.wanted o (yielded ops a.tmps)=true:=by
 unfold HB at h;unfold Region.wanted;cases hg:o.guard with
 | none=>rfl
 | some jw=>
  obtain⟨j,d⟩:=jw;rw[hg]at h;simp only at h ⊢;cases hc:(ops[j]?).bind (·.dst)with
  | none=>rw[hc]at h;cases h
  | some c=>
   rw[hc]at h;simp only at h;split at h
   ·rename_i b hb;have:=hf.at_ c _ hb;simp only[yielded,hc,Option.bind_some,this];simpa using h
   ·cases h
theorem Kr {N:Nat}{ops:Array Oper}{o:Oper}{ρ:Env}{a:Act}(hf:Fits N ρ a)(h:ru ops o ρ=true):Region.wanted o (yielded ops a.tmps)=false:=by
 unfold ru at h;unfold Region.wanted;cases hg:o.guard with
 | none=>rw[hg]at h;cases h
 | some jw=>
  obtain⟨j,d⟩:=jw;rw[hg]at h;simp only at h ⊢;cases hc:(ops[j]?).bind (·.dst)with
  | none=>rw[hc]at h;cases h
  | some c=>
   rw[hc]at h;simp only at h;split at h
   ·rename_i b hb;have:=hf.at_ c _ hb;simp only[yielded,hc,Option.bind_some,this];simpa using h
   ·rename_i b hb;have:=hf.at_ c _ hb;simp only[yielded,hc,Option.bind_some,this];rfl
   ·cases h
def VY (N:Nat)(ops:Array Oper):List Oper->Env->Bool
 | [],_=>true
 | o::os,ρ=>ru ops o ρ&&(pC N o.dst&&VY N ops os (ρ.gV o.dst undef))
theorem Cs {P:Program}{N:Nat}{ops:Array Oper}{Q:Exit->Act->World->Prop}{tail:List Oper}{w:World}:∀{os:List Oper} {ρ:Env} {a:Act},VY N ops os ρ=true->Fits N ρ a →
 (∀a',Fits N (ρ.dR (os.filterMap (·.dst))) a'->wpList P ops Q tail a' w)->wpList P ops Q (os++tail) a w
 | [],ρ,a,_,hf,h=>h a (hf.weaken (G4 _ _))
 | o::os,ρ,a,hs,hf,h=>by
  simp only[VY,zE]at hs;obtain⟨h1,h2,h3⟩:=hs;have m:=Kr hf h1;simp only[kG,wpList,m];refine Cs h3 (hf.put h2 _) λa' g=>h a' (g.weaken λi v b=>?_);simp only[Env.dR]at b ⊢;cases hc:(List.filterMap (·.dst) (o::os)).contains i
  ·rw[hc]at b;simp only[cond_false]at b;have e:(List.filterMap (·.dst) os).contains i=false:=by
    cases hd:o.dst<;>simp_all
   have j:∀d,o.dst=some d->i≠d:=by
    intro d hd;simp_all
   rw[e];simp only[cond_false];cases hd:o.dst with
   | none=>exact b
   | some d=>
    have:=j d hd;simp only[Env.gV,Env.put];have:Nat.beq i d=false:=by
     cases hb:Nat.beq i d
     ·rfl
     ·exact absurd (zo hb) this
    rw[this];exact b
  ·rw[hc]at b;cases b
theorem BV {P:Program}{N:Nat}{ops:Array Oper}{Q:Act->Prop}{tail:List Oper}{w:World}:∀{os:List Oper} {ρ:Env} {a:Act},VY N ops os ρ=true->Fits N ρ a →
 (∀a',Fits N (ρ.dR (os.filterMap (·.dst))) a'->wpStill P ops w Q tail a')->wpStill P ops w Q (os++tail) a
 | [],ρ,a,_,hf,h=>h a (hf.weaken (G4 _ _))
 | o::os,ρ,a,hs,hf,h=>by
  simp only[VY,zE]at hs;obtain⟨h1,h2,h3⟩:=hs;have m:=Kr hf h1;simp only[kG,wpStill,m];refine BV h3 (hf.put h2 _) λa' g=>h a' (g.weaken λi v b=>?_);simp only[Env.dR]at b ⊢;cases hc:(List.filterMap (·.dst) (o::os)).contains i
  ·rw[hc]at b;simp only[cond_false]at b;have e:(List.filterMap (·.dst) os).contains i=false:=by
    cases hd:o.dst<;>simp_all
   have j:∀d,o.dst=some d->i≠d:=by
    intro d hd;simp_all
   rw[e];simp only[cond_false];cases hd:o.dst with
   | none=>exact b
   | some d=>
    have:=j d hd;simp only[Env.gV,Env.put];have:Nat.beq i d=false:=by
     cases hb:Nat.beq i d
     ·rfl
     ·exact absurd (zo hb) this
    rw[this];exact b
  ·rw[hc]at b;cases b
def bR (K:aO)(body:(Bool->Hp->Prop)->Prop):Prop:=∃J:Bool->Hp->Prop,(∀r h,J r h->K r h)/\body J
theorem bR.intro {K:aO}{body:(Bool->Hp->Prop)->Prop}(h:body K):bR K body:=⟨K,λ_ _ h=>h,h⟩
inductive RI where
 | op
 | it (k:IntKind) (c:CK)
 | cO (and:Bool) (n:Nat) (inner:List RI)
def xM (b:Bool):Operand->Bool
 | .const (.bool b')=>b'==b
 | _=>false
def VX (ρ:Env)(x:Operand)(K:Bool->Prop):Prop:=match ev ρ x with
 | some (.bool r)=>K r
 | _=>False
def qb (ρ:Env)(c:Nat)(b:Bool):Bool:=match ρ c with
 | some (.bool b')=>b'==b
 | _=>false
def eA (P:Program)(N:Nat)(ops:Array Oper):Nat->List RI->List Oper->Env->Hp->(Env->Hp->Prop)->Prop
 | 0,_,_,_,_,_=>False
 | _+1,[],[],ρ,h,K=>K ρ h
 | n+1,.op::hs,o::os,ρ,h,K=>fJ (HB ops o ρ&&pC N o.dst) (pX P o.op o.type ρ h λv h'=>eA P N ops n hs os (ρ.gV o.dst v) h' K)
 | n+1,.it ki c::hs,o::os,ρ,h,K=>fJ (HB ops o ρ&&pC N o.dst) (wD ki c o.op ρ h λv h'=>eA P N ops n hs os (ρ.gV o.dst v) h' K)
 | n+1,.cO and m inner::hs,os,ρ,h,K=>
  match os.drop m with
  | pk::rest=>match pk.op,pk.dst with
   | .pick (.tmp c) x y,some d=>match ρ c with
    | some (.bool b)=>fJ (Nat.blt d N&&(xM (!and) (bif and then y else x)&&(HB ops pk (ρ.dR ((os.take m).filterMap (·.dst)))&&(qb ((ρ.put c (.bool (!and))).dR ((os.take m).filterMap (·.dst))) c (!and)&&VY N ops (os.take m) (ρ.put c (.bool (!and)))))))
     (bR (λr h'=>eA P N ops n hs rest ((ρ.dR ((os.take m).filterMap (·.dst))).put d (.bool r)) h' K) λJ=>
      bif and then If b (eA P N ops n inner (os.take m) (ρ.put c (.bool true)) h λρ' h'=>fJ (HB ops pk ρ'&&qb ρ' c true) (VX ρ' x λr=>J r h')) (J false h)
      else If b (J true h) (eA P N ops n inner (os.take m) (ρ.put c (.bool false)) h λρ' h'=>fJ (HB ops pk ρ'&&qb ρ' c false) (VX ρ' y λr=>J r h')))
    | _=>False
   | _,_=>False
  | []=>False
 | _,_,_,_,_,_=>False
theorem V4 {P:Program}{ρ:Env}{K:Value->Hp->Prop}{a:Act}{w:World}(hf:∀x v,ev ρ x=some v->a.eval x=v)(o:Oper)(hk:pX P o.op o.type ρ w.heap K) :
 Qy P (execOp a.eval o) w K:=by
 unfold pX at hk;cases hq:rm o.op
 ·rw[hq]at hk;exact O9 hf o hk
 ·rw[hq]at hk;obtain⟨v,b,d⟩:=H5 hf o hk;exact .inl ⟨v,w,b,.refl _,d⟩
theorem Q2 {ρ:Env}{x:Operand}{K:Bool->Prop}(h:VX ρ x K):∃r,ev ρ x=some (.bool r)/\K r:=by
 unfold VX at h;split at h
 ·exact⟨_,by assumption,h⟩
 ·exact h.elim
theorem xy {b:Bool}{x:Operand}(h:xM b x=true)(ρ:Operand->Value)(hc:∀v,ρ (.const v)=v):ρ x=.bool b:=by
 unfold xM at h;split at h
 ·rw[hc];simp at h;rw[h]
 ·cases h
theorem Bb {P:Program}{a:Act}{w:World}{o:Oper}{c x y:Operand}{b r:Bool}{K:Value->Hp->Prop}(ho:o.op=.pick c x y)(hc:a.eval c=.bool b)(hr:a.eval (bif b then x else y)=.bool r)(hK:K (.bool r) w.heap) :
 Qy P (execOp a.eval o) w K:=by
 obtain⟨g,op,i,pos,e,d⟩:=o;simp only at ho;subst ho;refine .inl ⟨_,w,?_,.refl _,hK⟩;cases b<;>simp at hr<;>simp[execOp,hc,asBool,hr]
def Vi (os:List Oper)(ρ ρ':Env):Prop:=∀i,(os.filterMap (·.dst)).contains i=false->∀v,ρ i=some v->ρ' i=some v
theorem Vi.cons {o:Oper}{os:List Oper}{ρ ρ':Env}{v:Value}(h:Vi os (ρ.gV o.dst v) ρ'):Vi (o::os) ρ ρ':=by
 intro i hi u hu;cases hd:o.dst with
 | none=>rw[hd]at h;exact h i (by simpa[hd]using hi) u hu
 | some d=>
  rw[hd]at h;simp[hd]at hi;refine h i (by simpa using hi.2) u ?_;simp only[Env.gV,Env.put];have:Nat.beq i d=false:=by
   cases hb:Nat.beq i d
   ·rfl
   ·exact absurd (zo hb) hi.1
  rw[this];exact hu
theorem Vi.cO {os rest:List Oper}{pk:Oper}{m d:Nat}{ρ ρ':Env}{r:Bool}(hd:pk.dst=some d)(hdrop:os.drop m=pk::rest)(h:Vi rest ((ρ.dR ((os.take m).filterMap (·.dst))).put d (.bool r)) ρ'):Vi os ρ ρ':=by
 intro i hi u hu;rw[←mY m os,hdrop,tO,yl,hd]at hi;simp only[qg,zL,zX,decide_eq_false_iff_not,not_or]at hi;refine h i (by simpa using hi.2.2) u ?_;simp only[Env.put,Env.dR];have:Nat.beq i d=false:=by
  cases hb:Nat.beq i d
  ·rfl
  ·exact absurd (zo hb) hi.2.1
 rw[this];have a:((os.take m).filterMap (·.dst)).contains i=false:=by simpa using hi.1
 rw[a];exact hu
theorem Fits.tf {N:Nat}{os:List Oper}{ρ ρ':Env}{a:Act}{c:Nat}{b b':Bool}(h:Fits N ρ' a)(hc:ρ c=some (.bool b))(e:b=b')(k:Vi os (ρ.put c (.bool b')) ρ'):Fits N (ρ.dR (os.filterMap (·.dst))) a:=by
 refine h.weaken λi v d=>?_;simp only[Env.dR]at d;cases hci:(os.filterMap (·.dst)).contains i
 ·rw[hci]at d;refine k i hci v ?_;simp only[Env.put];cases hb:Nat.beq i c
  ·exact d
  ·have e2:i=c:=zo hb;subst e2;simp only[cond_false]at d;rw[hc]at d;simp only[cond_true];rw[←e];exact d
 ·rw[hci]at d;cases d
theorem V5 {ρ:Env}{c:Nat}{b:Bool}(h:qb ρ c b=true):ρ c=some (.bool b):=by
 unfold qb at h;split at h
 ·rename_i b' hb;simp at h;rw[hb,h]
 ·cases h
theorem Q6 {P:Program}{N:Nat}{ops:Array Oper}{Q:Exit->Act->World->Prop}:∀(n:Nat) {hs:List RI} {os:List Oper} {tail:List Oper} {ρ:Env} {a:Act} {w:World} {K:Env->Hp->Prop},
 eA P N ops n hs os ρ w.heap K->Fits N ρ a->(∀ρ' a' w',Fits N ρ' a'->Xa w w'->Vi os ρ ρ'->K ρ' w'.heap->wpList P ops Q tail a' w')->wpList P ops Q (os++tail) a w
 | 0,_,_,_,_,_,_,_,h,_,_=>(by simp only[eA]at h)
 | n+1,[],[],tail,ρ,a,w,K,h,hf,hK=>by
  simp only[eA]at h;exact hK ρ a w hf (.refl _) (λ_ _ _ h=>h) h
 | n+1,[],o::os,tail,ρ,a,w,K,h,hf,hK=>(by simp only[eA]at h)
 | n+1,.op::hs,[],tail,ρ,a,w,K,h,hf,hK=>(by simp only[eA]at h)
 | n+1,.op::hs,o::os,tail,ρ,a,w,K,h,hf,hK=>by
  simp only[eA]at h;rw[Wu]at h;obtain⟨hc,h⟩:=h;simp only[zE]at hc;have S:=Y6 hf hc.1;simp only[kG,wpList,S,zP];refine .inl (Qy.upon (V4 hf.ev o h) λv w' D s=>?_);exact Q6 n s (hf.put hc.2 v) λρ' a' A g u E j=>hK ρ' a' A g (D.trans u) E.cons j
 | n+1,.it ki c::hs,[],tail,ρ,a,w,K,h,hf,hK=>(by simp only[eA]at h)
 | n+1,.it ki c::hs,o::os,tail,ρ,a,w,K,h,hf,hK=>by
  simp only[eA]at h;rw[Wu]at h;obtain⟨hc,h⟩:=h;simp only[zE]at hc;have S:=Y6 hf hc.1;simp only[kG,wpList,S,zP];refine .inl (Qy.upon (Bl hf.ev o h) λv w' D s=>?_);exact Q6 n s (hf.put hc.2 v) λρ' a' A g u E j=>hK ρ' a' A g (D.trans u) E.cons j
 | n+1,.cO and m inner::hs,os,tail,ρ,a,w,K,h,hf,hK=>by
  simp only[eA]at h;split at h
  case h_2=>exact h.elim
  rename_i pk rest hdrop;split at h
  case h_2=>exact h.elim
  rename_i c x y d hop hd;split at h
  case h_2=>exact h.elim
  rename_i b hb;rw[Wu]at h;obtain⟨hc,J,hJ,h⟩:=h;simp only[zE]at hc;obtain⟨R,L,W,X,F⟩:=hc;have ad:pC N pk.dst=true:=by rw[hd];exact R
  have Z:os++tail=os.take m++(pk::rest++tail):=by
   rw[←hdrop,←jW,mY]
  rw[Z];have p:∀(r b':Bool) (z:Operand) a' w',b=b'->(bif b' then x else y)=z->Fits N (ρ.dR ((os.take m).filterMap (·.dst))) a'->Xa w w'->J r w'.heap->Region.wanted pk (yielded ops a'.tmps)=true →
   a'.eval (.tmp c)=.bool b'->a'.eval z=.bool r->wpList P ops Q (pk::rest++tail) a' w':=by
   intro r b' z a' w' e ez g D M S C hez;simp only[kG,wpList,S,zP];refine .inl (Qy.upon (K:=λv Y=>v=.bool r/\Y=w'.heap) (Bb hop C (by rw[ez];exact hez) ⟨rfl,rfl⟩) λv A u s=>?_);obtain⟨rfl,hh⟩:=s;have aa:=g.put (d:=some d) R (.bool r);rw[hd];have G:=hJ _ _ M;rw[←hh]at G;exact Q6 n G aa λρ' ab w3 U V E j=>hK ρ' ab w3 U ((D.trans u).trans V) (Vi.cO hd hdrop E) j
  have run:∀(b':Bool) (z:Operand),b=b'->(bif b' then x else y)=z →
   eA P N ops n inner (os.take m) (ρ.put c (.bool b')) w.heap (λρ' Y=>fJ (HB ops pk ρ'&&qb ρ' c b') (VX ρ' z λr=>J r Y))->wpList P ops Q (os.take m++(pk::rest++tail)) a w:=by
   intro b' z e ez hseg;refine Q6 n hseg (hf.lit hb e) λρ' a' w' g D E s=>?_;rw[Wu]at s;simp only[zE]at s;obtain⟨⟨hg,ac⟩,s⟩:=s;obtain⟨r,hr,M⟩:=Q2 s;exact p r b' z a' w' e ez (g.tf hb e E) D M (Y6 g hg) (g.ev _ _ (V5 ac)) (g.ev _ _ hr)
  have B:∀(b':Bool),b=b'->b' = !and->J (!and) w.heap->wpList P ops Q (os.take m++(pk::rest++tail)) a w:=by
   intro b' e eb M;subst eb;refine Cs F (hf.lit hb e) λa' g=>?_;have H:Fits N (ρ.dR ((os.take m).filterMap (·.dst))) a':=g.tf (ρ':=(ρ.put c (.bool (!and))).dR ((os.take m).filterMap (·.dst))) hb e (λi hi v hv=>by simp only[Env.dR,hi];exact hv);have C:=g.ev (.tmp c) _ (V5 X);refine p (!and) (!and) (bif (!and)then x else y) a' w e rfl H (.refl _) M (Y6 H W) C ?_;refine xy ?_ _ (λv=>rfl);cases and<;>exact L
  cases and
  ·simp only[cond_false]at h;cases b
   ·exact run false y rfl rfl (h.f rfl)
   ·exact B true rfl rfl (h.t rfl)
  ·simp only[cond_true]at h;cases b
   ·exact B false rfl rfl (h.f rfl)
   ·exact run true x rfl rfl (h.t rfl)
variable {P:Program}{ops:Array Oper}{Q:Exit->Act->World->Prop}
def tv (ops:Array Oper)(k i:Nat):Bool:=match ops[k]? with
 | none=>false
 | some o=>o.after.toList.any λe=>Region.binds .any e&&Nat.beq e.on i
def TS (S:World->Prop)(C:List Nat)(listed:Array Bool)(w:World):Prop:=S w\/∃k∈C,listed.getD k false=true
def anyS (P:Program)(ops:Array Oper)(Q:Exit->Act->World->Prop)(S:World->Prop)(C:List Nat):Nat->Array Bool->Act->World->Prop
 | 0,listed,a,w=>Region.ready .any ops listed=[]/\Q .normal a w
 | m+1,listed,a,w=>(Region.ready .any ops listed=[]->Q .normal a w) ∧
  ∀i,i∈Region.ready .any ops listed->wpOp P ops Q i (λa' w'=>TS S C (listed.setIfInBounds i true) w'/\anyS P ops Q S C m (listed.setIfInBounds i true) a' w') a w
theorem Vx {S:World->Prop}{C:List Nat}:∀(m:Nat) (listed:Array Bool) (a:Act) (w:World),anyS P ops Q S C m listed a w->wpAny P .any ops Q m listed a w
 | 0,_,_,_,h=>h
 | m+1,_,_,_,h=>⟨h.1,λi hi=>wpOp_mono (λ_ _ h'=>Vx m _ _ _ h'.2) (h.2 i hi)⟩
theorem TS.out {S:World->Prop}{C:List Nat}{listed:Array Bool}{w:World}(h:TS S C listed w)(hn:∀k∈C,listed.getD k false=false):S w:=by
 rcases h with h|⟨k,hk,hl⟩
 ·exact h
 ·rw[hn k hk]at hl;cases hl
theorem JO {k i:Nat}{o:Oper}(ho:ops[k]?=some o)(hno:∀e∈o.after,Region.binds .any e=true->e.on≠i):tv ops k i=false:=by
 unfold tv;rw[ho];simp only;rw[lN];intro e he hb;simp only[zE]at hb;exact hno e (by simpa using he) hb.1 (zo hb.2)
theorem TS.drop {S:World->Prop}{C:List Nat}{listed:Array Bool}{w:World}{i j:Nat}(hij:i≠j)(hi:∀k∈C,k≠i)(h:TS S C ((listed.setIfInBounds i true).setIfInBounds j true) w):TS S C (listed.setIfInBounds j true) w:=by
 refine h.imp id ?_;rintro⟨k,hk,hl⟩;refine⟨k,hk,?_⟩;rw[Array.setIfInBounds_comm _ _ hij,getD_set_ne false (Ne.symm (hi k hk))]at hl;exact hl
theorem Ma {S T:World->Prop}{C:List Nat}{i:Nat}{oi:Oper}{v:Value}(hi:ops[i]?=some oi)(hsel:∀(j:Nat) (o:Oper) cs b,ops[j]?=some o->o.op≠.select cs b)
 (hQ:∀c a w,Q (.panic c) (a.put oi.dst v) w->Q (.panic c) a w) (hiC:∀k∈C,k≠i) (hT:(∀w,T w)\/((∀w,S w->T w)/\∀k∈C,tv ops k i=true)) :
 ∀(m:Nat) (listed:Array Bool) (a:Act) (w:World),
  (∀j oj,ops[j]?=some oj->j≠i->listed.getD j true=false->(∀e∈oj.after,Region.binds .any e=true->e.on≠i)->oi.apart ops oj=true) →
  i∈Region.ready .any ops listed->((∀w,T w)\/∀k∈C,listed.getD k false=false)->YieldsIf P ops T oi v a->TS S C listed w →
  anyS P ops Q S C m (listed.setIfInBounds i true) (a.put oi.dst v) w->anyS P ops Q S C (m+1) listed a w:=by
 have s:∀{listed:Array Bool} {a:Act} {w:World} {K:Act->World->Prop},((∀w,T w)\/∀k∈C,listed.getD k false=false)->YieldsIf P ops T oi v a->TS S C listed w->K (a.put oi.dst v) w →
  wpOp P ops Q i (λE B=>TS S C (listed.setIfInBounds i true) B/\K E B) a w:=by
  intro listed a w K g hy hS hK;refine hy.wpOp hi ?_ ⟨?_,hK⟩
  ·rcases hT with hT|⟨hT,_⟩
   ·exact hT w
   ·rcases g with g|g
    ·exact g w
    ·exact hT w (hS.out g)
  ·refine hS.imp id ?_;rintro⟨k,u,hl⟩;exact⟨k,u,by rw[getD_set_ne false (Ne.symm (hiC k u))];exact hl⟩
 intro m
 induction m with
 | zero=>
  intro listed a w _ hr g hy hS H;refine⟨λh=>by rw[h]at hr;simp at hr,λj D=>?_⟩;by_cases hji:j=i
  ·rw[hji];exact s g hy hS H
  ·have p:=ready_mono D hji;rw[H.1]at p;simp at p
 | succ m ih=>
  intro listed a w hfree hr g hy hS H;refine⟨λh=>by rw[h]at hr;simp at hr,λj D=>?_⟩;by_cases hji:j=i
  ·rw[hji];exact s g hy hS H
  ·obtain⟨y,oj,r,A⟩:=mem_ready.1 D;have d:=(mem_ready.1 hr).1;have z:∀e∈oj.after,Region.binds .any e=true->e.on≠i:=by
    intro e he hb heq;have p:=A e he hb;rw[heq]at p;rw[qx]at p d;cases hg:listed[i]? with
    | none=>rw[hg]at p;cases p
    | some b=>rw[hg]at p d;simp only[oB]at p d;rw[d]at p;cases p
   have M:=wpOp_putIf r (hfree j oj r hji y z) (λcs b=>hsel i oi cs b hi) (λcs b=>hsel j oj cs b r) hQ hy (H.2 j (ready_mono D hji));refine wpOp_mono (λE B J=>?_) M;have x:=J.2.1.drop (Ne.symm hji) hiC;refine⟨x,ih _ E B (λk ok u G F L=>?_) (ready_mono hr (Ne.symm hji)) ?_ J.1 x ?_⟩
   ·refine hfree k ok u G ?_ L;by_cases hjk:j=k
    ·rw[←hjk];exact y
    ·rwa [getD_set_ne true hjk]at F
   ·rcases hT with hT|⟨_,hw⟩
    ·exact .inl hT
    refine g.imp id λg k u=>?_;by_cases hjk:j=k
    ·exfalso;have:=hw k u;rw[←hjk,JO r z]at this;cases this
    ·rw[getD_set_ne false hjk];exact g k u
   ·rw[Array.setIfInBounds_comm _ _ hji];exact J.2.2
theorem Gh {S T:World->Prop}{C:List Nat}{i m:Nat}{oi:Oper}{v:Value}{listed:Array Bool}{a:Act}{w:World}(hi:ops[i]?=some oi)(hs:Region.noSelect ops=true)(hf:Region.free .any ops listed i=true)
 (hr:i∈Region.ready .any ops listed) (hQ:∀c a w,Q (.panic c) (a.put oi.dst v) w->Q (.panic c) a w) (hiC:C.contains i=false)
 (hT:(∀w,T w)\/((∀w,S w->T w)/\∀k∈C,tv ops k i=true)) (hn:(∀w,T w)\/∀k∈C,listed.getD k false=false) (hy:YieldsIf P ops T oi v a) (hS:TS S C listed w)
 (h:anyS P ops Q S C m (listed.setIfInBounds i true) (a.put oi.dst v) w):anyS P ops Q S C (m+1) listed a w:=
 Ma hi (Region.noSelect_spec hs) hQ (λk b e=>by subst e;rw[wh.2 b]at hiC;cases hiC) hT m listed a w (Region.free_spec hi hf) hr hn hy hS h
theorem O5 {S:World->Prop}{C:List Nat}{rs:List Nat}{m:Nat}{listed:Array Bool}{a:Act}{w:World}(hr:Region.ready .any ops listed=rs)(hne:rs≠[])
 (h:∀i∈rs,wpOp P ops Q i (λa' w'=>TS S C (listed.setIfInBounds i true) w'/\anyS P ops Q S C m (listed.setIfInBounds i true) a' w') a w):anyS P ops Q S C (m+1) listed a w:=
 ⟨λb=>absurd (hr▸b) hne,hr▸h⟩
theorem Jz {S:World->Prop}{C:List Nat}{listed:Array Bool}{a:Act}{w:World}(hr:Region.ready .any ops listed=[])(h:Q .normal a w):∀m,anyS P ops Q S C m listed a w
 | 0=>⟨hr,h⟩
 | _+1=>⟨λ_=>h,by rw[hr];simp⟩
theorem Ue {S:World->Prop}{C:List Nat}{id:Nat}{a:Act}{w:World}(hm:P.follows .mixedOrders=true)
 (h:anyS P ops Q S C ops.size (Array.replicate ops.size false) a {w with drawn:=w.drawn+1}):(Code.region id ops true).wp P Q a w:=
 wp_region_any hm (Vx _ _ _ _ h)
end Go.Vc
namespace Go.Vc
open Go
def Hm (P:Program):Op->Bool
 | .load _ _=>false
 | .lookup .. => false
 | .typeAssert .. => false
 | .convert s _ _=>match P.underlying s with
  | some (.slice _)=>false
  | _=>true
 | .call c=>match c.callee,c.argTypes.toList with
  | .builtin .len,[t]=>match P.underlying t with
   | some (.map _ _)=>false
   | some _=>true
   | none=>false
  | .builtin .cap,_=>true
  | .builtin .max,_=>true
  | .builtin .min,_=>true
  | _,_=>false
 | o=>rm o
theorem Af {op:BinOp}{k:IntKind}{x y:Int}{K:Value->Prop}(h:oz op k x y K):∃v,K v/\oz op k x y (· = v):=by
 cases op<;>simp only[oz,Ar,Nz,Nn]at h ⊢
 all_goals first
  | exact⟨_,h,rfl⟩
  | exact⟨_,h.2,h.1,rfl⟩
theorem UR {op:BinOp}{b:Bool}{K:Value->Prop}(h:mb op b K):∃v,K v/\mb op b (· = v):=by
 cases op<;>simp only[mb]at h ⊢ <;> first|exact h.elim|exact⟨_,h,rfl⟩
theorem OZ {P:Program}{op:BinOp}{t:Nat}{x y:Value}{K:Value->Prop}(h:lb P op t x y K):∃v,K v/\lb P op t x y (· = v):=by
 unfold lb at h ⊢;split at h
 ·obtain⟨v,a,b⟩:=UR h;exact⟨v,a,by simp only[*]⟩
 ·obtain⟨v,a,b⟩:=UR h;exact⟨v,a,by simp only[*]⟩
 ·obtain⟨v,a,b⟩:=UR h;exact⟨v,a,by simp only[*]⟩
 ·obtain⟨d,h⟩:=h;obtain⟨v,a,b⟩:=UR h;exact⟨v,a,by simp only[*];trivial⟩
 ·exact h.elim
theorem Oe {P:Program}{op:BinOp}{t:Nat}{x y:Value}{K:Value->Prop}(h:k8 P op t x y K):∃v,K v/\k8 P op t x y (· = v):=by
 unfold k8 at h ⊢;split at h
 ·split at h
  ·obtain⟨v,a,b⟩:=Af h;exact⟨v,a,by simpa[*]using b⟩
  ·rename_i hne;cases op<;>simp only at h
   all_goals try exact h.elim
   ·obtain⟨v,a,b⟩:=Af h;exact⟨v,a,by simpa[hne]using b⟩
   ·obtain⟨v,a,b⟩:=Af h;exact⟨v,a,by simpa[hne]using b⟩
 ·split at h
  ·obtain⟨v,a,b⟩:=UR h;exact⟨v,a,by simp only[*]⟩
  ·exact h.elim
 ·cases op<;>simp only at h ⊢ <;> first|exact h.elim|exact⟨_,h,rfl⟩
 ·exact h.elim
theorem EH {P:Program}{op:BinOp}{t:Nat}{xs ys:List Value}{K:Value->Prop}(h:mD P op t xs ys K):∃v,K v/\mD P op t xs ys (· = v):=by
 unfold mD at h ⊢;split at h
 case h_3=>exact h.elim
 all_goals
  rename_i hu;rw[Wu]at h;obtain⟨d,h⟩:=h;split at h
  case h_2=>exact h.elim
  rename_i b hb;obtain⟨v,a,e⟩:=UR h;exact⟨v,a,by simp only[hu,Wu,hb];exact⟨d,e⟩⟩
theorem JS {P:Program}{op:BinOp}{t:Nat}{y:Operand}{vx vy:Value}{K:Value->Prop}(h:uO P op t y vx vy K):∃v,K v/\uO P op t y vx vy (· = v):=by
 unfold uO at h ⊢;cases hn:tu y
 ·rw[hn]at h;simp only[cond_false]at h ⊢;split at h
  ·exact EH h
  ·exact Oe h
 ·rw[hn]at h;exact OZ h
theorem sO {o:Option Value}{K:Value->Prop}(h:wv o K):∃v,K v/\wv o (· = v):=by
 obtain⟨v,rfl,a⟩:=Wq h;exact⟨v,a,rfl⟩
theorem FK {P:Program}{t off:Nat}{cs:List Value}{K:Value->Prop}(h:sY P t cs off K):∃v,K v/\sY P t cs off (· = v):=by
 unfold sY at h ⊢;split at h
 case h_2=>exact h.elim
 rename_i d ti hu hi;cases hd:VO d
 ·rw[hd]at h;obtain⟨v,a,b⟩:=sO h;exact⟨v,a,by simpa[hd]using b⟩
 ·rw[hd]at h;exact⟨_,h,by simp⟩
theorem Jk {P:Program}{t:Nat}{ps:List (Nat×Value)}{K:Value->Prop}(h:mJ P t ps K):∃v,K v/\mJ P t ps (· = v):=by
 unfold mJ at h ⊢;split at h
 ·split at h
  ·rename_i z hz;have key:∀{ps:List (Nat×Value)} {raw:Nat->Bool} {A:Prop},kP raw ps A->A/\∀B:Prop,B->kP raw ps B:=by
    intro ps raw
    induction ps with
    | nil=>intro A h;exact⟨h,λB b=>b⟩
    | cons x ps ih=>
     intro A h;simp only[kP]at h ⊢;cases hr:raw x.1
     ·rw[hr]at h;exact ih h
     ·rw[hr]at h;simp only[cond_true]at h ⊢;exact⟨(ih h.2).1,λB b=>⟨h.1,(ih h.2).2 B b⟩⟩
   obtain⟨h,a⟩:=key h;split at h
   ·rename_i cs hf;rw[Wu]at h;refine⟨_,h.2,?_⟩;simp only[*];refine a _ ?_;rw[Wu]
    first|exact⟨h.1,trivial⟩|exact⟨rfl,trivial⟩
   ·exact h.elim
  ·exact h.elim
 ·split at h
  ·split at h
   ·refine⟨_,h,?_⟩;simp only[*]
   ·exact h.elim
  ·exact h.elim
 ·exact h.elim
theorem Nh {P:Program}{t:Nat}{x:Value}{lo hi mx:Option Value}{K:Value->Prop}(h:mN P t x lo hi mx K):∃v,K v/\mN P t x lo hi mx (· = v):=by
 unfold mN at h ⊢;split at h
 case h_2=>exact h.elim
 rename_i e a n c hu;split at h
 case h_2=>exact h.elim
 rename_i ti hi';simp only at h ⊢;split at h
 case h_2=>exact h.elim
 rename_i l hh m hlo hhi hmx;obtain⟨g,d,i,b,j⟩:=h;refine⟨_,j,?_⟩;simp only[hu,hi',hlo,hhi,hmx];exact⟨g,d,i,b,rfl⟩
theorem y9:∀{vs:List Value} {v:Value} {b:Bool} {K:Value->Prop},ni b v vs K->∃z,K z/\ni b v vs (· = z)
 | [],v,b,K,h=>⟨v,by simpa[ni]using h,by simp[ni]⟩
 | u::vs,v,b,K,h=>by
  cases v<;>cases u<;>simp only[ni]at h ⊢ <;> try exact h.elim
  exact y9 h
theorem L7 {P:Program}{o:Op}(hp:Hm P o=true){ρ:Env}{h:Hp}{K:Value->Prop}(hk:qK P o ρ h K):∃v,K v/\∀h',qK P o ρ h' (· = v):=by
 unfold qK at hk;split at hk
 case h_1 x=>obtain⟨v,a,e⟩:=sO hk;exact⟨v,a,λ_=>e⟩
 case h_2 x=>obtain⟨v,a,e⟩:=sO hk;exact⟨v,a,λ_=>e⟩
 case h_3 c x y=>
  obtain⟨v,A,hk⟩:=Wq hk;split at hk
  ·obtain⟨u,a,e⟩:=sO hk;exact⟨u,a,λ_=>by simpa only[qK,A,wv]using e⟩
  ·obtain⟨u,a,e⟩:=sO hk;exact⟨u,a,λ_=>by simpa only[qK,A,wv]using e⟩
  ·exact hk.elim
 case h_4=>simp[Hm]at hp
 case h_5 x=>
  obtain⟨v,A,hk⟩:=Wq hk;split at hk
  ·obtain⟨D,rfl,z⟩:=hk;exact⟨_,z,λ_=>by simp only[qK,A,wv];exact⟨D,rfl,rfl⟩⟩
  ·exact⟨_,hk,λ_=>by simp only[qK,A,wv]⟩
  ·exact hk.elim
 case h_6 op t x y yt=>
  obtain⟨j,g,hk⟩:=Wq hk;obtain⟨N,G,E⟩:=Wq hk;obtain⟨v,a,e⟩:=JS E;exact⟨v,a,λ_=>by simpa only[qK,g,G,wv]using e⟩
 case h_7 op t x=>
  obtain⟨j,g,hk⟩:=Wq hk;split at hk
  ·exact⟨_,hk,λ_=>by simp only[qK,g,wv]⟩
  ·exact⟨_,hk,λ_=>by simp only[qK,g,wv,Ar]⟩
  ·exact hk.elim
 case h_8 s d x=>
  obtain⟨j,g,hk⟩:=Wq hk;split at hk
  ·rename_i a e;exact⟨_,hk,λ_=>by simp only[qK,g,wv,a,e,Ar]⟩
  ·rename_i a e;exact⟨_,hk,λ_=>by simp only[qK,g,wv,a,e]⟩
  ·rename_i a e;simp[Hm,a]at hp
  ·exact hk.elim
 case h_9 s x f=>
  obtain⟨j,g,hk⟩:=Wq hk;obtain⟨M,F,C,w,hk⟩:=HP hk;split at hk
  ·rw[Wu]at hk;exact⟨_,hk.2,λ_=>by simp only[qK,g,wv,mG,C,w,Wu];exact⟨hk.1,trivial⟩⟩
  ·exact hk.elim
 case h_10 s x f=>
  obtain⟨j,g,hk⟩:=Wq hk;obtain⟨M,F,C,w,hk⟩:=HP hk;split at hk
  ·obtain⟨v,a,e⟩:=FK hk;exact⟨v,a,λ_=>by simpa only[qK,g,wv,mG,C,w]using e⟩
  ·exact hk.elim
 case h_11 t x i=>
  obtain⟨j,g,hk⟩:=Wq hk;obtain⟨J,B,hk⟩:=Wq hk;split at hk
  ·have r:=(by assumption:P.underlying t=some _);rw[Wu]at hk;obtain⟨a,D,rfl,e,p,z⟩:=hk;exact⟨_,z,λ_=>by simp only[qK,g,B,wv,r,Wu];exact⟨a,D,rfl,e,p,rfl⟩⟩
  ·have r:=(by assumption:P.underlying t=some _);rw[Wu]at hk;obtain⟨a,e,p,z⟩:=hk;exact⟨_,z,λ_=>by simp only[qK,g,B,wv,r,Wu];exact⟨a,e,p,rfl⟩⟩
  ·exact hk.elim
 case h_12 t x i=>
  obtain⟨j,g,hk⟩:=Wq hk;obtain⟨J,B,hk⟩:=Wq hk;split at hk
  ·have r:=(by assumption:P.underlying t=some _);obtain⟨b,a,e,z⟩:=hk;exact⟨_,z,λ_=>by simp only[qK,g,B,wv,r];exact⟨b,a,e,rfl⟩⟩
  ·exact hk.elim
 case h_13=>simp[Hm]at hp
 case h_14 t i=>
  obtain⟨j,g,hk⟩:=Wq hk;split at hk
  ·obtain⟨v,a,e⟩:=sO hk;exact⟨v,a,λ_=>by simpa only[qK,g,wv]using e⟩
  ·exact hk.elim
 case h_15 fn x y=>
  split at hk
  ·rename_i va vb a e;exact⟨_,hk,λ_=>by simp only[qK,a,e]⟩
  ·exact hk.elim
 case h_16 t ps=>
  split at hk
  ·rename_i vs a;obtain⟨v,e,p⟩:=Jk hk;exact⟨v,e,λ_=>by simpa only[qK,a]using p⟩
  ·exact hk.elim
 case h_17 t x lo B mx=>
  obtain⟨j,g,hk⟩:=Wq hk;split at hk
  ·rename_i l h m a e p;obtain⟨v,L,H⟩:=Nh hk;exact⟨v,L,λ_=>by simpa only[qK,g,wv,a,e,p]using H⟩
  ·exact hk.elim
 case h_18 t x=>
  obtain⟨j,g,hk⟩:=Wq hk;rw[Wu]at hk;exact⟨_,hk.2,λ_=>by simp only[qK,g,wv,Wu];exact⟨hk.1,trivial⟩⟩
 case h_19=>simp[Hm]at hp
 case h_20 c=>
  split at hk
  ·rename_i x t hc ha ht;unfold kS at hk;split at hk
   ·exact⟨_,hk,λ_=>by simp only[qK,hc,ha,ht,kS, *]⟩
   ·exact⟨_,hk,λ_=>by simp only[qK,hc,ha,ht,kS, *]⟩
   ·exact⟨_,hk,λ_=>by simp only[qK,hc,ha,ht,kS, *]⟩
   ·rename_i r;simp only[Hm,hc,ht,r]at hp;cases hp
   ·exact hk.elim
  ·rename_i hc ha ht;split at hk
   ·exact⟨_,hk,λ_=>by simp only[qK,hc,ha,ht, *]⟩
   ·exact hk.elim
  ·rename_i hc ha;obtain⟨v,a,e⟩:=y9 hk;exact⟨v,a,λ_=>by simpa only[qK,hc,ha]using e⟩
  ·rename_i hc ha;obtain⟨v,a,e⟩:=y9 hk;exact⟨v,a,λ_=>by simpa only[qK,hc,ha]using e⟩
  ·exact hk.elim
 ·exact hk.elim
def fV (S:aP)(c:CK)(a:Addr)(K:c.T->Prop):Prop:=∃x,(∀h,S h->cell h a=some (c.v x))/\K x
def rr (S:aP):List CK->Addr->Nat->(List Value->Prop)->Prop
 | [],_,_,K=>K []
 | c::cs,a,i,K=>fV S c (a.add i) λx=>rr S cs a (i+1) λvs=>K (c.v x::vs)
def NU (S:aP)(k:IntKind)(c:CK)(m:Option Nat)(n:Int)(K:Option c.T->Prop):Prop:=∃l,(∀h,S h->iU h m k c l)/\K (bY l n)
def Fi (S:aP)(k:IntKind)(c:CK)(m:Option Nat)(K:Int->Prop):Prop:=∃l,(∀h,S h->iU h m k c l)/\K (l.length:Int)
def qS (P:Program)(S:aP)(o:Op)(ρ:Env)(K:Value->Prop):Prop:=
 match o with
 | .load t a=>wv (ev ρ a) λv=>match v,jF P t with
  | .pointer (some a),some (.one c)=>fJ (P.info? t).isSome (fV S c a λx=>K (c.v x))
  | .pointer (some a),some (.agg cs)=>fJ (P.cellsOf t==cs.length) (fJ (P.info? t).isSome (rr S cs a 0 λvs=>K (.agg vs.toArray)))
  | _,_=>False
 | .lookup t x i ok=>wv (ev ρ x) λvx=>wv (ev ρ i) λvi=>match P.underlying t,vx,vi with
  | some (.map kt et),.map m,.int k n=>match P.underlying kt,nF P et,P.info? et with
   | some (.int k'),some (.one c),some ti=>match ti.zero with
    | some z=>if k=k' then mg c z λz=>NU S k c m n λo=>K (bif ok then .tuple #[c.v (o.getD z),.bool o.isSome]else c.v (o.getD z))else False
    | none=>False
   | _,_,_=>False
  | _,_,_=>False
 | .call c=>match c.callee,oJ ρ c.args.toList,c.argTypes.toList with
  | .builtin .len,some [.map m],[t]=>qu P t λk c=>Fi S k c m λz=>K (.int .i64 z)
  | _,_,_=>False
 | _=>False
theorem AS {S:aP}:∀{cs:List CK} {a:Addr} {i:Nat} {K:List Value->Prop},rr S cs a i K->∃vs,K vs/\∀h,S h->mS cs a i h (· = vs)
 | [],a,i,K,hk=>⟨[],hk,λh _=>rfl⟩
 | c::cs,a,i,K,⟨x,hx,hk⟩=>by
  obtain⟨vs,hK,hall⟩:=AS hk;refine⟨c.v x::vs,hK,λh b=>?_⟩;have m:mS cs a (i+1) h λus=>c.v x::us=c.v x::vs:=by
   have key:∀{cs:List CK} {i:Nat} {K K':List Value->Prop},(∀vs,K vs->K' vs)->mS cs a i h K->mS cs a i h K':=by
    intro cs
    induction cs with
    | nil=>intro i K K' hh hk;exact hh _ hk
    | cons c cs ih=>
     intro i K K' hh hk;simp only[mS]at hk ⊢;cases c<;>(obtain⟨y,e,hk⟩:=hk;exact⟨y,e,ih (λvs d=>hh _ d) hk⟩)
   exact key (λus g=>by rw[g]) (hall h b)
  simp only[mS];have j:=hx h b;cases c<;>exact⟨x,j,m⟩
theorem M7 {P:Program}{t:Nat}{K:IntKind->CK->Prop}(h:qu P t K):∃kt et k c,P.underlying t=some (.map kt et)/\P.underlying kt=some (.int k)/\nF P et=some (.one c)/\K k c:=by
 unfold qu at h;split at h
 ·split at h
  ·exact⟨_,_,_,_,by assumption,by assumption,by assumption,h⟩
  ·exact h.elim
 ·exact h.elim
theorem FR {P:Program}{S:aP}{o:Op}{ρ:Env}{K:Value->Prop}(hk:qS P S o ρ K):∃v,K v/\∀h,S h->qK P o ρ h (· = v):=by
 unfold qS at hk;split at hk
 ·obtain⟨Q,r,hk⟩:=Wq hk;split at hk
  ·rename_i ad c hs;rw[Wu]at hk;obtain⟨C,x,B,d⟩:=hk;refine⟨_,d,λh b=>?_⟩;simp only[qK,r,wv,hs,Wu];refine⟨C,?_⟩;have s:=B h b;cases c<;>exact⟨x,s,rfl⟩
  ·rename_i ad cs hs;rw[Wu,Wu]at hk;obtain⟨C,H,hk⟩:=hk;obtain⟨vs,d,j⟩:=AS hk;refine⟨_,d,λh b=>?_⟩;simp only[qK,r,wv,hs,Wu];refine⟨C,H,?_⟩;have key:∀{cs:List CK} {i:Nat} {K K':List Value->Prop},(∀vs,K vs->K' vs)->mS cs ad i h K->mS cs ad i h K':=by
    intro cs
    induction cs with
    | nil=>intro i K K' hh hk;exact hh _ hk
    | cons c cs ih=>
     intro i K K' hh hk;simp only[mS]at hk ⊢;cases c<;>(obtain⟨y,E,hk⟩:=hk;exact⟨y,E,ih (λvs D=>hh _ D) hk⟩)
   exact key (λus p=>by rw[p]) (j h b)
  ·exact hk.elim
 ·obtain⟨N,B,g⟩:=Wq hk;obtain⟨R,J,a⟩:=Wq g;clear hk g;split at a
  case h_2=>exact a.elim
  rename_i F L m k n p;split at a
  case h_2=>exact a.elim
  rename_i k' c ti hkk hs hti;split at a
  case h_2=>exact a.elim
  rename_i z hz;split at a
  case isFalse=>exact a.elim
  rename_i e;subst e;obtain⟨M,rfl,l,u,d⟩:=Vj a;refine⟨_,d,λh b=>?_⟩;simp only[qK,B,J,wv,vO,p,hkk,hs,hti,hz,zP];have G:=u h b;rw[ET];exact⟨l,G,rfl⟩
 ·split at hk
  ·rename_i m t s r ht;obtain⟨F,L,k,c,p,w,A,l,u,d⟩:=M7 hk;refine⟨_,d,λh b=>?_⟩;simp only[qK,s,r,ht,kS,p,w,A];exact⟨l,u h b,rfl⟩
  ·exact hk.elim
 ·exact hk.elim
structure gT (ops:Array Oper) (listed:Array Bool) (D:List Nat):Prop where
 size:listed.size=ops.size
 at_:∀j,j<ops.size->listed[j]?=some (D.contains j)
 lt:∀j∈D,j<ops.size
theorem gT.getD {ops:Array Oper}{listed:Array Bool}{D:List Nat}(h:gT ops listed D){j:Nat}(hj:j<ops.size)(b:Bool):listed.getD j b=D.contains j:=by
 rw[qx,h.at_ j hj];rfl
theorem gT.lZ {ops:Array Oper}{listed:Array Bool}{D:List Nat}(h:gT ops listed D)(j:Nat):listed.getD j false=D.contains j:=by
 rcases jX j ops.size with hj|hj
 ·exact h.getD hj false
 ·rw[qx,Array.getElem?_eq_none (by rw[h.size];exact hj)]
  symm
  simp only[Option.getD_none,qg,decide_eq_false_iff_not];exact λa=>by have:=h.lt j a;omega
theorem gT.start (ops:Array Oper):gT ops (Array.replicate ops.size false) []:=
 ⟨by simp,λj a=>by simp[a],λj a=>by simp at a⟩
theorem gT.cons {ops:Array Oper}{listed:Array Bool}{D:List Nat}(h:gT ops listed D){i:Nat}(hi:i<ops.size):gT ops (listed.setIfInBounds i true) (i::D):=by
 refine⟨by simp[h.size],λj a=>?_,λj a=>?_⟩
 ·by_cases hij:i=j
  ·subst hij;simp[h.size,a]
  ·rw[vP hij,h.at_ j a];have:(j==i)=false:=by simpa using λe=>hij e.symm
   simp only[List.contains_cons,this,vU]
 ·rcases zX.1 a with rfl|h'
  ·exact hi
  ·exact h.lt j h'
def lU (ops:Array Oper)(D:List Nat)(i:Nat):Bool:=match ops[i]? with
 | none=>false
 | some o=>!D.contains i&&o.after.toList.all λe=>!Region.binds .any e||D.contains e.on
def y7 (ops:Array Oper)(D:List Nat)(i:Nat):Bool:=match ops[i]? with
 | none=>false
 | some oi=>(List.range ops.size).all λj=>Nat.beq j i||(D.contains j||match ops[j]? with
  | some oj=>oj.after.toList.any (λe=>Region.binds .any e&&Nat.beq e.on i)||oi.apart ops oj
  | none=>true)
theorem yP {ops:Array Oper}{D:List Nat}{i:Nat}(h:lU ops D i=true):i<ops.size:=by
 unfold lU at h;split at h
 ·cases h
 ·rename_i o ho;exact(zy.1 ho).1
theorem HR {ops:Array Oper}{listed:Array Bool}{D:List Nat}(h:gT ops listed D)(i:Nat):i∈Region.ready .any ops listed↔lU ops D i=true:=by
 rw[mem_ready];unfold lU;cases ho:ops[i]? with
 | none=>simp
 | some o=>
  have d:i<ops.size:=(zy.1 ho).1;simp only[h.getD d,Option.some.injEq,exists_eq_left',zE,lx,zr,mP];constructor
  ·rintro⟨h1,h2⟩;refine⟨h1,λe a=>?_⟩;cases b:Region.binds .any e
   ·exact .inl rfl
   ·right;have:=h2 e (by simpa using a) b
    rwa [h.lZ]at this
  ·rintro⟨h1,h2⟩;refine⟨h1,λe a b=>?_⟩;have:=h2 e (by simpa using a);rw[b]at this;rw[h.lZ];simpa using this
theorem U8 {ops:Array Oper}{listed:Array Bool}{D:List Nat}(h:gT ops listed D){i:Nat}(hf:y7 ops D i=true):Region.free .any ops listed i=true:=by
 unfold y7 at hf;unfold Region.free;cases ho:ops[i]? with
 | none=>rw[ho]at hf;cases hf
 | some oi=>
  rw[ho]at hf;simp only[zr,zh]at hf ⊢;intro j hj;have:=hf j hj;rw[h.getD hj];simp only[mP]at this ⊢;rcases this with h1|h1|h1
  ·exact .inl (.inl (by simpa using zo h1))
  ·exact .inl (.inr h1)
  ·right;split at h1
   ·rename_i oj hoj;simp only[hoj,mP]at h1 ⊢;rcases h1 with h1|h1
    ·left;rw[jU]at h1;obtain⟨e,b,a⟩:=h1;simp only[zE]at a;rw[Array.any_eq_true'];exact⟨e,by simpa using b,by simp[a.1,zo a.2]⟩
    ·exact .inr h1
   ·rename_i hoj;simp[hoj]
inductive SH where
 | done
 | take (i:Nat) (r:SH)
 | split (c:Nat) (t f:SH)
 | all (l:List (Nat×SH))
def SH.tk:List Nat->SH->SH
 |[],s=>s
 |i::l,s=>.take i (SH.tk l s)
def Sx (sm:Bool)(S:aP)(h:Hp)(X:Prop):Prop:=match sm with
 | true=>S h/\X
 | false=>X
def shut (C D:List Nat):Bool:=C.any λk=>D.contains k
def qL (f:Nat->SH->Prop):List (Nat×SH)->Prop
 | []=>True
 | [x]=>f x.1 x.2
 | x::y::l=>f x.1 x.2/\qL f (y::l)
def VV (P:Program)(N:Nat)(ops:Array Oper)(sm:Bool)(C:List Nat)(S:aP)(K:Env->Hp->Prop):Nat->Nat->SH->List Nat->Env->Hp->Prop
 | 0,_,_,_,_,_=>False
 | n+1,_,.done,D,ρ,h=>fJ ((List.range ops.size).all λj=>D.contains j) (K ρ h)
 | n+1,m+1,.take i r,D,ρ,h=>match ops[i]? with
  | some o=>fJ (lU ops D i&&(y7 ops D i&&(pC N o.dst && !C.contains i)))
   (bif ru ops o ρ then VV P N ops sm C S K n m r (i::D) (ρ.gV o.dst undef) h
    else fJ (HB ops o ρ) (bif Hm P o.op then qK P o.op ρ h λv=>VV P N ops sm C S K n m r (i::D) (ρ.gV o.dst v) h
     else fJ (sm&&((C.all λk=>tv ops k i) && !shut C D)) (qS P S o.op ρ λv=>VV P N ops sm C S K n m r (i::D) (ρ.gV o.dst v) h)))
  | none=>False
 | n+1,m,.split c t f,D,ρ,h=>VX ρ (.tmp c) λb=>If b (VV P N ops sm C S K n m t D (ρ.put c (.bool true)) h) (VV P N ops sm C S K n m f D (ρ.put c (.bool false)) h)
 | n+1,m+1,.all l,D,ρ,h=>fJ ((!l.isEmpty&&l.all λx=>Nat.blt x.1 ops.size)&&((List.range ops.size).all λj=>lU ops D j==l.any λx=>Nat.beq x.1 j))
  (qL (λi r=>match ops[i]? with
   | some o=>fJ (pC N o.dst) (bif ru ops o ρ then Sx (sm && !shut C (i::D)) S h (VV P N ops sm C S K n m r (i::D) (ρ.gV o.dst undef) h)
    else fJ (HB ops o ρ) (pX P o.op o.type ρ h λv h'=>Sx (sm && !shut C (i::D)) S h' (VV P N ops sm C S K n m r (i::D) (ρ.gV o.dst v) h')))
   | none=>False) l)
 | _,_,_,_,_,_=>False
def eN (h:Hp)(body:(Hp->Prop)->Prop):Prop:=∃S:Hp->Prop,S h/\body S
theorem AX {f:Nat->SH->Prop}:∀{l:List (Nat×SH)},qL f l->∀x∈l,f x.1 x.2
 | [],_,x,hx=>by simp at hx
 | [y],h,x,hx=>by simp at hx;subst hx;exact h
 | y::z::l,h,x,hx=>by
  rcases zX.1 hx with rfl|hx
  ·exact h.1
  ·exact AX h.2 x hx
theorem ve {ds:List Nat}{ρ ρ':Env}{ops:Array Oper}{i:Nat}{o:Oper}(ho:ops[i]?=some o){v:Value}
 (k:∀j,(ops.toList.filterMap (·.dst)).contains j=false->∀u,(ρ.gV o.dst v) j=some u->ρ' j=some u):∀j,(ops.toList.filterMap (·.dst)).contains j=false->∀u,ρ j=some u->ρ' j=some u:=by
 intro j hj u hu;refine k j hj u ?_;cases hd:o.dst with
 | none=>exact hu
 | some d=>
  simp only[Env.gV,Env.put];cases hb:Nat.beq j d
  ·exact hu
  ·have e:j=d:=zo hb;subst e;exfalso;simp only[qg,decide_eq_false_iff_not,uc,not_exists,not_and]at hj;refine hj o ?_ hd;have:=vN ho;simpa using this
def TD (S:aP)(C D:List Nat)(h:Hp):Prop:=S h\/shut C D=true
theorem TD.ts {S:aP}{C D:List Nat}{ops:Array Oper}{listed:Array Bool}{w:World}(hD:gT ops listed D)(h:TD S C D w.heap):TS (λw=>S w.heap) C listed w:=by
 refine h.imp id λa=>?_;unfold shut at a;rw[jU]at a;obtain⟨k,b,d⟩:=a;exact⟨k,b,by rw[hD.lZ];exact d⟩
theorem Nf {C D:List Nat}{ops:Array Oper}{listed:Array Bool}(hD:gT ops listed D)(h:shut C D=false):∀k∈C,listed.getD k false=false:=by
 intro k hk;unfold shut at h;rw[lN]at h;rw[hD.lZ];simpa using h k hk
theorem Fy {C D:List Nat}{i:Nat}(h:shut C D=true):shut C (i::D)=true:=by
 unfold shut at *;rw[jU]at *;obtain⟨k,a,b⟩:=h;refine⟨k,a,?_⟩;rw[wh]at *;exact ou _ b
theorem Co {sm:Bool}{S:aP}{C D:List Nat}{h:Hp}{X:Prop}(hs:sm=false->∀h,S h)(hx:Sx (sm && !shut C D) S h X):TD S C D h/\X:=by
 cases hc:shut C D
 ·rw[hc]at hx;simp only[tZ,sK]at hx;cases sm
  ·exact⟨.inl (hs rfl h),hx⟩
  ·exact⟨.inl hx.1,hx.2⟩
 ·rw[hc]at hx;simp only[Bool.not_true,qV]at hx;exact⟨.inr hc,hx⟩
theorem ZK {P:Program}{N:Nat}{ops:Array Oper}{sm:Bool}{C:List Nat}{S:aP}{K:Env->Hp->Prop}{Qn:Act->World->Prop}(hsel:Region.noSelect ops=true)(hsm:sm=false->∀h,S h):∀(n m:Nat) {sh:SH} {D:List Nat} {ρ:Env} {a:Act} {w:World} {listed:Array Bool},
 VV P N ops sm C S K n m sh D ρ w.heap->Fits N ρ a->gT ops listed D->TD S C D w.heap->(∀ρ' a' w',Fits N ρ' a'->Xa w w'->Vi ops.toList ρ ρ'->K ρ' w'.heap->Qn a' w') →
 anyS P ops (λe a w=>match e with | .normal=>Qn a w|_=>False) (λw=>S w.heap) C m listed a w
 | 0,m,sh,D,ρ,a,w,listed,h,hf,hD,hS,hK=>(by simp only[VV]at h)
 | n+1,m,.done,D,ρ,a,w,listed,h,hf,hD,hS,hK=>by
  have h':fJ ((List.range ops.size).all λj=>D.contains j) (K ρ w.heap):=by cases m<;>exact h
  rw[Wu]at h';refine Jz ?_ (hK ρ a w hf (.refl _) (λ_ _ _ h=>h) h'.2) m;rw[List.eq_nil_iff_forall_not_mem];intro j hj;have B:=(HR hD j).1 hj;have:=zr.1 h'.1 j (zh.2 (yP B));unfold lU at B;split at B
  ·cases B
  ·rw[this]at B;simp at B
 | n+1,0,.take i r,D,ρ,a,w,listed,h,hf,hD,hS,hK=>(by simp only[VV]at h)
 | n+1,m+1,.take i r,D,ρ,a,w,listed,h,hf,hD,hS,hK=>by
  simp only[VV]at h;split at h
  case h_2=>exact h.elim
  rename_i o ho;rw[Wu]at h;obtain⟨Z,h⟩:=h;simp only[zE,lx]at Z;obtain⟨hrd,Q,s,V⟩:=Z;have H:=yP hrd;have z:i∈Region.ready .any ops listed:=(HR hD i).2 hrd;have p:TD S C (i::D) w.heap:=hS.imp id Fy;cases hg:ru ops o ρ
  ·rw[hg]at h;simp only[cond_false]at h;rw[Wu]at h;obtain⟨L,h⟩:=h;have hw:=Y6 hf L;cases hp:Hm P o.op
   ·rw[hp]at h;simp only[cond_false]at h;rw[Wu]at h;obtain⟨M,h⟩:=h;simp only[zE,lx,zr]at M;obtain⟨v,J,G⟩:=FR h;refine Gh (T:=λw=>S w.heap) ho hsel (U8 hD Q) z (λ_ _ _ h=>h) V (.inr ⟨λ_ h=>h,M.2.1⟩) (.inr (Nf hD M.2.2)) (v:=v) (.inl ⟨hw,λw' p=>?_⟩) (hS.ts hD) ?_
    ·obtain⟨u,B,rfl⟩:=H5 hf.ev o (G w'.heap p);exact B
    ·exact ZK hsel hsm n m J (hf.put s v) (hD.cons H) p λρ' a' w' g F E d=>hK ρ' a' w' g F (ve (ds:=[]) ho E) d
   ·rw[hp]at h;simp only[cond_true]at h;obtain⟨v,J,G⟩:=L7 hp h;refine Gh (T:=λ_=>True) ho hsel (U8 hD Q) z (λ_ _ _ h=>h) V (.inl λ_=>trivial) (.inl λ_=>trivial) (v:=v) (.inl ⟨hw,λw' _=>?_⟩) (hS.ts hD) ?_
    ·obtain⟨u,B,rfl⟩:=H5 hf.ev o (G w'.heap);exact B
    ·exact ZK hsel hsm n m J (hf.put s v) (hD.cons H) p λρ' a' w' g F E d=>hK ρ' a' w' g F (ve (ds:=[]) ho E) d
  ·rw[hg]at h;simp only[cond_true]at h;refine Gh (T:=λ_=>True) ho hsel (U8 hD Q) z (λ_ _ _ h=>h) V (.inl λ_=>trivial) (.inl λ_=>trivial) (v:=undef) (.inr ⟨Kr hf hg,rfl⟩) (hS.ts hD) ?_;exact ZK hsel hsm n m h (hf.put s undef) (hD.cons H) p λρ' a' w' g F E d=>hK ρ' a' w' g F (ve (ds:=[]) ho E) d
 | n+1,m,.split c t f,D,ρ,a,w,listed,h,hf,hD,hS,hK=>by
  have h':VX ρ (.tmp c) λb=>If b (VV P N ops sm C S K n m t D (ρ.put c (.bool true)) w.heap) (VV P N ops sm C S K n m f D (ρ.put c (.bool false)) w.heap):=by cases m<;>exact h
  obtain⟨b,hb,X⟩:=Q2 h';have A:=λe=>X.t e;have h2:=λe=>X.f e;have W:ρ c=some (.bool b):=hb;have kk:∀(b':Bool),b=b'->∀ρ',Vi ops.toList (ρ.put c (.bool b')) ρ'->Vi ops.toList ρ ρ':=by
   intro b' e ρ' k i H u hu;refine k i H u ?_;simp only[Env.put];cases hic:Nat.beq i c
   ·exact hu
   ·have e2:i=c:=zo hic;subst e2;rw[W]at hu;simp only[cond_true];rw[←e];exact hu
  cases b
  ·exact ZK hsel hsm n m (h2 rfl) (hf.lit W rfl) hD hS λρ' a' w' g F E d=>hK ρ' a' w' g F (kk false rfl ρ' E) d
  ·exact ZK hsel hsm n m (A rfl) (hf.lit W rfl) hD hS λρ' a' w' g F E d=>hK ρ' a' w' g F (kk true rfl ρ' E) d
 | n+1,0,.all l,D,ρ,a,w,listed,h,hf,hD,hS,hK=>(by simp only[VV]at h)
 | n+1,m+1,.all l,D,ρ,a,w,listed,h,hf,hD,hS,hK=>by
  simp only[VV]at h;rw[Wu]at h;obtain⟨Z,h⟩:=h;simp only[zE,lx,zr,zh,zV]at Z;obtain⟨⟨hne,hlt⟩,heq⟩:=Z;have hmem:∀j,j∈Region.ready .any ops listed->∃r,(j,r)∈l:=by
   intro j hj;have B:=(HR hD j).1 hj;have:=heq j (yP B);rw[B]at this;have:=jU.1 this.symm;obtain⟨x,hx,hb⟩:=this;have e:x.1=j:=zo hb;exact⟨x.2,by rw[←e];exact hx⟩
  refine O5 (rs:=Region.ready .any ops listed) rfl ?_ λj hj=>?_
  ·intro hnil
   match l,hne with
   | x::l',_=>
    have hx:=Nat.blt_eq.mp (hlt x aA);have:=heq x.1 hx;have Y:(x::l').any (λy=>Nat.beq y.1 x.1)=true:=jU.2 ⟨x,by simp,by simp⟩;rw[Y]at this;have:=(HR hD x.1).2 this;rw[hnil]at this;simp at this
  ·obtain⟨r,B⟩:=hmem j hj;have A:=AX h (j,r) B;simp only at A;split at A
   case h_2=>exact A.elim
   rename_i o ho;have H:j<ops.size:=(zy.1 ho).1;rw[Wu]at A;obtain⟨s,A⟩:=A;unfold wpOp;simp only[ho];cases hg:ru ops o ρ
   ·rw[hg]at A;simp only[cond_false]at A;rw[Wu]at A;obtain⟨L,A⟩:=A;rw[zC (Y6 hf L)];refine .inl (Qy.upon (V4 hf.ev o A) λv w' F J=>?_);obtain⟨p,J⟩:=Co hsm J;exact⟨p.ts (hD.cons H),ZK hsel hsm n m J (hf.put s v) (hD.cons H) p λρ' a' R g U E d=>hK ρ' a' R g (F.trans U) (ve (ds:=[]) ho E) d⟩
   ·rw[hg]at A;simp only[cond_true]at A;rw[Kr hf hg];simp only[za,zp];obtain⟨p,J⟩:=Co hsm A;exact⟨p.ts (hD.cons H),ZK hsel hsm n m J (hf.put s undef) (hD.cons H) p λρ' a' R g U E d=>hK ρ' a' R g U (ve (ds:=[]) ho E) d⟩
def vL (P:Program)(N:Nat)(sm:Bool)(C:List Nat)(sh:SH)(ops:Array Oper)(ρ:Env)(h:Hp)(K:Env->Hp->Prop):Prop:=
 match sm with
 | true=>eN h λS=>VV P N ops true C S K 400 ops.size sh [] ρ h
 | false=>VV P N ops false C (λ_=>True) K 400 ops.size sh [] ρ h
theorem VN {P:Program}{N id:Nat}{ops:Array Oper}{sm:Bool}{C:List Nat}{sh:SH}{K:Env->Hp->Prop}{ρ:Env}{a:Act}{w:World}{Q:Exit->Act->World->Prop}
 (hm:P.follows .mixedOrders=true) (hsel:Region.noSelect ops=true) (h:vL P N sm C sh ops ρ w.heap K)
 (hf:Fits N ρ a) (hK:∀ρ' a' w',Fits N ρ' a'->Xa w w'->Vi ops.toList ρ ρ'->K ρ' w'.heap->Q .normal a' w'):(Code.region id ops true).wp P Q a w:=by
 refine wp_mono (Q:=λe a w=>match e with | .normal=>Q .normal a w|_=>False) ?_ (λe a w j=>by cases e<;>first|exact j|exact j.elim)
 have hd:Xa w {w with drawn:=w.drawn+1}:=⟨rfl,rfl,rfl,zD _⟩;cases sm
 ·exact Ue (S:=λw=>True) hm (ZK (S:=λ_=>True) (w:={w with drawn:=w.drawn+1}) (Qn:=Q .normal) hsel (λ_ _=>trivial) 400 ops.size h hf (gT.start ops) (.inl trivial) λρ' a' w' b g i d=>hK ρ' a' w' b (hd.trans g) i d)
 ·obtain⟨S,m,h⟩:=h;exact Ue hm (ZK (S:=S) (w:={w with drawn:=w.drawn+1}) (Qn:=Q .normal) hsel (λe=>by cases e) 400 ops.size h hf (gT.start ops) (.inl m) λρ' a' w' b g i d=>hK ρ' a' w' b (hd.trans g) i d)
abbrev Js:=List (Nat×SK)
def lf (js:Js):List CK:=eM (js.map (·.2))
def rp (ρ:Env):Js->Option (List Value)
 | []=>some []
 | (i,.one _)::js=>match ρ i,rp ρ js with|some v,some vs=>some (v::vs)|_,_=>none
 | (i,.agg cs)::js=>match ρ i,rp ρ js with
  | some (.agg a),some vs=>bif a.size==cs.length then some (a.toList++vs)else none
  | _,_=>none
def qy (js:Js)(ρ:Env)(J:eH (lf js))(h:Hp):Prop:=match rp ρ js with
 | some vs=>qw (lf js) J vs h
 | none=>False
def ia:Env->Js->List Value->Env
 | ρ,[],_=>ρ
 | ρ,(i,.one _)::js,v::vs=>ia (ρ.put i v) js vs
 | ρ,(i,.one _)::js,[]=>ia ρ js []
 | ρ,(i,.agg cs)::js,vs=>ia (ρ.put i (.agg (vs.take cs.length).toArray)) js (vs.drop cs.length)
def Jn (ks:List CK)(K:eH ks)(body:eH ks->Prop):Prop:=∃J:eH ks,eH.le ks J K/\body J
theorem eH.le_refl:∀(ks:List CK) (R:eH ks),eH.le ks R R
 | [],_=>λ_ h=>h
 | _::cs,_=>λ_=>eH.le_refl cs _
theorem Jn.intro {ks:List CK}{K:eH ks}{body:eH ks->Prop}(h:body K):Jn ks K body:=⟨K,eH.le_refl ks K,h⟩
def lL (ds:List Nat)(i:Nat):Bool:=ds.contains i
def Kt (ds:List Nat)(ρ ρ':Env):Prop:=∀i,ds.contains i=false->∀v,ρ i=some v->ρ' i=some v
theorem Kt.trans {d1 d2:List Nat}{a b c:Env}(h:Kt d1 a b)(k:Kt d2 b c):Kt (d1++d2) a c:=by
 intro i hi v hv;simp only[qg,zL,decide_eq_false_iff_not,not_or]at hi;exact k i (by simpa using hi.2) v (h i (by simpa using hi.1) v hv)
theorem Kt.mono {d1 d2:List Nat}{a b:Env}(h:Kt d1 a b)(hs:∀i,i∈d1->i∈d2):Kt d2 a b:=by
 intro i hi v hv;refine h i ?_ v hv;simp only[qg,decide_eq_false_iff_not]at hi ⊢;exact λd=>hi (hs i d)
theorem Kt.refl (ds:List Nat)(a:Env):Kt ds a a:=λ_ _ _ h=>h
theorem Q5 (ds:List Nat):∀(js:Js) (ρ:Env) (vs:List Value),(js.all λs=>lL ds s.1)=true->Kt ds ρ (ia ρ js vs)
 | [],ρ,vs,_=>by simp only[ia];exact .refl _ _
 | (i,.one c)::js,ρ,[],h=>by
  simp only[r7,zE]at h;simp only[ia];exact Q5 ds js ρ [] h.2
 | (i,.one c)::js,ρ,v::vs,h=>by
  simp only[r7,zE]at h;simp only[ia];intro j hj u hu;refine Q5 ds js _ vs h.2 j hj u ?_;simp only[Env.put];cases hb:Nat.beq j i
  ·exact hu
  ·have e:j=i:=zo hb;subst e;simp only[lL]at h;rw[hj]at h;cases h.1
 | (i,.agg cs)::js,ρ,vs,h=>by
  simp only[r7,zE]at h;simp only[ia];intro j hj u hu;refine Q5 ds js _ _ h.2 j hj u ?_;simp only[Env.put];cases hb:Nat.beq j i
  ·exact hu
  ·have e:j=i:=zo hb;subst e;simp only[lL]at h;rw[hj]at h;cases h.1
theorem QS {N:Nat}:∀(js:Js) {ρ ρ':Env} {a:Act} {vs:List Value},Fits N ρ a->Fits N ρ' a->rp ρ' js=some vs->Fits N (ia ρ js vs) a
 | [],ρ,ρ',a,vs,h,_,_=>h
 | (i,.one c)::js,ρ,ρ',a,vs,h,h',hv=>by
  simp only[rp]at hv;split at hv
  ·rename_i v vs' h1 h2;cases hv;simp only[ia];refine QS js ⟨h.defers,h.size,λj u hu=>?_⟩ h' h2;simp only[Env.put]at hu;cases hb:Nat.beq j i
   ·rw[hb]at hu;exact h.at_ j u hu
   ·have e:j=i:=zo hb;subst e;rw[hb]at hu;simp only[cond_true,Option.some.injEq]at hu;subst hu;exact h'.at_ j _ h1
  ·cases hv
 | (i,.agg cs)::js,ρ,ρ',a,vs,h,h',hv=>by
  simp only[rp]at hv;split at hv
  ·rename_i ar vs' h1 h2;cases hs:(ar.size==cs.length)
   ·rw[hs]at hv;cases hv
   ·rw[hs]at hv;simp only[cond_true,Option.some.injEq]at hv;subst hv;have b:ar.toList.length=cs.length:=by simpa using hs
    simp only[ia];rw[←b,List.take_left,List.drop_left];refine QS js ⟨h.defers,h.size,λj u hu=>?_⟩ h' h2;simp only[Env.put]at hu;cases hb:Nat.beq j i
    ·rw[hb]at hu;exact h.at_ j u hu
    ·have e:j=i:=zo hb;subst e;rw[hb]at hu;simp only[cond_true,Option.some.injEq]at hu;subst hu;simpa using h'.at_ j _ h1
  ·cases hv
theorem Ul {js:Js}{ρ:Env}{J:eH (lf js)}{h:Hp}(hj:qy js ρ J h):∃vs,rp ρ js=some vs/\Sat (lf js) J vs h:=by
 unfold qy at hj;split at hj
 ·exact⟨_,by assumption,Uh hj⟩
 ·exact hj.elim
theorem Vh {N:Nat}{ds:List Nat}{ρ ρ':Env}{a:Act}(h:Fits N ρ' a)(k:Kt ds ρ ρ'):Fits N (ρ.dR ds) a:=by
 refine h.weaken λi v b=>?_;simp only[Env.dR]at b;cases hc:ds.contains i
 ·rw[hc]at b;exact k i hc v b
 ·rw[hc]at b;cases b
theorem V7 (ds:List Nat)(ρ:Env):Kt ds ρ (ρ.dR ds):=by
 intro i hi v hv;simp only[Env.dR,hi];exact hv
def vX:Op->Bool
 | .pick .. => true
 | _=>false
def jN (os:List Oper):Bool:=os.all λo=>rm o.op||vX o.op
theorem Vb {P:Program}{N:Nat}{ops:Array Oper}{Q:Act->Prop}{w:World}:∀(n:Nat) {hs:List RI} {os:List Oper} {tail:List Oper} {ρ:Env} {a:Act} {K:Env->Hp->Prop},
 eA P N ops n hs os ρ w.heap K->jN os=true->Fits N ρ a->(∀ρ' a',Fits N ρ' a'->Vi os ρ ρ'->K ρ' w.heap->wpStill P ops w Q tail a')->wpStill P ops w Q (os++tail) a
 | 0,_,_,_,_,_,_,h,_,_,_=>(by simp only[eA]at h)
 | n+1,[],[],tail,ρ,a,K,h,hq,hf,hK=>by
  simp only[eA]at h;exact hK ρ a hf (λ_ _ _ h=>h) h
 | n+1,[],o::os,tail,ρ,a,K,h,hq,hf,hK=>(by simp only[eA]at h)
 | n+1,.op::hs,[],tail,ρ,a,K,h,hq,hf,hK=>(by simp only[eA]at h)
 | n+1,.it ki c::hs,[],tail,ρ,a,K,h,hq,hf,hK=>(by simp only[eA]at h)
 | n+1,.it ki c::hs,o::os,tail,ρ,a,K,h,hq,hf,hK=>by
  simp only[eA]at h;rw[Wu]at h;simp only[jN,r7,zE,mP]at hq;have h2:=h.2;unfold wD at h2;split at h2
  ·rename_i heq;rw[heq]at hq;simp[rm,vX]at hq
  ·rename_i heq;rw[heq]at hq;simp[rm,vX]at hq
  ·exact h2.elim
 | n+1,.op::hs,o::os,tail,ρ,a,K,h,hq,hf,hK=>by
  simp only[eA]at h;rw[Wu]at h;obtain⟨C,h⟩:=h;simp only[zE]at C;have hw:=Y6 hf C.1;simp only[jN,r7,zE,mP]at hq;have hqo:rm o.op=true:=by
   rcases hq.1 with h1|h1
   ·exact h1
   ·unfold vX at h1;split at h1
    ·rename_i heq;rw[heq];rfl
    ·cases h1
  unfold pX at h;rw[hqo]at h;obtain⟨v,X,A⟩:=H5 hf.ev o h;simp only[kG,wpStill,hw,zP,Oper.still,X,Oper.stillUpon];exact⟨trivial,Vb n A (by simpa[jN]using hq.2) (hf.put C.2 v) λρ' a' g L s=>hK ρ' a' g L.cons s⟩
 | n+1,.cO and m inner::hs,os,tail,ρ,a,K,h,hq,hf,hK=>by
  simp only[eA]at h;split at h
  case h_2=>exact h.elim
  rename_i pk rest hdrop;split at h
  case h_2=>exact h.elim
  rename_i c x y d hop hd;split at h
  case h_2=>exact h.elim
  rename_i b hb;rw[Wu]at h;obtain⟨C,J,hJ,h⟩:=h;simp only[zE]at C;obtain⟨Y,F,R,S,B⟩:=C;have W:os++tail=os.take m++(pk::rest++tail):=by
   rw[←hdrop,←jW,mY]
  have V:jN (os.take m)=true:=by
   rw[jN,zr]at hq ⊢;exact λo U=>hq o (tF U)
  have hqr:jN rest=true:=by
   rw[jN,zr]at hq ⊢;exact λo U=>hq o (rF (i:=m) (by rw[hdrop];exact ou _ U))
  rw[W];have j:∀(r b':Bool) (z:Operand) a',b=b'->(bif b' then x else y)=z->Fits N (ρ.dR ((os.take m).filterMap (·.dst))) a'->J r w.heap->Region.wanted pk (yielded ops a'.tmps)=true →
   a'.eval (.tmp c)=.bool b'->a'.eval z=.bool r->wpStill P ops w Q (pk::rest++tail) a':=by
   intro r b' z a' e ez g G hw u hez;have D:(execOp a'.eval pk).run P w=.ok (.value (.bool r)) w:=by
    obtain⟨dst,op,ty,pos,aft,M⟩:=pk;simp only at hop;subst hop;subst ez;cases b'<;>simp at hez<;>simp[execOp,u,asBool,hez]
   simp only[kG,wpStill,hw,zP,Oper.still,D,Oper.stillUpon];have Z:=g.put (d:=some d) Y (.bool r);rw[hd];exact⟨trivial,Vb n (hJ _ _ G) hqr Z λρ' aa H L s=>hK ρ' aa H (Vi.cO hd hdrop L) s⟩
  have run:∀(b':Bool) (z:Operand),b=b'->(bif b' then x else y)=z →
   eA P N ops n inner (os.take m) (ρ.put c (.bool b')) w.heap (λρ' h'=>fJ (HB ops pk ρ'&&qb ρ' c b') (VX ρ' z λr=>J r h'))->wpStill P ops w Q (os.take m++(pk::rest++tail)) a:=by
   intro b' z e ez hseg;refine Vb n hseg V (hf.lit hb e) λρ' a' g L A=>?_;rw[Wu]at A;simp only[zE]at A;obtain⟨⟨hg,hci⟩,A⟩:=A;obtain⟨r,X,G⟩:=Q2 A;exact j r b' z a' e ez (g.tf hb e L) G (Y6 g hg) (g.ev _ _ (V5 hci)) (g.ev _ _ X)
  have p:∀(b':Bool),b=b'->b' = !and->J (!and) w.heap->wpStill P ops w Q (os.take m++(pk::rest++tail)) a:=by
   intro b' e eb G;subst eb;refine BV B (hf.lit hb e) λa' g=>?_;have E:Fits N (ρ.dR ((os.take m).filterMap (·.dst))) a':=g.tf (ρ':=(ρ.put c (.bool (!and))).dR ((os.take m).filterMap (·.dst))) hb e (λi hi v hv=>by simp only[Env.dR,hi];exact hv);have u:=g.ev (.tmp c) _ (V5 S);refine j (!and) (!and) (bif (!and)then x else y) a' e rfl E G (Y6 E R) u ?_;refine xy ?_ _ (λv=>rfl);cases and<;>exact F
  cases and
  ·simp only[cond_false]at h;cases b
   ·exact run false y rfl rfl (h.f rfl)
   ·exact p true rfl rfl (h.t rfl)
  ·simp only[cond_true]at h;cases b
   ·exact p false rfl rfl (h.f rfl)
   ·exact run true x rfl rfl (h.t rfl)
inductive RH where
 | seq (hs:List RI)
 | quiet (hs:List RI)
 | tail (n:Nat) (hs1 hs2:List RI)
 | held (sm:Bool) (C:List Nat) (sh:SH)
 | gQ (sm:Bool) (C:List Nat) (js:Js) (sh:SH)
def sA (ops:Array Oper):List Nat:=ops.toList.filterMap (·.dst)
def lW (P:Program)(N:Nat)(r:RH)(ops:Array Oper)(draw:Bool)(ρ:Env)(h:Hp)(K:Env->Hp->Prop):Prop:=
 match r,draw with
 | .seq hs,false=>eA P N ops 400 hs ops.toList ρ h K
 | .quiet hs,true=>fJ (P.follows .mixedOrders&&(Region.lexB .any ops&&jN ops.toList)) (eA P N ops 400 hs ops.toList ρ h K)
 | .tail n hs1 hs2,true=>fJ (P.follows .mixedOrders&&(Region.lexTailB .any ops n&&jN (ops.toList.take n)))
  (eA P N ops 400 hs1 (ops.toList.take n) ρ h λρ' h'=>eA P N ops 400 hs2 (ops.toList.drop n) ρ' h' K)
 | .held sm C sh,true=>fJ (P.follows .mixedOrders&&Region.noSelect ops) (vL P N sm C sh ops ρ h K)
 | .gQ sm C js sh,true=>fJ (P.follows .mixedOrders&&(Region.noSelect ops&&js.all λs=>lL (sA ops) s.1))
  (Jn (lf js) (lam (lf js) λvs h'=>K (ia (ρ.dR (sA ops)) js vs) h') λJ=>vL P N sm C sh ops ρ h λρ' h'=>qy js ρ' J h')
 | _,_=>False
theorem Bh {P:Program}{N id:Nat}{r:RH}{ops:Array Oper}{draw:Bool}{ρ:Env}{a:Act}{w:World}{K:Env->Hp->Prop}{Q:Exit->Act->World->Prop}
 (h:lW P N r ops draw ρ w.heap K) (hf:Fits N ρ a) (hK:∀ρ' a' w',Fits N ρ' a'->Xa w w'->Vi ops.toList ρ ρ'->K ρ' w'.heap->Q .normal a' w'):(Code.region id ops draw).wp P Q a w:=by
 unfold lW at h;split at h
 ·rename_i C;refine wp_region_list ?_;have:=Q6 (Q:=Q) (tail:=[]) 400 h hf λρ' a' w' d m g e=>hK ρ' a' w' d m g e;simpa using this
 ·rename_i C;rw[Wu]at h;simp only[zE]at h;obtain⟨⟨p,x,D⟩,h⟩:=h;refine wp_region_still p x ?_;have:=Vb (w:={w with drawn:=w.drawn+1}) (Q:=λa'=>Q .normal a' {w with drawn:=w.drawn+1}) (tail:=[]) 400 h D hf λρ' a' d g e=>hK ρ' a' _ d ⟨rfl,rfl,rfl,zD _⟩ g e;simpa using this
 ·rename_i n hs1 hs2;rw[Wu]at h;simp only[zE]at h;obtain⟨⟨p,x,D⟩,h⟩:=h;obtain⟨l,rfl⟩:∃l:List Oper,ops=l.toArray:=⟨ops.toList,by simp⟩;refine wp_region_still_tail n p x ?_;have:=Vb (w:={w with drawn:=w.drawn+1}) (ops:=l.toArray) (Q:=λa'=>wpList P l.toArray Q (l.drop n) a' {w with drawn:=w.drawn+1}) (tail:=[]) 400 h (by simpa using D) hf (λρ' a' d g e=>by
   have:=Q6 (Q:=Q) (tail:=[]) (w:={w with drawn:=w.drawn+1}) 400 e d λF z y s m E A=>hK F z y s (Xa.trans (b:={w with drawn:=w.drawn+1}) ⟨rfl,rfl,rfl,zD _⟩ m) (λi j v B=>?_) A
   ·simpa[wpStill]using this
   ·rw[show l.toArray.toList=l.take n++l.drop n by simp,tO]at j;simp only[qg,zL,decide_eq_false_iff_not,not_or]at j;exact E i (by simpa using j.2) v (g i (by simpa using j.1) v B))
  simpa using this
 ·rename_i sm sh;rw[Wu]at h;simp only[zE]at h;exact VN h.1.1 h.1.2 h.2 hf hK
 ·rename_i sm js sh;rw[Wu]at h;simp only[zE]at h;obtain⟨⟨p,u,G⟩,J,L,h⟩:=h;refine VN p u h hf λρ' a' w' d m g e=>?_;obtain⟨vs,B,C⟩:=Ul e;have H:=VA (C.mono L);refine hK _ a' w' (QS js (Vh d g) d B) m ?_ H;exact((V7 (sA ops) ρ).trans (Q5 (sA ops) js (ρ.dR (sA ops)) vs G)).mono λi j=>by
   simp only[zL]at j;rcases j with h|h<;>exact h
 ·exact h.elim
def fA:Code->List Nat
 | .region _ ops _=>sA ops
 | .seq a b=>fA a++fA b
 | .cond _ a b=>fA a++fA b
 | .block _ b=>fA b
 | .loop b=>fA b
 | .scope b=>fA b
 | _=>[]
def Hu:(ks:List CK)->eH ks->nV ks->(Nat->Prop)->eH ks
 | [],I,μ,p=>λh=>I h/\p (μ h)
 | c::cs,I,μ,p=>λx=>Hu cs (I x) (μ x) p
def YC (ks:List CK)(start:eH ks->Prop)(round:eH ks->eH ks):Prop:=
 ∃(I:eH ks) (μ:nV ks),start I/\∀m:Nat,eH.le ks (Hu ks I μ (· = m)) (round (Hu ks I μ (· < m)))
inductive Hn where
 | leaf
 | cS (r:RH)
 | seq (a b:Hn)
 | jT (js:Js) (a b:Hn)
 | cond (a b:Hn)
 | block (b:Hn)
 | loop (js:Js) (b:Hn)
 | scope (b:Hn)
def RI.ops:Nat->List RI
 | 0=>[]
 | n+1=>.op::RI.ops n
abbrev Hn.l:Hn:=.leaf
abbrev Hn.q (a b:Hn):Hn:=.seq a b
abbrev Hn.c (a b:Hn):Hn:=.cond a b
abbrev Hn.k (a:Hn):Hn:=.block a
def Hn.o (n:Nat):Hn:=.cS (.seq (RI.ops n))
abbrev Hn.o1:Hn:=.o 1
abbrev Hn.o2:Hn:=.o 2
abbrev Hn.aJ:Hn:=.c (.q .o2 .l) .l
abbrev Hn.aK:Hn:=.c (.q .o1 .l) .l
abbrev Hn.aL:Hn:=.q .o2 .l
abbrev Hn.aM:Hn:=.q .o1 .l
abbrev Hn.o3:Hn:=.o 3
abbrev Hn.o4:Hn:=.o 4
abbrev Hn.o5:Hn:=.o 5
abbrev Hn.o6:Hn:=.o 6
abbrev Hn.o7:Hn:=.o 7
abbrev Hn.o8:Hn:=.o 8
abbrev Hn.o9:Hn:=.o 9
abbrev Hn.gG:Hn:=.o 10
def Hn.oq (n:Nat):Hn:=.cS (.quiet (RI.ops n))
def sj (next:Env->Hp->Prop)(Q:Exit->Env->Hp->Prop):Exit->Env->Hp->Prop
 | .normal,ρ,h=>next ρ h
 | e,ρ,h=>Q e ρ h
def uT (id:Nat)(Q:Exit->Env->Hp->Prop):Exit->Env->Hp->Prop
 | .exit i,ρ,h=>match Nat.beq i id with
  | true=>Q .normal ρ h
  | false=>Q (.exit i) ρ h
 | e,ρ,h=>Q e ρ h
def ML (Q:Exit->Env->Hp->Prop):Exit->Env->Hp->Prop
 | .goto _,_,_=>False
 | e,ρ,h=>Q e ρ h
def im (P:Program)(N:Nat):Code->Hn->(Exit->Env->Hp->Prop)->Env->Hp->Prop
 | .skip,_,Q,ρ,h=>Q .normal ρ h
 | .ret,_,Q,ρ,h=>Q .ret ρ h
 | .exit id,_,Q,ρ,h=>Q (.exit id) ρ h
 | .region _ ops d,.cS r,Q,ρ,h=>lW P N r ops d ρ h λρ' h'=>Q .normal ρ' h'
 | .seq a b,.seq x y,Q,ρ,h=>im P N a x (sj (λρ' h'=>im P N b y Q ρ' h') Q) ρ h
 | .seq a b,.jT js x y,Q,ρ,h=>fJ (js.all λs=>lL (fA a) s.1)
  (Jn (lf js) (lam (lf js) λvs h'=>im P N b y Q (ia (ρ.dR (fA a)) js vs) h') λJ=>im P N a x (sj (λρ' h'=>qy js ρ' J h') Q) ρ h)
 | .cond c a b,.cond x y,Q,ρ,h=>VX ρ c λt=>If t (im P N a x Q ρ h) (im P N b y Q ρ h)
 | .block id b,.block x,Q,ρ,h=>im P N b x (uT id Q) ρ h
 | .scope b,.scope x,Q,ρ,h=>im P N b x (ML Q) ρ h
 | .label _,_,Q,ρ,h=>Q .normal ρ h
 | .loop b,.loop js x,Q,ρ,h=>fJ (js.all λs=>lL (fA b) s.1)
  (YC (lf js) (λI=>qy js ρ I h) λJ=>lam (lf js) λvs h'=>im P N b x (sj (λρ' h''=>qy js ρ' J h'') Q) (ia (ρ.dR (fA b)) js vs) h')
 | _,_,_,_,_=>False
theorem UZ:∀{ks:List CK} {I:eH ks} {μ:nV ks} {p:Nat->Prop} {vs:List Value} {h:Hp},Sat ks (Hu ks I μ p) vs h->∃n,p n/\Sat ks (Hu ks I μ (· = n)) vs h
 | [],I,μ,p,[],h,hs=>⟨μ h,hs.2,hs.1,rfl⟩
 | c::cs,I,μ,p,v::vs,h,⟨x,e,hs⟩=>by
  obtain⟨n,hp,hn⟩:=UZ (I:=I x) (μ:=μ x) hs;exact⟨n,hp,x,e,hn⟩
 | [],I,μ,p,_::_,h,hs=>hs.elim
 | _::_,I,μ,p,[],h,hs=>hs.elim
theorem Ur:∀{ks:List CK} {I:eH ks} (μ:nV ks) {vs:List Value} {h:Hp},Sat ks I vs h->∃n,Sat ks (Hu ks I μ (· = n)) vs h
 | [],I,μ,[],h,hs=>⟨μ h,hs,rfl⟩
 | c::cs,I,μ,v::vs,h,⟨x,e,hs⟩=>by
  obtain⟨n,hn⟩:=Ur (I:=I x) (μ x) hs;exact⟨n,x,e,hn⟩
 | [],I,μ,_::_,h,hs=>hs.elim
 | _::_,I,μ,[],h,hs=>hs.elim
theorem xJ {p:Nat->Prop}(h:∃n,p n):∃n,p n/\∀m,p m->n<=m:=by
 obtain⟨n,d⟩:=h
 induction n using Nat.strongRecOn with
 | _ n ih=>
  by_cases hm:∃m,m<n/\p m
  ·obtain⟨m,a,b⟩:=hm;exact ih m a b
  ·exact⟨n,d,λm b=>Nat.le_of_not_lt λa=>hm ⟨m,a,b⟩⟩
open Classical in
noncomputable def sL (p:Nat->Prop):Nat:=if h:∃n,p n then(xJ h).choose else 0
theorem GR {p:Nat->Prop}(h:∃n,p n):p (sL p):=by
 unfold sL;rw[dif_pos h];exact(xJ h).choose_spec.1
theorem BC {p:Nat->Prop}{n:Nat}(h:p n):sL p<=n:=by
 unfold sL;rw[dif_pos ⟨n,h⟩];exact(xJ ⟨n,h⟩).choose_spec.2 n h
theorem LP {P:Program}{c:Code}{Q:Exit->Act->World->Prop}{a:Act}{w:World}(I:Nat->Act->World->Prop)(h0:∃n,I n a w)
 (round:∀n a w,I n a w->c.wp P (Exit.then (λa' w'=>∃m,m<n/\I m a' w') Q) a w):(Code.loop c).wp P Q a w:=by
 refine wp_loop (λa w=>∃n,I n a w) (λa w=>sL λn=>I n a w) h0 λa w i=>?_;refine wp_mono (round _ a w (GR i)) λe a' w' d=>?_;cases e<;>try exact d
 obtain⟨m,g,b⟩:=d;exact⟨⟨m,b⟩,xg (BC b) g⟩
theorem Qc {P:Program}{N:Nat}:∀(c:Code) {x:Hn} {Q:Exit->Env->Hp->Prop} {Q':Exit->Act->World->Prop} {ρ:Env} {a:Act} {w:World},
 im P N c x Q ρ w.heap->Fits N ρ a->(∀e ρ' a' w',Fits N ρ' a'->Xa w w'->Kt (fA c) ρ ρ'->Q e ρ' w'.heap->Q' e a' w')->c.wp P Q' a w
 | .skip,x,Q,Q',ρ,a,w,h,hf,hq=>by
  have h':Q .normal ρ w.heap:=by cases x<;>exact h
  exact wp_skip (hq _ ρ a w hf (.refl _) (.refl _ _) h')
 | .ret,x,Q,Q',ρ,a,w,h,hf,hq=>by
  have h':Q .ret ρ w.heap:=by cases x<;>exact h
  exact wp_ret (hq _ ρ a w hf (.refl _) (.refl _ _) h')
 | .exit id,x,Q,Q',ρ,a,w,h,hf,hq=>by
  have h':Q (.exit id) ρ w.heap:=by cases x<;>exact h
  exact wp_exit (hq _ ρ a w hf (.refl _) (.refl _ _) h')
 | .region id ops d,x,Q,Q',ρ,a,w,h,hf,hq=>by
  cases x<;>simp only[im]at h
  exact Bh h hf λρ' a' w' b p r g=>hq _ ρ' a' w' b p r g
 | .seq c1 c2,x,Q,Q',ρ,a,w,h,hf,hq=>by
  cases x<;>simp only[im]at h
  case seq x y=>
   refine wp_seq (Qc c1 h hf λe ρ' a' w' b p r g=>?_);cases e
   case normal=>exact Qc c2 g b λe ρ'' A z j u F C=>hq e ρ'' A z j (p.trans u) (r.trans F) C
   all_goals exact hq _ ρ' a' w' b p (r.mono λi s=>kv _ s) g
  case jT js x y=>
   rw[Wu]at h;obtain⟨D,J,hJ,h⟩:=h;refine wp_seq (Qc c1 h hf λe ρ' a' w' b p r g=>?_);cases e
   case normal=>
    obtain⟨vs,K,G⟩:=Ul g;have E:=VA (G.mono hJ);have U:=QS js (Vh b r) b K;refine Qc c2 E U λe ρ'' A z j u F C=>hq e ρ'' A z j (p.trans u) ?_ C;have W:=(V7 (fA c1) ρ).trans (Q5 (fA c1) js (ρ.dR (fA c1)) vs D);exact(W.trans F).mono λi s=>by
     simp only[fA,zL]at s ⊢;rcases s with(h|h)|h
     ·exact Or.inl h
     ·exact Or.inl h
     ·exact Or.inr h
   all_goals exact hq _ ρ' a' w' b p (r.mono λi s=>kv _ s) g
 | .cond c c1 c2,x,Q,Q',ρ,a,w,h,hf,hq=>by
  cases x<;>simp only[im]at h
  obtain⟨t,V,h⟩:=Q2 h;refine wp_cond_split (hf.ev _ _ V) (λe=>?_) (λe=>?_)
  ·exact Qc c1 (h.t e) hf λe ρ' a' w' b p r g=>hq e ρ' a' w' b p (r.mono λi s=>kv _ s) g
  ·exact Qc c2 (h.f e) hf λe ρ' a' w' b p r g=>hq e ρ' a' w' b p (r.mono λi s=>mU _ s) g
 | .block id c1,x,Q,Q',ρ,a,w,h,hf,hq=>by
  cases x<;>simp only[im]at h
  refine wp_block (Qc c1 h hf λe ρ' a' w' b p r g=>?_);cases e
  case exit i=>
   simp only[uT]at g;simp only[Exit.inBlock];split at g
   ·rename_i e;have L:i=id:=zo e;rw[zC L];exact hq _ ρ' a' w' b p r g
   ·rename_i e;have L:i≠id:=λh=>by subst h;simp at e
    rw[zB L];exact hq _ ρ' a' w' b p r g
  all_goals exact hq _ ρ' a' w' b p r g
 | .loop c1,x,Q,Q',ρ,a,w,h,hf,hq=>by
  cases x<;>simp only[im]at h
  rename_i js x;rw[Wu]at h;obtain⟨D,I,μ,G,Y⟩:=h;refine LP (λn a' w'=>∃vs,Fits N (ia (ρ.dR (fA c1)) js vs) a'/\Xa w w'/\Sat (lf js) (Hu (lf js) I μ (· = n)) vs w'.heap) ?_ ?_
  ·obtain⟨vs,K,G⟩:=Ul G;obtain⟨n,M⟩:=Ur μ G;exact⟨n,vs,QS js (hf.weaken (G4 _ _)) hf K,.refl _,M⟩
  ·rintro n a' w' ⟨vs,b,p,M⟩;have:=VA (M.mono (Y n));have Z:=(V7 (fA c1) ρ).trans (Q5 (fA c1) js (ρ.dR (fA c1)) vs D);refine Qc c1 this b λe ρ'' A z j u r g=>?_;have B:Kt (fA c1) ρ ρ'':=(Z.trans r).mono λi s=>by
    simp only[zL]at s;rcases s with(h|h)|h<;>exact h
   cases e
   case normal=>
    obtain⟨R,S,E⟩:=Ul g;obtain⟨m,X,H⟩:=UZ E;exact⟨m,X,R,QS js (Vh j B) j S,p.trans u,H⟩
   all_goals exact hq _ ρ'' A z j (p.trans u) B g
 | .scope c1,x,Q,Q',ρ,a,w,h,hf,hq=>by
  cases x<;>simp only[im]at h
  refine wp_scope_straight (Qc c1 h hf λe ρ' a' w' b p r g=>?_);cases e
  case goto l=>exact g.elim
  all_goals exact hq _ ρ' a' w' b p r g
 | .label l,x,Q,Q',ρ,a,w,h,hf,hq=>by
  have h':Q .normal ρ w.heap:=by cases x<;>exact h
  exact wp_label (hq _ ρ a w hf (.refl _) (.refl _ _) h')
 | .rangeFunc ..,x,Q,Q',ρ,a,w,h,hf,hq=>(by cases x<;>simp only[im]at h)
 | .goto ..,x,Q,Q',ρ,a,w,h,hf,hq=>(by cases x<;>simp only[im]at h)
 | .refuse ..,x,Q,Q',ρ,a,w,h,hf,hq=>(by cases x<;>simp only[im]at h)
def n4 (P:Program)(r:ResultVar)(s:SK)(ρ:Env)(h:Hp)(K:List Value->Prop):Prop:=
 match r,s with
 | .tmp t,.one _=>wv (ρ t) λv=>K [v]
 | .tmp t,.agg cs=>wv (ρ t) λv=>match v with
  | .agg a=>fJ (a.size==cs.length) (K a.toList)
  | _=>False
 | .cell a t,.one c=>wv (ρ a) λv=>match v,jF P t with
  | .pointer (some ad),some (.one _)=>vE c ad h λx=>K [c.v x]
  | _,_=>False
 | .cell a t,.agg cs=>wv (ρ a) λv=>match v,jF P t with
  | .pointer (some ad),some (.agg _)=>fJ (P.cellsOf t==cs.length&&(P.info? t).isSome) (mS cs ad 0 h λvs=>K vs)
  | _,_=>False
def kU (P:Program):List ResultVar->List SK->Env->Hp->(List Value->Prop)->Prop
 | [],[],_,_,K=>K []
 | r::rs,s::ss,ρ,h,K=>n4 P r s ρ h λvs=>kU P rs ss ρ h λus=>K (vs++us)
 | _,_,_,_,_=>False
def nG (P:Program)(fn:Func)(rs:List SK)(R:eH (eM rs)):Exit->Env->Hp->Prop
 | .normal,ρ,h=>kU P fn.results.toList rs ρ h λvs=>qw (eM rs) R vs h
 | .ret,ρ,h=>kU P fn.results.toList rs ρ h λvs=>qw (eM rs) R vs h
 | _,_,_=>False
def Hr (vs:List Value):Env:=λi=>vs[i]?
def Ei (P:Program)(fn:Func)(x:Hn)(args:List Value)(rs:List SK)(R:eH (eM rs))(h:Hp):Prop:=
 match fn.body with
 | some c=>fJ (Nat.ble args.length fn.ntmps) (im P fn.ntmps c x (nG P fn rs R) (Hr args) h)
 | none=>False
def Un:SK->List Value->Value
 | .one _,[v]=>v
 | .one _,_=>undef
 | .agg _,vs=>.agg vs.toArray
def GW (tmps:Array Value):ResultVar->Sem Value
 | .tmp t=>pure (tmps.getD t undef)
 | .cell b t=>do loadVar t (←asAddr (tmps.getD b undef))
theorem Lw (fn:Func)(tmps:Array Value):results fn tmps=(do
 let vs ←fn.results.mapM (GW tmps)
 pure (if h:vs.size=1 then vs[0]else .tuple vs)):=by
 unfold results
 congr 1
theorem Ft {P:Program}{r:ResultVar}{s:SK}{ρ:Env}{K:List Value->Prop}{a:Act}{N:Nat}{w:World}(hf:Fits N ρ a)(h:n4 P r s ρ w.heap K) :
 ∃vs,vs.length=s.ks.length/\K vs/\(GW a.tmps r).run P w=.ok (Un s vs) w:=by
 unfold n4 at h;split at h
 ·rename_i t c;obtain⟨v,g,e⟩:=Wq h;refine⟨[v],rfl,e,?_⟩;simp[GW,qx,hf.at_ _ _ g,Un]
 ·rename_i t cs;obtain⟨v,g,e⟩:=Wq h;split at e
  ·rename_i ar;rw[Wu]at e;refine⟨ar.toList,by simpa[SK.ks]using e.1,e.2,?_⟩;simp[GW,qx,hf.at_ _ _ g,Un]
  ·exact e.elim
 ·rename_i b t c;obtain⟨v,g,e⟩:=Wq h;split at e
  ·rename_i ad c' hs;obtain⟨d,hd,i⟩:=A7 hs;obtain⟨x,p,e⟩:=GD e;refine⟨[c.v x],rfl,e,?_⟩;simp only[GW,qx,hf.at_ _ _ g,oB,asAddr,Sem.run_bind,Sem.run_pure,Result.andThen_ok,loadVar,Ko hd,i,Un];simpa using wU p
  ·exact e.elim
 ·rename_i b t cs;obtain⟨v,g,e⟩:=Wq h;split at e
  ·rename_i ad cs' hs;rw[Wu]at e;obtain⟨j,e⟩:=e;simp only[zE,zV]at j;obtain⟨d,hd,i⟩:=C2 hs;obtain⟨vs,m,e,u⟩:=Gx (P:=P) e;refine⟨vs,m,e,?_⟩;simp only[GW,qx,hf.at_ _ _ g,oB,asAddr,Sem.run_bind,Sem.run_pure,Result.andThen_ok,loadVar,Ko hd,i,zP,Qt j.2,loadCells,j.1,u,Un];simp
  ·exact e.elim
theorem Ce {P:Program}{ρ:Env}{a:Act}{N:Nat}{w:World}(hf:Fits N ρ a):∀{rv:List ResultVar} {rs:List SK} {K:List Value->Prop},kU P rv rs ρ w.heap K →
 ∃vs,K vs/\(rv.mapM (GW a.tmps)).run P w=.ok (oK rs vs) w
 | [],[],K,h=>⟨[],h,by simp[oK]⟩
 | r::rv,s::rs,K,h=>by
  obtain⟨v1,hl,hK,hr⟩:=Ft hf h;obtain⟨e,d,b⟩:=Ce hf hK;refine⟨v1++e,d,?_⟩;simp only[List.mapM_cons,Sem.run_bind,hr,Result.andThen_ok,b,Sem.run_pure];cases s with
  | one c=>
   match v1,hl with
   | [v],_=>simp[oK,Un]
  | agg cs=>
   simp only[SK.ks]at hl;simp only[oK,Un,←hl,List.take_left,List.drop_left]
 | [],_::_,K,h=>h.elim
 | _::_,[],K,h=>h.elim
theorem Ky {P:Program}{fn:Func}{ρ:Env}{a:Act}{N:Nat}{w:World}{rs:List SK}{K:List Value->Prop}(hf:Fits N ρ a)(h:kU P fn.results.toList rs ρ w.heap K) :
 ∃vs,K vs/\(results fn a.tmps).run P w=.ok (pack rs vs) w:=by
 obtain⟨vs,d,b⟩:=Ce hf h;refine⟨vs,d,?_⟩;rw[Lw,Array.mapM_eq_mapM_toList];simp only[Sem.run_bind,Sem.run_map,b,Result.andThen_ok,Sem.run_pure,pack];split
 ·rename_i h1
  match hp:oK rs vs,h1 with
  | [v],_=>simp
 ·rename_i h1
  match hp:oK rs vs,h1 with
  | [],_=>rfl
  | [v],h1=>simp at h1
  | _::_::_,_=>rfl
theorem R0 {a b:Prop}(f:b)(e:a=b:=by kernel_rfl):a:=e.mpr f
theorem Wa {P:Program}{f:Nat}{fn:Func}{x:Hn}{args:List Value}{rs:List SK}{R:eH (eM rs)}{h:Hp}(hfn:P.funcs[f]?=some fn)(hk:Ei P fn x args rs R h):Wc P f args.toArray rs h R:=by
 intro w hw;subst hw;unfold Ei at hk;split at hk
 case h_2=>exact hk.elim
 rename_i c hb;rw[Wu]at hk;obtain⟨j,hk⟩:=hk;have r:args.length<=fn.ntmps:=vv j;refine calls_of_wp hfn hb ?_;refine Qc c hk (ρ:=Hr args) ⟨rfl,by simp;omega,λi v b=>?_⟩ λe u A y a s z d=>?_
 ·simp only[Hr]at b;have g:i<args.length:=(cX.1 b).1;rw[uC (by simpa using g)];simpa using b
 ·cases e<;>simp only[nG]at d
  case normal=>
   obtain⟨vs,p,m⟩:=Ky a d;exact⟨a.defers,_,m,s,vs,rfl,Uh p⟩
  case ret=>
   obtain⟨vs,p,m⟩:=Ky a d;exact⟨a.defers,_,m,s,vs,rfl,Uh p⟩
theorem CD {start:eH []->Prop}{round:eH []->eH []}(I:aP)(μ:Hp->Nat)(h0:start I)
 (hr:∀h,I h->round (λh'=>I h'/\μ h'<μ h) h):YC [] start round:=
 ⟨I,μ,h0,λ_ h ⟨b,a⟩=>a▸hr h b⟩
theorem Z5 {a:CK}{start:eH [a]->Prop}{round:eH [a]->eH [a]}(I:a.T->Hp->Prop)(μ:a.T->Hp->Nat)(h0:start I)
 (hr:∀x h,I x h->round (λx' h'=>I x' h'/\μ x' h'<μ x h) x h):YC [a] start round:=
 ⟨I,μ,h0,λ_ x h ⟨d,b⟩=>b▸hr x h d⟩
theorem HD {a bb:CK}{start:eH [a,bb]->Prop}{round:eH [a,bb]->eH [a,bb]}(I:a.T->bb.T->Hp->Prop)(μ:a.T->bb.T->Hp->Nat)(h0:start I)
 (hr:∀x y h,I x y h->round (λx' y' h'=>I x' y' h'/\μ x' y' h'<μ x y h) x y h):YC [a,bb] start round:=
 ⟨I,μ,h0,λ_ x y h ⟨d,b⟩=>b▸hr x y h d⟩
theorem aG {a:Addr}{K:Addr->Prop}(h:K a):bT (some a) K:=⟨a,rfl,h⟩
theorem m9 {k:IntKind}{a:Addr}{h:Hp}{n:Int}{K:Int->Prop}(hc:cell h a=some (.int k n))(hK:K n):gP k a h K:=⟨n,hc,hK⟩
theorem mO {a:Addr}{h:Hp}{n:Bool}{K:Bool->Prop}(hc:cell h a=some (.bool n))(hK:K n):kR a h K:=⟨n,hc,hK⟩
theorem r8 {a:Addr}{h:Hp}{n:Option Addr}{K:Option Addr->Prop}(hc:cell h a=some (.pointer n))(hK:K n):fQ a h K:=⟨n,hc,hK⟩
theorem CA {a:Addr}{h:Hp}{n:Option Nat}{K:Option Nat->Prop}(hc:cell h a=some (.map n))(hK:K n):kF a h K:=⟨n,hc,hK⟩
theorem m4 {a:Addr}{h:Hp}{x:Option Addr}{n c:Nat}{K:Sl->Prop}(hc:cell h a=some (.slice x n c))(hK:K ⟨x,n,c⟩):ja a h K:=⟨⟨x,n,c⟩,hc,hK⟩
theorem V8 {e:Int}(h1 : -9223372036854775808<=e)(h2:e<=9223372036854775807):IntKind.i64.wrap e=e:=by
 unfold IntKind.wrap;simp[IntKind.bits,IntKind.signed];omega
theorem ar {e:Int}{K:Int->Prop}(h1 : -9223372036854775808<=e)(h2:e<=9223372036854775807)(hK:K e):Ar .i64 e K:=by
 unfold Ar;rw[V8 h1 h2];exact hK
theorem nz {y:Int}{A:Prop}(h:y≠0)(hA:A):Nz y A:=⟨h,hA⟩
theorem nn {y:Int}{A:Prop}(h:0<=y)(hA:A):Nn y A:=⟨h,hA⟩
theorem ix {a:Addr}{n:Nat}{i:Int}{sz:Nat}{K:Addr->Prop}(h0:0<=i)(h1:i<(n:Int))(hK:K (a.add (i.toNat*sz))):Ix (some a) n i sz K:=⟨a,rfl,h0,h1,hK⟩
theorem cY {b:Bool}{A B:Prop}(h1:b=true->A)(h2:b=false->B):If b A B:=If.mk h1 h2
theorem cR {p:Prop}[Decidable p]{A B:Prop}(h1:p->A)(h2:¬p->B):If (decide p) A B:=
 If.mk (λh=>h1 (su h)) (λh=>h2 (vV h))
theorem cB {b:Bool}{A B:Prop}(hb:b=true)(h:A):If b A B:=by subst hb;exact h
theorem cE {b:Bool}{A B:Prop}(hb:b=false)(h:B):If b A B:=by subst hb;exact h
theorem kW {p:Prop}[Decidable p]{A B:Prop}(hp:p)(h:A):If (decide p) A B:=cB (by simpa using hp) h
theorem fM {p:Prop}[Decidable p]{A B:Prop}(hp:¬p)(h:B):If (decide p) A B:=cE (by simpa using hp) h
theorem Du (a:Int)(n:Nat):a.fdiv (2^n)=a/2^n:=Int.fdiv_eq_ediv_of_nonneg _ (Int.le_of_lt (Int.pow_pos aB))
theorem Yi {a b:Int}(h:0<=a):a.tdiv b=a/b:=Int.tdiv_eq_ediv_of_nonneg h
theorem Qz {a b:Int}(h:0<=a):a.tmod b=a%b:=Int.tmod_eq_emod_of_nonneg h
def bX (h:Hp)(b:Nat)(cs:List Value):Prop:=∃e,h[b]?=some (.cells cs.toArray e (0,0))
theorem bX.lt {h:Hp}{b:Nat}{cs:List Value}(hb:bX h b cs):b<h.size:=by
 obtain⟨e,a⟩:=hb;exact(zy.1 a).1
theorem bX.cell {h:Hp}{b o:Nat}{cs:List Value}(hb:bX h b cs):cell h ⟨b,o,none⟩=cs[o]? := by
 obtain⟨e,a⟩:=hb;simp[Vc.cell,a]
theorem bX.nb {h:Hp}{b o:Nat}{cs:List Value}(hb:bX h b cs):nb h ⟨b,o,none⟩=false:=by
 obtain⟨e,a⟩:=hb;simp[Vc.nb,a]
theorem bX.set {h:Hp}{b o:Nat}{cs:List Value}(hb:bX h b cs)(v:Value):bX (jt h ⟨b,o,none⟩ v) b (cs.set o v):=by
 obtain⟨e,a⟩:=hb;refine⟨e,?_⟩;simp[jt,vW,a]
theorem Vd {h:Hp}{a:Addr}{v:Value}{b:Nat}(hne:b≠a.block):(jt h a v)[b]?=h[b]? := by
 simp only[jt,vW];rw[zB (Ne.symm hne)]
theorem add_lit (b o n:Nat):Addr.add ⟨b,o,none⟩ n=⟨b,o+n,none⟩:=Addr.add_lit b o n
def lO (h:Hp)(b:Nat)(cs:List Value):Prop:=∃e z,h[b]?=some (.cells cs.toArray e z)
theorem bX.q {h:Hp}{b:Nat}{cs:List Value}(hb:bX h b cs):lO h b cs:=by
 obtain⟨e,a⟩:=hb;exact⟨e,_,a⟩
theorem lO.lt {h:Hp}{b:Nat}{cs:List Value}(hb:lO h b cs):b<h.size:=by
 obtain⟨e,z,a⟩:=hb;exact(zy.1 a).1
theorem lO.cell {h:Hp}{b o:Nat}{cs:List Value}(hb:lO h b cs):cell h ⟨b,o,none⟩=cs[o]? := by
 obtain⟨e,z,a⟩:=hb;simp[Vc.cell,a]
def Ext (F:Nat->Prop)(h h':Hp):Prop:=h.size<=h'.size/\∀b,b<h.size->¬F b->h'[b]?=h[b]?
def bK (h h':Hp):Prop:=Ext (λ_=>False) h h'
theorem Ext.refl (F:Nat->Prop)(h:Hp):Ext F h h:=⟨zD _,λ_ _ _=>rfl⟩
theorem Ext.trans {F:Nat->Prop}{a b c:Hp}(h:Ext F a b)(k:Ext F b c):Ext F a c:=
 ⟨ky h.1 k.1,λi e d=>(k.2 i (sr e h.1) d).trans (h.2 i e d)⟩
theorem Ext.mono {F G:Nat->Prop}{a b:Hp}(h:Ext F a b)(hs:∀i,i<a.size->F i->G i):Ext G a b:=
 ⟨h.1,λi d e=>h.2 i d λg=>e (hs i d g)⟩
theorem bK.to {F:Nat->Prop}{a b:Hp}(h:bK a b):Ext F a b:=Ext.mono h λ_ _ h=>h.elim
theorem Ext.jx {F:Nat->Prop}{a b c:Hp}(h:Ext F a b)(k:bK b c):Ext F a c:=h.trans k.to
theorem Ext.size {F:Nat->Prop}{a b:Hp}(h:Ext F a b):a.size<=b.size:=h.1
theorem Ext.push (F:Nat->Prop)(h:Hp)(o:Obj):Ext F h (h.push o):=
 ⟨by simp,λb a _=>by rw[uZ,zB (tJ a)]⟩
theorem Ext.eD {F:Nat->Prop}{h h':Hp}{r:Nat}(ho:Qg h h' r)(hr:F r):Ext F h h':=
 ⟨Nat.le_of_eq ho.1.symm,λb _ a=>ho.2 b λe=>a (e▸hr)⟩
theorem Ext.jt {F:Nat->Prop}{h:Hp}{a:Addr}{v:Value}(hr:F a.block):Ext F h (jt h a v):=
 ⟨Nat.le_of_eq (KI h a v).symm,λb _ d=>Vd λe=>d (e▸hr)⟩
theorem Ext.at_ {F:Nat->Prop}{h h':Hp}(e:Ext F h h'){b:Nat}{o:Obj}(hb:h[b]?=some o)(hf:¬F b):h'[b]?=some o:=by
 rw[e.2 b (zy.1 hb).1 hf];exact hb
theorem Ext.bU {F:Nat->Prop}{h h':Hp}(e:Ext F h h'){b:Nat}{cs:List Value}(hb:bX h b cs)(hf:¬F b):bX h' b cs:=by
 obtain⟨t,a⟩:=hb;exact⟨t,e.at_ a hf⟩
theorem Ext.fK {F:Nat->Prop}{h h':Hp}(e:Ext F h h'){r:Nat}{k:IntKind}{c:CK}{l:List (Int×c.T)}(hb:dI h r k c l)(hf:¬F r):dI h' r k c l:=by
 obtain⟨g,b,d,a⟩:=hb;exact⟨g,b,e.at_ d hf,a⟩
theorem dI.lt {h:Hp}{r:Nat}{k:IntKind}{c:CK}{l:List (Int×c.T)}(hb:dI h r k c l):r<h.size:=by
 obtain⟨d,b,a,_⟩:=hb;exact(zy.1 a).1
theorem dI.nodup {h:Hp}{r:Nat}{k:IntKind}{c:CK}{l:List (Int×c.T)}(hb:dI h r k c l):(l.map (·.1)).Nodup:=by
 obtain⟨e,b,d,_,a,_⟩:=hb;exact a
theorem Wr {h h':Hp}{r b:Nat}{cs:List Value}(ho:Qg h h' r)(hb:bX h b cs)(hne:b≠r):bX h' b cs:=by
 obtain⟨t,a⟩:=hb;exact⟨t,by rw[ho.2 b hne];exact a⟩
theorem UN {h h':Hp}{r b:Nat}{k:IntKind}{c:CK}{l:List (Int×c.T)}(ho:Qg h h' r)(hb:dI h b k c l)(hne:b≠r):dI h' b k c l:=by
 obtain⟨g,d,e,a⟩:=hb;exact⟨g,d,by rw[ho.2 b hne];exact e,a⟩
end Go.Vc
namespace Go.Bu
open Go Go.Vc
theorem I5 {a b:Nat}(ha:a<9223372036854775808)(hb:b<9223372036854775808):bits .xor .i64 (a:Int) (b:Int)=((a ^^^ b:Nat):Int):=by
 have g:a ^^^ b<2^63:=Nat.xor_lt_two_pow O O;have d:(BitVec.ofInt 64 (a:Int)).toNat=a:=by
  rw[BitVec.ofInt_natCast,BitVec.toNat_ofNat];exact sk O
 have e:(BitVec.ofInt 64 (b:Int)).toNat=b:=by
  rw[BitVec.ofInt_natCast,BitVec.toNat_ofNat];exact sk O
 show IntKind.i64.wrap ((BitVec.ofInt 64 (a:Int) ^^^ BitVec.ofInt 64 (b:Int)).toNat:Int)=_;rw[BitVec.toNat_xor,d,e,V8]<;>omega
theorem iM {a b:Nat}(ha:a<9223372036854775808)(hb:b<9223372036854775808):bits .and .i64 (a:Int) (b:Int)=((a &&& b:Nat):Int):=by
 have g:a &&& b<2^63:=Nat.and_lt_two_pow _ O;have d:(BitVec.ofInt 64 (a:Int)).toNat=a:=by
  rw[BitVec.ofInt_natCast,BitVec.toNat_ofNat];exact sk O
 have e:(BitVec.ofInt 64 (b:Int)).toNat=b:=by
  rw[BitVec.ofInt_natCast,BitVec.toNat_ofNat];exact sk O
 show IntKind.i64.wrap ((BitVec.ofInt 64 (a:Int) &&& BitVec.ofInt 64 (b:Int)).toNat:Int)=_;rw[BitVec.toNat_and,d,e,V8]<;>omega
theorem Fl (q:Nat):q ^^^ 1=gM q:=by
 apply Nat.eq_of_testBit_eq;intro i;rw[Nat.testBit_xor];unfold gM;cases i with
 | zero=>
  simp only[Nat.testBit_zero];split<;>rename_i h
  ·have:(q+1)%2=1:=by omega
   simp[h,this]
  ·have b:q%2=1:=by omega
   have:(q-1)%2=0:=by omega
   simp[b,this]
 | succ i=>
  simp only[Nat.testBit_succ];have a:(1:Nat)/2=0:=by decide
  rw[a,Nat.zero_testBit,Bool.xor_false]
  congr 1
  split<;>omega
theorem N1 (q k:Nat):(q*2^k) ^^^ (2^k)=gM q*2^k:=by
 have h:=Nat.shiftLeft_xor_distrib (a:=q) (b:=1) (i:=k);rw[Fl,Nat.shiftLeft_eq,Nat.shiftLeft_eq,Nat.shiftLeft_eq,Nat.one_mul]at h;exact h.symm
theorem Cy {k:Nat}(h:k<=62):2^k<=4611686018427387904:=nZ (n:=2) aB h
def Keys (S:Nat->Bool)(k:Nat)(B:List (Int×Bool)):Prop:=
 (∀x v,(x,v)∈B->v=true/\∃q:Nat,x=((q*2^k:Nat):Int)/\can S k q=true)/\∀q,can S k q=true->(((q*2^k:Nat):Int),true)∈B
structure BH (U:Hp) (p n:Nat) (S:Nat->Bool) (sb:Nat) (ms:List Nat):Prop where
 hd:∃cap,bX U p [.int .i64 n,.slice (some ⟨sb,0,none⟩) ms.length cap]
 row:∃rest,bX U sb (ms.map (λm=>Value.map (some m))++rest)
 maps:∀k m,ms[k]?=some m->∃B:List (Int×Bool),dI U m .i64 .b B/\Keys S k B
 nd:(p::sb::ms).Nodup
 n1:1<=n
 n2:n<=1024
 lo:2^ms.length<=2*n
 hi:n<2^ms.length
 iZ:Bounded S n
def fp (p sb:Nat)(ms:List Nat)(b:Nat):Prop:=b∈p::sb::ms
variable {U h':Hp}{p n sb:Nat}{S:Nat->Bool}{ms:List Nat}
theorem BH.len (h:BH U p n S sb ms):ms.length<=11:=by
 have:=h.lo;have:=h.n2;apply Classical.byContradiction;intro hc;have:2^12<=2^ms.length:=nZ aB O;omega
theorem BH.fits (h:BH U p n S sb ms){k q:Nat}(hf:q*2^k+2^k<=n):k<ms.length:=by
 apply Classical.byContradiction;intro hc;have:2^ms.length<=2^k:=nZ aB O;have:=h.hi;omega
theorem BH.FM (h:BH U p n S sb ms):cell U ⟨p,0,none⟩=some (.int .i64 n):=by
 obtain⟨cap,a⟩:=h.hd;rw[a.cell];rfl
theorem BH.mO (h:BH U p n S sb ms):∃cap,cell U ⟨p,1,none⟩=some (.slice (some ⟨sb,0,none⟩) ms.length cap):=by
 obtain⟨cap,a⟩:=h.hd;exact⟨cap,by rw[a.cell];rfl⟩
theorem BH.Ih (h:BH U p n S sb ms){k m:Nat}(hm:ms[k]?=some m):cell U ⟨sb,k,none⟩=some (.map (some m)):=by
 obtain⟨a,b⟩:=h.row;rw[b.cell,zg (by simpa using(cX.1 hm).1),zd,hm];rfl
theorem BH.get (h:BH U p n S sb ms){k:Nat}(hk:k<ms.length):∃m,ms[k]?=some m:=⟨ms[k],by simp[hk]⟩
theorem BH.bS (h:BH U p n S sb ms){F:Nat->Prop}(e:Ext F U h')(hF:∀b,fp p sb ms b->¬F b):BH h' p n S sb ms where
 hd:=by obtain⟨cap,d⟩:=h.hd;exact⟨cap,e.bU d (hF _ (by simp[fp]))⟩
 row:=by obtain⟨a,d⟩:=h.row;exact⟨a,e.bU d (hF _ (by simp[fp]))⟩
 maps:=λk m g=>by
  obtain⟨B,j,i⟩:=h.maps k m g;exact⟨B,e.fK j (hF _ (by simp[fp,zG g])),i⟩
 nd:=h.nd
 n1:=h.n1
 n2:=h.n2
 lo:=h.lo
 hi:=h.hi
 iZ:=h.iZ
theorem BH.bO (h:BH U p n S sb ms)(e:bK U h'):BH h' p n S sb ms:=h.bS e λ_ _=>id
theorem I6 {k:Nat}{B:List (Int×Bool)}(hK:Keys S k B)(hn:(B.map (·.1)).Nodup)(q:Nat):bY B ((q*2^k:Nat):Int)=if can S k q then some true else none:=by
 unfold bY;cases hf:B.find? λx=>x.1==((q*2^k:Nat):Int)with
 | some x=>
  have m:=rH hf;have a:=rR hf;obtain⟨g,p⟩:=x;obtain⟨i,j,e,b⟩:=hK.1 g p a;have d:g=((q*2^k:Nat):Int):=by simpa using m
  rw[d]at e;have:q*2^k=j*2^k:=by exact_mod_cast e
  have:=uV (ka k) this;subst this;subst i;simp[b]
 | none=>
  rw[oM]at hf;by_cases b:can S k q=true
  ·have:=hf _ (hK.2 q b);simp at this
  ·simp[b]
theorem BH.lk (h:BH U p n S sb ms){k m q:Nat}(hm:ms[k]?=some m){x:Int}(hx:x=((q*2^k:Nat):Int)){K:Option Bool->Prop}
 (hK:K (if can S k q then some true else none)):Lk .i64 .b (some m) x U K:=by
 obtain⟨B,a,d⟩:=h.maps k m hm;exact⟨B,a,by rw[hx,I6 d a.nodup];exact hK⟩
theorem DC {k:Nat}{B:List (Int×Bool)}(hK:Keys S k B)(hn:(B.map (·.1)).Nodup)(hb:Bounded S n):B.length=many n S k:=by
 have j:(B.map (·.1)).Perm (((List.range n).filter (can S k)).map λq=>((q*2^k:Nat):Int)):=by
  rw[yR hn]
  ·intro x;simp only[zF,zI,zh];constructor
   ·rintro⟨⟨x1,x2⟩,hm,rfl⟩;obtain⟨_,q,m,d⟩:=hK.1 x1 x2 hm;refine⟨q,⟨?_,d⟩,m.symm⟩;have:=Zx hb (Zn.1 d).1;have p:=ka k;have r:q<=q*2^k:=Nat.le_mul_of_pos_right _ p;omega
   ·rintro⟨q,⟨_,d⟩,rfl⟩;exact⟨_,hK.2 q d,rfl⟩
  ·have e:((List.range n).filter (can S k)).Pairwise (· ≠ ·):=List.Pairwise.sublist qU List.nodup_range;refine List.Pairwise.map _ (λa b (g:a≠b) i=>g ?_) e;have:a*2^k=b*2^k:=by exact_mod_cast i
   exact uV (ka k) this
 have:=j.length_eq;simp only[zl]at this;rw[this,many,vp]
theorem BH.kD (h:BH U p n S sb ms){k m:Nat}(hm:ms[k]?=some m){K:Int->Prop}(hK:K ((many n S k:Nat):Int)):pa .i64 .b (some m) U K:=by
 obtain⟨B,a,d⟩:=h.maps k m hm;exact⟨B,a,by rw[DC d a.nodup h.iZ];exact hK⟩
theorem BH.nA (h:BH U p n S sb ms){k m:Nat}{T:Nat->Bool}(hm:ms[k]?=some m)(ho:Qg U h' m){B':List (Int×Bool)}(hB':dI h' m .i64 .b B')(hK':Keys T k B')
 (hoth:∀j q,j≠k->can T j q=can S j q) (hT:Bounded T n):BH h' p n T sb ms where
 hd:=by
  obtain⟨cap,s⟩:=h.hd;refine⟨cap,Wr ho s ?_⟩;have:=h.nd;simp only[zt,zX,not_or]at this;rintro rfl;exact this.1.2 (zG hm)
 row:=by
  obtain⟨i,s⟩:=h.row;refine⟨i,Wr ho s ?_⟩;have:=h.nd;simp only[zt,zX,not_or]at this;rintro rfl;exact this.2.1 (zG hm)
 maps:=λj w a=>by
  by_cases e:j=k
  ·subst e;rw[hm]at a;cases a;exact⟨B',hB',hK'⟩
  ·obtain⟨B,u,d⟩:=h.maps j w a;refine⟨B,UN ho u ?_,?_⟩
   ·rintro rfl;have g:=h.nd;simp only[zt]at g;exact e ((List.getElem?_inj (cX.1 a).1 g.2.2).1 (a.trans hm.symm))
   ·refine⟨λx v z=>?_,λq A=>d.2 q (by rw[←hoth j q e];exact A)⟩;obtain⟨y,q,r,C⟩:=d.1 x v z;exact⟨y,q,r,by rw[hoth j q e];exact C⟩
 nd:=h.nd
 n1:=h.n1
 n2:=h.n2
 lo:=h.lo
 hi:=h.hi
 iZ:=hT
theorem JF (hb:Bounded S n)(k q:Nat):Bounded (del S k q) n:=λx a=>hb x (KY.1 a).1
theorem DK (hb:Bounded S n){k q:Nat}(hf:q*2^k+2^k<=n):Bounded (ins S k q) n:=λx a=>by
 rcases KW.1 a with h|h
 ·exact hb x h
 ·have:=ZT.1 h;omega
theorem DG {a b:Bool}(h:a=true↔b=true):a=b:=by cases a<;>cases b<;>simp_all
theorem BH.qh (h:BH U p n S sb ms){k m q:Nat}(hm:ms[k]?=some m)(hc:can S k q=true){x:Int}(hx:x=((q*2^k:Nat):Int)){K:aP}
 (hK:∀h',Ext (· ∈ ms) U h'->BH h' p n (del S k q) sb ms->K h'):kY .i64 .b (some m) x U K:=by
 obtain⟨B,z,u⟩:=h.maps k m hm;refine⟨B,z,λh' w _ s=>hK h' (Ext.eD (w m rfl) (zG hm)) ?_⟩;refine h.nA hm (w m rfl) s ⟨λy v g=>?_,λr C=>?_⟩ (λj r D=>DG ?_) (JF h.iZ k q)
 ·simp only[di,zI,lx,lM]at g;obtain⟨A,r,d,i⟩:=u.1 y v g.1;refine⟨A,r,d,(xm hc).2 ⟨i,λe=>g.2 ?_⟩⟩;rw[d,hx,e.2]
 ·have a:=(xm hc).1 C;simp only[di,zI,lx,lM];refine⟨u.2 r a.1,λe=>a.2 ⟨rfl,?_⟩⟩;rw[hx]at e;have:r*2^k=q*2^k:=by exact_mod_cast e
  exact uV (ka k) this
 ·rw[xm hc];exact⟨λh=>h.1,λh=>⟨h,λe=>D e.1⟩⟩
theorem BH.tC (h:BH U p n S sb ms){k m q:Nat}(hm:ms[k]?=some m)(hd:∀y,y/2^k=q->S y=false)(hup:¬full (ins S k q) (k+1) (q/2)=true)(hf:q*2^k+2^k<=n)
 {x:Int} (hx:x=((q*2^k:Nat):Int)) {K:aP} (hK:∀h',Ext (· ∈ ms) U h'->BH h' p n (ins S k q) sb ms->K h'):j2 .i64 .b (some m) x true U K:=by
 obtain⟨B,C,w⟩:=h.maps k m hm;refine⟨m,B,rfl,C,λh' A z=>hK h' (Ext.eD A (zG hm)) ?_⟩;have i:∀y∈B,(y.1==x)=false:=by
  rintro⟨y,v⟩ d;obtain⟨_,r,a,g⟩:=w.1 y v d;simp only[lM];rintro rfl;rw[hx]at a;have:q*2^k=r*2^k:=by exact_mod_cast a
  have:=uV (ka k) this;subst this;have u:=Vp g (Kb k q);rw[hd _ (Kb k q)]at u;cases u
 have s:dG B x true=B++[(x,true)]:=by
  unfold dG;rw[zB];simp only[oT,lN];intro y d;simp[i y d]
 refine h.nA hm A z ?_ (λj r F=>DG ?_) (DK h.iZ hf)
 ·rw[s];refine⟨λy v d=>?_,λr E=>?_⟩
  ·simp only[zL,zR,Prod.mk.injEq]at d;rcases d with d|⟨rfl,rfl⟩
   ·obtain⟨D,r,a,g⟩:=w.1 y v d;exact⟨D,r,a,(wz hd hup).2 (.inl g)⟩
   ·exact⟨rfl,q,hx,(wz hd hup).2 (.inr ⟨rfl,rfl⟩)⟩
  ·rcases(wz hd hup).1 E with u|⟨_,rfl⟩
   ·exact kv _ (w.2 r u)
   ·rw[hx];exact mU _ aA
 ·rw[wz hd hup];exact⟨λh=>h.elim id λe=>(F e.1).elim,.inl⟩
end Go.Bu
namespace Go.Vc
open Go
theorem Vu {b o:Nat}:∀{vs:List Value} {h:Hp} {cs:List Value} {i:Nat} {K:aP},bX h b cs->o+i+vs.length<=cs.length →
 (∀h',Qg h h' b->bX h' b (cs.take (o+i)++vs++cs.drop (o+i+vs.length))->K h')->oH ⟨b,o,none⟩ h vs i K
 | [],h,cs,i,K,hb,hl,hK=>hK h ⟨rfl,λ_ _=>rfl⟩ (by simpa using hb)
 | v::vs,h,cs,i,K,hb,hl,hK=>by
  simp only[zW]at hl;refine⟨?_,?_,?_⟩
  ·rw[add_lit,hb.cell,cW O];rfl
  ·rw[add_lit];exact hb.nb
  ·rw[add_lit];have hb':=hb.set (o:=o+i) v;refine Vu hb' aE λh' g a=>hK h' ?_ ?_
   ·exact⟨g.1.trans (KI _ _ _),λc d=>(g.2 c d).trans (Vd d)⟩
   ·have e:(cs.set (o+i) v).take (o+(i+1))++vs++(cs.set (o+i) v).drop (o+(i+1)+vs.length)=cs.take (o+i)++v::vs++cs.drop (o+i+(v::vs).length):=by
     rw[List.drop_set_of_lt O,show o+(i+1)=(o+i)+1 by omega,lj,List.take_set_of_le O,zJ O];simp only[Option.toList_some,jW,List.singleton_append,kG,r5,zW]
     congr 4
     omega
    rw[e]at a;exact a
def Own (Q:Nat->Prop)(h:Hp)(s:Sl)(sz:Nat)(xs:List Value):Prop:=
 xs.length=s.len*sz/\(s.a=none/\s.len=0/\s.cap=0\/∃b cs,Q b/\s.a=some ⟨b,0,none⟩/\bX h b cs/\s.len<=s.cap/\cs.length=s.cap*sz/\cs.take xs.length=xs)
def UI (s:Sl)(b:Nat):Prop:=∃o,s.a=some ⟨b,o,none⟩
theorem Own.nil (Q:Nat->Prop)(h:Hp)(sz:Nat):Own Q h ⟨none,0,0⟩ sz []:=⟨by simp,.inl ⟨rfl,rfl,rfl⟩⟩
theorem Own.bS {Q F:Nat->Prop}{h h':Hp}{s:Sl}{sz:Nat}{xs:List Value}(ho:Own Q h s sz xs)(e:Ext F h h')(hF:∀b,Q b->b<h.size->¬F b):Own Q h' s sz xs:=by
 refine⟨ho.1,ho.2.imp id ?_⟩;rintro⟨b,cs,hq,ha,hb,r⟩;exact⟨b,cs,hq,ha,e.bU hb (hF b hq hb.lt),r⟩
theorem Own.bO {Q:Nat->Prop}{h h':Hp}{s:Sl}{sz:Nat}{xs:List Value}(ho:Own Q h s sz xs)(e:bK h h'):Own Q h' s sz xs:=ho.bS e λ_ _ _ h=>h
theorem Own.mono {Q Q':Nat->Prop}{h:Hp}{s:Sl}{sz:Nat}{xs:List Value}(ho:Own Q h s sz xs)(hq:∀b,b<h.size->Q b->Q' b):Own Q' h s sz xs:=by
 refine⟨ho.1,ho.2.imp id ?_⟩;rintro⟨b,cs,hQ,ha,hb,r⟩;exact⟨b,cs,hq b hb.lt hQ,ha,hb,r⟩
theorem Own.iY {Q:Nat->Prop}{h:Hp}{s:Sl}{sz:Nat}{xs:List Value}(ho:Own Q h s sz xs){b:Nat}(hb:UI s b):Q b/\b<h.size:=by
 obtain⟨o,a⟩:=hb;rcases ho.2 with⟨ha,_⟩|⟨b',cs,hq,ha,hk,_⟩
 ·rw[ha]at a;cases a
 ·rw[ha]at a;cases a;exact⟨hq,hk.lt⟩
theorem Own.rd {Q:Nat->Prop}{h:Hp}{s:Sl}{sz:Nat}{xs:List Value}(ho:Own Q h s sz xs):Rd h s.a xs:=by
 rcases ho.2 with⟨ha,hl,_⟩|⟨b,cs,_,ha,hb,_,_,ht⟩
 ·rw[ha];have:=ho.1;rw[hl]at this;simp at this;exact this
 ·rw[ha];intro j v hv;rw[add_lit,hb.cell,zH];rw[←ht,zj]at hv;split at hv
  ·exact hv
  ·cases hv
theorem Own.cell {Q:Nat->Prop}{h:Hp}{s:Sl}{sz:Nat}{xs:List Value}(ho:Own Q h s sz xs){j:Nat}{v:Value}(hv:xs[j]?=some v):∃b,s.a=some ⟨b,0,none⟩/\Vc.cell h ⟨b,j,none⟩=some v:=by
 rcases ho.2 with⟨ha,hl,_⟩|⟨b,cs,_,ha,hb,_,_,ht⟩
 ·have:=ho.1;rw[hl]at this;simp at this;subst this;simp at hv
 ·refine⟨b,ha,?_⟩;rw[hb.cell];rw[←ht,zj]at hv;split at hv
  ·exact hv
  ·cases hv
theorem Own.app {Q:Nat->Prop}{h:Hp}{s x:Sl}{sz bytes e:Nat}{zs xs ys:List Value}{K:Sl->Hp->Prop}(ho:Own Q h s sz xs)(hq:∀b,h.size<=b->Q b)(hz:zs.length=sz)
 (hy:ys.length=x.len*sz) (hr:Rd h x.a ys) (h1:∀v∈ys,dV v=true) (hb:(s.len+x.len)*bytes<=2^46) (hc:s.len+x.len<=2^62)
 (hx:0<x.len) (hK:∀s' h',s'.len=s.len+x.len->Ext (UI s) h h'->Own Q h' s' sz (xs++ys)->s'.a≠none->K s' h'):App s sz bytes e zs x h K:=by
 refine⟨xs,ys,ho.1,hy,ho.rd,hr,h1,hb,hc,λg=>?_,λp c i=>?_⟩
 ·rcases ho.2 with⟨ha,hl,hcap⟩|⟨b,cs,hQ,ha,hk,hle,hcl,ht⟩
  ·omega
  ·rw[ha];simp only;rw[add_lit];have r:(s.len+x.len)*sz<=s.cap*sz:=lq _ g;rw[zk]at r;have d:=ho.1;refine Vu hk O λh' j m=>hK _ h' rfl (Ext.eD j ⟨0,ha⟩) ⟨?_,.inr ⟨b,_,hQ,rfl,m,g,?_,?_⟩⟩ aA
   ·simp[d,hy,zk]
   ·simp;omega
   ·rw[zQ,d];rw[zH,zz,←d];rw[ht,nt aA,mi aA]
 ·refine hK _ _ rfl (Ext.push _ _ _) ⟨by simp[ho.1,hy,zk],.inr ⟨h.size,xs++ys++(List.replicate (c-(s.len+x.len)) zs).flatten,hq _ (zD _),rfl,⟨e,by simp⟩,i,?_,?_⟩⟩ aA
  ·simp only[zQ,tG,sv,vd,ho.1,hy,hz,←zk]
   congr 1;omega
  ·rw[nt aA,mi aA]
theorem NN {h:Hp}{v:Value}{e:Nat}:Rd (h.push (.cells #[v] e (0,0))) (some ⟨h.size,0,none⟩) [v]:=by
 intro j u hu;rw[add_lit];cases j with
 | zero=>simp at hu;subst hu;simp[Vc.cell]
 | succ j=>simp at hu
theorem bX.OV {h:Hp}{b o:Nat}{cs:List Value}(hb:bX h b cs){v:Value}(ho:o<cs.length){K:aP}(hK:∀h',Qg h h' b->bX h' b (cs.set o v)->K h'):eP (Addr.add ⟨b,0,none⟩ o) v h K:=by
 rw[add_lit,zH];refine⟨?_,hb.nb,hK _ ⟨KI _ _ _,λc a=>Vd a⟩ (hb.set v)⟩;rw[hb.cell,cW ho];rfl
theorem bX.push (h:Hp)(cs:List Value)(e:Nat):bX (h.push (.cells cs.toArray e (0,0))) h.size cs:=⟨e,by simp⟩
theorem dI.push (h:Hp)(k:IntKind)(c:CK):dI (h.push (.map #[] 0)) h.size k c []:=⟨#[],0,by simp,by simp,by simp,by simp,by simp⟩
theorem Ext.only {F:Nat->Prop}{a b c:Hp}{r:Nat}(e:Ext F a b)(ho:Qg b c r)(hr:F r\/a.size<=r):Ext F a c:=
 ⟨by rw[ho.1];exact e.1,λi g d=>by
  rw[ho.2 i ?_];exact e.2 i g d;rintro rfl;rcases hr with h|h
  ·exact d h
  ·omega⟩
theorem Ext.fresh {a b c:Hp}{F:Nat->Prop}(e:bK a b)(k:Ext F b c)(hF:∀i,F i->a.size<=i):bK a c:=
 ⟨ky e.1 k.1,λi d _=>(k.2 i (sr d e.1) λg=>by have:=hF i g;omega).trans (e.2 i d id)⟩
theorem Own.st {Q:Nat->Prop}{h:Hp}{s:Sl}{sz:Nat}{xs:List Value}(ho:Own Q h s sz xs){j:Nat}(hj:j<xs.length){v:Value}{K:aP}{a:Addr}(ha:∀b,s.a=some ⟨b,0,none⟩->a=⟨b,j,none⟩)
 (hK:∀h',Ext (UI s) h h'->Own Q h' s sz (xs.set j v)->K h'):eP a v h K:=by
 rcases ho.2 with⟨h1,hl,_⟩|⟨b,cs,hq,hsa,hb,hle,hcl,ht⟩
 ·have:=ho.1;rw[hl]at this;simp at this;subst this;simp at hj
 ·rw[ha b hsa];have d:j<cs.length:=by
   have:(cs.take xs.length).length=xs.length:=by rw[ht]
   rw[zZ]at this;omega
  refine⟨by rw[hb.cell,cW d];rfl,hb.nb,hK _ (Ext.jt (F:=UI s) ⟨0,hsa⟩) ⟨by simp[ho.1],.inr ⟨b,_,hq,hsa,hb.set v,hle,by simp[hcl],?_⟩⟩⟩;rw[nk,List.take_set,ht]
end Go.Vc