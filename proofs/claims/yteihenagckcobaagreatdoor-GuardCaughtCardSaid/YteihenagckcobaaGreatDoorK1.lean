/- Texts joined. -/
import Init
import Derived.WalkKit
import Derived.WalkLawsBesides
import Derived.WalkSpells
import Derived.ChangeKeysEq
import Derived.StillTail
import Derived.OrdersHeld
import Derived.Scope
set_option linter.unusedVariables false
set_option linter.unusedSimpArgs false
abbrev zB:=@if_neg
abbrev zC:=@if_pos
abbrev zD:=@Nat.le_refl
abbrev zE:=@List.mem_map
abbrev zF:=@Bool.and_eq_true
abbrev zG:=@List.mem_of_getElem?
abbrev zH:=@Nat.zero_add
abbrev zI:=@List.mem_filter
abbrev zJ:=@decide_eq_true
abbrev zK:=@List.mem_append
abbrev zL:=@List.mem_singleton
abbrev zM:=@List.getElem?_set_self
abbrev zN:=@decide_eq_false
abbrev zO:=@List.length_append
abbrev zP:=@List.getD_eq_getElem?_getD
abbrev zQ:=@List.getElem?_of_mem
abbrev zR:=@List.map_cons
abbrev zS:=@if_true
abbrev zT:=@beq_iff_eq
abbrev zU:=@decide_eq_true_eq
abbrev zV:=@List.mem_cons
abbrev zW:=@List.getElem?_eq_none
abbrev zX:=@List.length_cons
abbrev zY:=@Nat.le_trans
abbrev zZ:=@Option.map_some
abbrev za:=@List.length_take
abbrev zc:=@Int.eq_ofNat_of_zero_le
abbrev zd:=@List.mem_range
abbrev ze:=@Bool.false_eq_true
abbrev zg:=@List.getElem?_map
abbrev zh:=@List.getElem?_append_left
abbrev zj:=@List.getElem?_set_ne
abbrev zk:=@List.getElem?_take
abbrev zl:=@List.length_map
abbrev zm:=@Nat.add_mul
abbrev zo:=@List.nodup_cons
abbrev zp:=@List.getElem_mem
abbrev zr:=@List.ext_getElem?
abbrev zt:=@List.getElem?_append_right
abbrev zy:=@List.map_append
abbrev zz:=@Array.getElem?_eq_some_iff
abbrev jL:=@List.append_assoc
abbrev jQ:=@Nat.eq_of_beq_eq_true
abbrev j8:=@if_false
abbrev ke:=@List.all_eq_true
abbrev kh:=@List.map_congr_left
abbrev kf:=@List.any_eq_true
abbrev j9:=@Nat.add_zero
abbrev ka:=@List.length_drop
abbrev kE:=@Nat.lt_or_ge
abbrev kI:=@List.append_nil
abbrev kr:=@List.mem_append_left
abbrev kJ:=@Nat.two_pow_pos
abbrev kN:=@List.take_add_one
abbrev kS:=@Nat.mul_le_mul_right
abbrev kY:=@List.getElem?_drop
abbrev k6:=@List.pairwise_iff_getElem
abbrev lx:=@List.map_map
abbrev lu:=@List.cons_append
abbrev lz:=@List.length_nil
abbrev l0:=@List.take_length
abbrev l9:=@Bool.eq_iff_iff
abbrev l5:=@Nat.mul_le_mul
abbrev l6:=@beq_eq_false_iff_ne
abbrev mH:=@List.getElem?_replicate
abbrev mj:=@Nat.pow_succ
abbrev mq:=@Bool.not_eq_true'
abbrev mg:=@List.any_eq_false
abbrev mC:=@List.mem_cons_of_mem
abbrev m7:=@List.getElem?_set
abbrev mW:=@List.take_of_length_le
abbrev mU:=@Nat.zero_lt_one
abbrev nm:=@List.findIdx?_eq_some_iff_getElem
abbrev ns:=@List.length_set
abbrev ni:=@Nat.mul_one
abbrev nC:=@List.nodup_append
abbrev nG:=@Bool.or_eq_true
abbrev nM:=@List.getElem?_range
abbrev nJ:=@List.flatMap_cons
abbrev nf:=@List.sum_cons
abbrev nH:=@List.set_set
abbrev nk:=@Bool.eq_false_iff
abbrev oc:=@List.take_append_drop
abbrev nS:=@List.mem_append_right
abbrev nQ:=@List.find?_eq_none
abbrev oh:=@List.mem_cons_self
abbrev oT:=@Option.map_eq_some_iff
abbrev oF:=@Nat.pow_le_pow_right
abbrev po:=@List.take_append_of_le_length
abbrev pf:=@List.pairwise_map
abbrev ox:=@List.range_succ
abbrev pR:=@Nat.lt_trichotomy
abbrev qi:=@Option.isSome_iff_exists
abbrev pX:=@List.map_nil
abbrev pY:=@List.pairwise_append
abbrev qg:=@List.filter_eq_self
abbrev pZ:=@Option.getD_some
abbrev pU:=@Nat.min_eq_left
abbrev qe:=@List.length_pos_iff
abbrev qY:=@Nat.le_of_lt
abbrev qW:=@List.foldl_cons
abbrev qn:=@Bool.not_eq_true
abbrev qA:=@Bool.true_and
abbrev qD:=@Nat.sub_self
abbrev rF:=@List.getElem_map
abbrev sg:=@Array.getD_eq_getD_getElem?
abbrev r8:=@List.contains_eq_mem
abbrev rZ:=@List.set_cons_succ
abbrev r5:=@List.pairwise_cons
abbrev rh:=@List.length_filter_le
abbrev rY:=@Option.map_eq_none_iff
abbrev rO:=@of_decide_eq_true
abbrev sD:=@Nat.div_div_eq_div_mul
abbrev uf:=@List.getElem?_modify
abbrev sP:=@List.filter_cons
abbrev tU:=@List.filter_sublist
abbrev tH:=@Bool.and_false
abbrev sC:=@List.mem_of_mem_drop
abbrev td:=@Array.getElem?_append_left
abbrev sL:=@List.find?_some
abbrev uc:=@List.mem_of_find?_eq_some
abbrev tW:=@List.nil_append
abbrev sr:=@List.filter_cons_of_neg
abbrev tG:=@List.filter_cons_of_pos
abbrev sx:=@List.nodup_nil
abbrev tI:=@true_and
abbrev uP:=@Nat.mod_lt
abbrev uT:=@List.find?_cons
abbrev vj:=@List.all_cons
abbrev uM:=@List.map_id
abbrev uh:=@List.findIdx?_eq_none_iff
abbrev uj:=@Nat.mod_eq_of_lt
abbrev ux:=@Nat.mul_eq_zero
abbrev uW:=@Nat.zero_mul
abbrev vo:=@List.getElem_of_mem
abbrev ur:=@List.filter_congr
abbrev u6:=@Bool.and_true
abbrev vn:=@List.mem_of_mem_take
abbrev ui:=@Array.getElem?_modify
abbrev uG:=@Nat.lt_of_lt_of_le
abbrev uH:=@List.map_replicate
abbrev ve:=@Bool.decide_and
abbrev uz:=@Bool.false_and
abbrev uw:=@List.take_succ_cons
abbrev uB:=@List.filter_append
abbrev wZ:=@Int.le_refl
abbrev vQ:=@List.findIdx?_cons
abbrev vW:=@Array.getElem?_toList
abbrev wc:=@List.flatten_cons
abbrev xf:=@Nat.mul_assoc
abbrev wG:=@Array.getElem?_push
abbrev wV:=@Nat.ne_of_lt
abbrev vC:=@Array.length_toList
abbrev vV:=@List.filterMap_append
abbrev wy:=@List.mem_filterMap
abbrev wD:=@Bool.not_false
abbrev wT:=@Nat.eq_of_mul_eq_mul_right
abbrev xq:=@List.length_flatten
abbrev xd:=@List.sum_replicate_nat
abbrev wh:=@List.drop_eq_getElem_cons
abbrev vv:=@Nat.add_assoc
abbrev vz:=@List.replicate_succ
abbrev xe:=@List.map_set
abbrev vI:=@List.countP_cons
abbrev xm:=@List.length_eq_zero_iff
abbrev vS:=@List.filter_map
abbrev wU:=@List.foldl_append
abbrev vH:=@List.count_append
abbrev vY:=@of_decide_eq_false
abbrev yw:=@Nat.div_mul_le_self
abbrev yW:=@List.map_eq_nil_iff
abbrev yr:=@Array.mem_of_getElem?
abbrev yg:=@Array.getElem?_setIfInBounds_ne
abbrev xB:=@List.mem_map_of_mem
abbrev xC:=@List.mem_replicate
abbrev xU:=@Nat.le_of_ble_eq_true
abbrev xI:=@Array.isEmpty_iff
abbrev yD:=@List.contains_iff_mem
abbrev xY:=@Bool.false_or
abbrev xX:=@List.perm_ext_iff_of_nodup
abbrev xH:=@List.countP_eq_length_filter
abbrev xS:=@Option.toList_some
abbrev xL:=@List.length_range
abbrev yN:=@List.count_replicate
abbrev ym:=@List.take_take
abbrev xF:=@List.take_left'
abbrev y5:=@List.drop_succ_cons
abbrev yz:=@List.flatMap_append
abbrev yO:=@List.dropLast_eq_take
abbrev yY:=@List.mem_or_eq_of_mem_set
abbrev xJ:=@List.take_zero
abbrev xM:=@List.getElem?_cons_zero
abbrev xV:=@List.count_eq_zero
abbrev xG:=@List.size_toArray
abbrev yB:=@Array.size_append
abbrev xR:=@Int.dvd_of_emod_eq_zero
abbrev BY:=@Nat.mul_div_cancel
abbrev Aj:=@Array.toList_modify
abbrev Cj:=@Array.toList_eraseIdxIfInBounds
abbrev Cc:=@List.replicate_succ'
abbrev AX:=@List.filter_filter
abbrev B6:=@List.filterMap_cons
abbrev Ah:=@Nat.lt_of_le_of_lt
abbrev Au:=@Nat.eq_zero_or_pos
abbrev A8:=@List.length_dropLast
abbrev AM:=@List.getElem?_cons_succ
abbrev A9:=@List.eq_nil_of_length_eq_zero
abbrev Ac:=@Nat.add_sub_cancel_left
abbrev AO:=@List.take_sublist
abbrev Aa:=@List.find?_isSome
abbrev zx:=@List.eq_of_mem_replicate
abbrev Bg:=@List.length_filter_lt_length_iff_exists
abbrev Am:=@List.length_singleton
abbrev CI:=@List.getElem?_zipWith
abbrev BE:=@List.nodup_iff_count
abbrev AG:=@List.count_pos_iff
abbrev Ay:=@List.count_singleton_self
abbrev CA:=@Int.emod_lt_of_pos
abbrev B1:=@List.mergeSort_perm
abbrev BO:=@List.filter_eq_nil_iff
theorem cX {α:Type _}{l:List α}{i:Nat}{a:α}:l[i]?=some a↔∃h:i<l.length,l[i]=a:=List.getElem?_eq_some_iff
theorem cU {α:Type _}{l:List α}{i:Nat}(h:i<l.length):l[i]?=some l[i]:=List.getElem?_eq_getElem h
theorem dD (n:Nat):(n:Int).toNat=n:=Int.toNat_natCast n
theorem O{p:Prop}(h:p:=by omega):p:=h
theorem aA{p:Prop}(h:p:=by simp):p:=h
theorem aB{p:Prop}(h:p:=by decide):p:=h
theorem aC{p:Prop}(h:p:=by simp only;omega):p:=h
theorem aD{p:Prop}(h:p:=by first|omega | (simp only;omega)):p:=h
theorem aE{p:Prop}(h:p:=by simp;omega):p:=h
abbrev aW(b:Nat):Option Go.Addr:=some ⟨b,0,none⟩
namespace Go.Ar
structure bZ where
 size:Nat
 aF:Nat
 batch:Nat
 deriving DecidableEq
def bZ.n (c:bZ):Nat:=c.aF*256/c.size
def Us (x y z:Int):Bool:=decide (8<=x)&&(decide (x<=512)&&(decide (x%8=0)&&(decide (1<=y)&&(decide (y<=4)&&(decide (x<=y*256)&&(decide (1<=z)&&decide (z<=32)))))))
def bZ.ok (c:bZ):Prop:=8<=c.size/\c.size<=512/\c.size%8=0/\1<=c.aF/\c.aF<=4/\c.size<=c.aF*256/\1<=c.batch/\c.batch<=32
theorem HA (x y z:Int):Us x y z=true↔8<=x/\x<=512/\x%8=0/\1<=y/\y<=4/\x<=y*256/\1<=z/\z<=32:=by simp[Us]
theorem C1 (c:bZ):Us c.size c.aF c.batch=true↔c.ok:=by
 rw[HA];unfold bZ.ok;omega
def Z9 (t:Int×Int×Int):bZ:=⟨t.1.toNat,t.2.1.toNat,t.2.2.toNat⟩
theorem GU {x y z:Int}(h:Us x y z=true):∃c:bZ,c.ok/\Z9 (x,y,z)=c/\x=c.size/\y=c.aF/\z=c.batch:=by
 rw[HA]at h;refine⟨Z9 (x,y,z),?_,rfl,?_,?_,?_⟩<;>simp only[Z9,bZ.ok]<;>omega
def uD:List (Int×Int×Int)->Bool
 | x::y::l=>decide (x.1<y.1)&&uD (y::l)
 | _=>true
def Qp (xs:List (Int×Int×Int)):Bool:=decide (1<=xs.length)&&(decide (xs.length<=40)&&(xs.all (λt=>Us t.1 t.2.1 t.2.2)&&uD xs))
theorem bZ.ok.rU {c:bZ}(h:c.ok):1<=c.n:=by
 unfold bZ.ok at h;exact(Nat.one_le_div_iff O).2 h.2.2.2.2.2.1
theorem bZ.ok.kB {c:bZ}(h:c.ok):c.n<=128:=by
 unfold bZ.ok at h;unfold bZ.n;have:c.aF*256/c.size<=1024/8:=Nat.div_le_div O O O;omega
theorem bZ.vE (c:bZ):c.n*c.size<=c.aF*256:=yw _ _
structure cF where
 st:Nat
 tk:List Bool
 deriving DecidableEq
def cF.many (s:cF):Nat:=s.tk.count true
def idx (c:bZ)(s:cF)(x:Int):Option Nat:=if x<((s.st*256:Nat):Int)\/((s.st*256+s.tk.length*c.size:Nat):Int)<=x then none else some ((x-((s.st*256:Nat):Int)).toNat/c.size)
def at_ (c:bZ)(s:cF)(i:Nat):Nat:=s.st*256+i*c.size
def obj (c:bZ)(s:cF)(x:Int):Option Nat:=match idx c s x with
 | some i=>if x=((at_ c s i:Nat):Int)then some i else none
 | none=>none
theorem VV {c:bZ}{s:cF}{x:Int}{i:Nat}(hc:0<c.size):idx c s x=some i↔((at_ c s i:Nat):Int)<=x/\x<((at_ c s (i+1):Nat):Int)/\i<s.tk.length:=by
 unfold idx at_;constructor
 ·intro h;split at h
  ·cases h
  ·rename_i hn;cases h;obtain⟨y,rfl⟩:=zc (show 0<=x by omega);have e:((y:Int)-((s.st*256:Nat):Int)).toNat=y-s.st*256:=by omega
   rw[e];have g:(y-s.st*256)/c.size*c.size<=y-s.st*256:=yw _ _;have d:=Nat.lt_div_mul_add (a:=y-s.st*256) hc;have b:(y-s.st*256)/c.size<s.tk.length:=(Nat.div_lt_iff_lt_mul hc).2 O;rw[zm];omega
 ·rintro⟨g,d,b⟩;obtain⟨y,rfl⟩:=zc (show 0<=x by omega);have j:(i+1)*c.size<=s.tk.length*c.size:=kS _ b;rw[zB O];have e:((y:Int)-((s.st*256:Nat):Int)).toNat=y-s.st*256:=by omega
  rw[e]
  congr 1
  rw[zm]at d;refine Nat.div_eq_of_lt_le ?_ ?_
  ·omega
  ·rw[zm];omega
theorem UN {c:bZ}{s:cF}{x:Int}{i:Nat}(hc:0<c.size):obj c s x=some i↔x=((at_ c s i:Nat):Int)/\i<s.tk.length:=by
 unfold obj;constructor
 ·intro h;split at h
  ·rename_i j hj;split at h
   ·cases h;rename_i he;exact⟨he,((VV hc).1 hj).2.2⟩
   ·cases h
  ·cases h
 ·rintro⟨rfl,hi⟩;have:idx c s ((at_ c s i:Nat):Int)=some i:=(VV hc).2 ⟨wZ _,by unfold at_;rw[zm];omega,hi⟩;rw[this];simp
def low (s:cF):Option Nat:=s.tk.findIdx? (· == false)
def cF.put (s:cF)(i:Nat)(v:Bool):cF:={s with tk:=s.tk.set i v}
def kL (c:bZ)(ss:List cF)(x:Int):Option Nat:=ss.findIdx? λs=>(idx c s x).isSome
def eB (c:bZ)(ss:List cF)(x:Int):Option Bool:=match kL c ss x with
 | some k=>match ss[k]? with
  | some s=>(obj c s x).map λi=>s.tk.getD i false
  | none=>none
 | none=>none
def Gn (x y:cF):Bool:=decide (x.many>y.many)||(x.many==y.many&&decide (x.st<y.st))
def Zi (ss:List cF):Nat->Option Nat
 | 0=>none
 | k+1=>match ss[k]? with
  | some x=>if x.many<x.tk.length then(match Zi ss k with
   | some j=>match ss[j]? with
    | some y=>if Gn x y then some k else some j
    | none=>some k
   | none=>some k)else Zi ss k
  | none=>Zi ss k
def iK (ss:List cF):Option Nat:=Zi ss ss.length
def iY (c:bZ)(ss:List cF):Option (Nat×List cF):=match iK ss with
 | some k=>match ss[k]? with
  | some s=>match low s with
   | some i=>some (at_ c s i,ss.set k (s.put i true))
   | none=>none
  | none=>none
 | none=>none
def Kb (c:bZ):Nat->List cF->List Nat×List cF
 | 0,ss=>([],ss)
 | m+1,ss=>match iY c ss with
  | some (x,ss')=>let r:=Kb c m ss';(x::r.1,r.2)
  | none=>([],ss)
def iF (c:bZ)(ss:List cF)(xs:List Int):Int:=
 if xs.any (λx=>(eB c ss x).isNone)then 8 else if xs.any (λx=>eB c ss x==some false) || !decide xs.Nodup then 9 else 0
def fD (c:bZ)(ss:List cF)(x:Int):List cF:=match kL c ss x with
 | some k=>match ss[k]? with
  | some s=>match obj c s x with
   | some i=>ss.set k (s.put i false)
   | none=>ss
  | none=>ss
 | none=>ss
def cH (ss:List cF):List cF:=ss.filter λs=>s.many != 0
def Qo (ss:List cF):List Nat:=(ss.filter λs=>s.many==0).map (·.st)
def qX (c:bZ)(ss:List cF)(x:Int):Option Nat:=match kL c ss x with
 | some k=>match ss[k]? with
  | some s=>(idx c s x).map (at_ c s)
  | none=>none
 | none=>none
def ij (c:bZ)(ss:List cF)(st:Nat):List cF:=ss.takeWhile (λs=>s.st<st)++⟨st,List.replicate c.n false⟩::ss.dropWhile (λs=>s.st<st)
def GB (c:bZ)(ss:List cF)(x:Nat):Int:=if ss.any (λs=>max s.st x-min s.st x<c.aF)then 9 else 0
def pA (ss:List cF):Nat:=(ss.map λs=>s.tk.length-s.many).sum
structure gI where
 low:Nat
 bs:List (List Int)
 deriving DecidableEq
def gD {α:Type}(l:List α)(a b:Nat)(v:α):List α:=l.mapIdx λi x=>if a<=i/\i<b then v else x
theorem KJ {α:Type}(l:List α)(a b:Nat)(v:α):(gD l a b v).length=l.length:=by simp[gD]
theorem Hm {α:Type}(l:List α)(a b:Nat)(v:α)(i:Nat):(gD l a b v)[i]?=(l[i]?).map λx=>if a<=i/\i<b then v else x:=by
 simp[gD,List.getElem?_mapIdx]
theorem Ms {α:Type}{l:List α}{a b:Nat}{v:α}(h1:a<=b)(h2:b<=l.length):gD l a b v=l.take a++List.replicate (b-a) v++l.drop b:=by
 apply zr;intro i;rw[Hm];rcases kE i a with h|h
 ·rw[jL,zh aE,zk,zC h];have:l[i]?=some l[i]:=cU O;rw[this];simp;omega
 rcases kE i b with h'|h'
 ·rw[jL,zt aE,zh aE];have:l[i]?=some l[i]:=cU O;rw[this];simp[mH,h,h'];omega
 ·rw[zt aE];have e:i-(l.take a++List.replicate (b-a) v).length=i-b:=by simp;omega
  rw[e,kY,show b+(i-b)=i by omega];cases l[i]?<;>simp;omega
def tx (l:List Nat)(a b v:Nat):Nat:=((l.drop a).take (b-a)).count v
end Go.Ar
namespace Go.Bu
def full (S:Nat->Bool)(k q:Nat):Bool:=(List.range (2^k)).all λi=>S (q*2^k+i)
def can (S:Nat->Bool)(k q:Nat):Bool:=full S k q && !full S (k+1) (q/2)
theorem Ad {k q i:Nat}(hi:i<2^k):(q*2^k+i)/2^k=q:=by
 rw[Nat.add_comm,Nat.add_mul_div_right _ _ (kJ k),Nat.div_eq_of_lt hi,zH]
theorem Gr {k q p:Nat}(h:p/2^k=q):p=q*2^k+p%2^k:=by
 rw[←h,Nat.mul_comm];exact(Nat.div_add_mod p (2^k)).symm
theorem Qb {k q p:Nat}:p/2^k=q↔q*2^k<=p/\p<q*2^k+2^k:=by
 have a:=kJ k;constructor
 ·intro h;have:=Gr h;have b:=uP p a;omega
 ·rintro⟨h1,h2⟩;have:p=q*2^k+(p-q*2^k):=by omega
  rw[this];exact Ad O
theorem YB {S:Nat->Bool}{k q:Nat}:full S k q=true↔∀p,p/2^k=q->S p=true:=by
 simp only[full,ke,zd];constructor
 ·intro h p hp;have:=h (p%2^k) (uP _ (kJ k))
  rwa [←Gr hp]at this
 ·intro h i hi;exact h _ (Ad hi)
theorem ZE {S:Nat->Bool}{k q:Nat}:can S k q=true↔full S k q=true/\¬full S (k+1) (q/2)=true:=by
 simp[can]
theorem sF {p k j:Nat}(h:k<=j):p/2^j=p/2^k/2^(j-k):=by
 rw[sD,←Nat.pow_add]
 congr 2;omega
theorem C6 {S:Nat->Bool}{k j q:Nat}(h:k<=j)(hf:full S j (q/2^(j-k))=true):full S k q=true:=by
 rw[YB]at hf ⊢;intro p hp;exact hf p (by rw[sF h,hp])
theorem II {q k j:Nat}(h:k<j):q/2/2^(j-(k+1))=q/2^(j-k):=by
 rw[sD]
 congr 1
 rw[←Nat.pow_succ']
 congr 1;omega
theorem QP {S:Nat->Bool}{k j q r p:Nat}(hk:can S k q=true)(hj:full S j r=true)(hp:p/2^k=q)(hr:p/2^j=r)(h:k<j):False:=by
 rw[ZE]at hk;refine hk.2 (C6 (j:=j) O ?_);rw[II h,←hp,←sF (qY h),hr];exact hj
theorem Ea {S:Nat->Bool}{k j q r p:Nat}(hk:can S k q=true)(hj:can S j r=true)(hp:p/2^k=q)(hr:p/2^j=r):k=j/\q=r:=by
 rcases pR k j with h|h|h
 ·exact(QP hk (ZE.1 hj).1 hp hr h).elim
 ·subst h;exact⟨rfl,hp.symm.trans hr⟩
 ·exact(QP hj (ZE.1 hk).1 hr hp h).elim
def Bounded (S:Nat->Bool)(n:Nat):Prop:=∀p,S p=true->p<n
theorem ZQ {S:Nat->Bool}{n k q:Nat}(hb:Bounded S n)(h:full S k q=true):q*2^k+2^k<=n:=by
 rw[YB]at h;have a:=kJ k;have:=hb _ (h (q*2^k+(2^k-1)) (Ad O));omega
theorem MH {S:Nat->Bool}{p:Nat}:full S 0 p=S p:=by simp[full]
theorem UQ {S:Nat->Bool}{n p:Nat}(hb:Bounded S n)(hp:S p=true):∃k,can S k (p/2^k)=true:=by
 apply Classical.byContradiction;intro hno;have all:∀k,full S k (p/2^k)=true:=by
  intro k
  induction k with
  | zero=>simpa[MH]using hp
  | succ k ih=>
   apply Classical.byContradiction;intro hn;refine hno ⟨k,ZE.2 ⟨ih,?_⟩⟩;rw[sD,←mj];exact hn
 have:=ZQ hb (all n);have:=@Nat.lt_two_pow_self n;omega
theorem Ub {S:Nat->Bool}{k q p:Nat}(h:can S k q=true)(hp:p/2^k=q):S p=true:=YB.1 (ZE.1 h).1 p hp
def del (S:Nat->Bool)(k q:Nat):Nat->Bool:=λp=>S p && !(p/2^k==q)
def ins (S:Nat->Bool)(k q:Nat):Nat->Bool:=λp=>S p||p/2^k==q
theorem VG {S:Nat->Bool}{k q p:Nat}:del S k q p=true↔S p=true/\p/2^k≠q:=by simp[del]
theorem VD {S:Nat->Bool}{k q p:Nat}:ins S k q p=true↔S p=true\/p/2^k=q:=by simp[ins]
theorem KO (k q:Nat):(q*2^k)/2^k=q:=BY _ (kJ k)
theorem CB {S:Nat->Bool}{k q j r:Nat}(hc:can S k q=true):can (del S k q) j r=true↔can S j r=true/\¬(j=k/\r=q):=by
 constructor
 ·intro h;obtain⟨i,u⟩:=ZE.1 h;rw[YB]at i;have s:full S j r=true:=YB.2 λp b=>(VG.1 (i p b)).1;refine⟨ZE.2 ⟨s,λd=>u (YB.2 λp b=>?_)⟩,?_⟩
  ·refine VG.2 ⟨YB.1 d p b,λg=>?_⟩;rcases kE k (j+1)with m|m
   ·exact QP hc d g b m
   ·-- the greater Zm lies in the block
    have a:=KO j r;have x:=(VG.1 (i _ a)).2;apply x;rw[sF (show j+1<=k by omega)];have e:r*2^j/2^(j+1)=r/2:=by
     rw[mj,←sD,a]
    rw[e,←b,←sF (show j+1<=k by omega),g]
  ·rintro⟨rfl,rfl⟩;exact(VG.1 (i _ (KO _ _))).2 (KO _ _)
 ·rintro⟨h,hne⟩;obtain⟨i,u⟩:=ZE.1 h;refine ZE.2 ⟨YB.2 λp b=>VG.2 ⟨YB.1 i p b,λg=>hne ?_⟩,λd=>u (YB.2 λp b=>(VG.1 (YB.1 d p b)).1)⟩;obtain⟨m,w⟩:=Ea h hc b g;exact⟨m,w⟩
theorem xD {S:Nat->Bool}{k q j r:Nat}(hd:∀p,p/2^k=q->S p=false)(hup:¬full (ins S k q) (k+1) (q/2)=true) :
 can (ins S k q) j r=true↔can S j r=true\/(j=k/\r=q):=by
 have g:can (ins S k q) k q=true:=ZE.2 ⟨YB.2 λp d=>VD.2 (.inr d),hup⟩;constructor
 ·intro h;by_cases he:j=k/\r=q
  ·exact .inr he
  left;obtain⟨i,m⟩:=ZE.1 h;refine ZE.2 ⟨YB.2 λp d=>?_,λb=>m (YB.2 λp d=>VD.2 (.inl (YB.1 b p d)))⟩;rcases VD.1 (YB.1 i p d)with h1|h1
  ·exact h1
  ·exact(he (Ea h g d h1)).elim
 ·rintro(h|⟨rfl,rfl⟩)
  ·obtain⟨i,m⟩:=ZE.1 h;refine ZE.2 ⟨YB.2 λp d=>VD.2 (.inl (YB.1 i p d)),λb=>m (YB.2 λp d=>?_)⟩;rcases VD.1 (YB.1 b p d)with h1|h1
   ·exact h1
   ·rcases kE k (j+1)with h2|h2
    ·refine(hup (C6 (j:=j+1) O ?_)).elim;have e:q/2^(j+1-k)=r/2:=by rw[←h1,←sF (show k<=j+1 by omega),d]
     rw[II h2,e];exact b
    ·have a:=KO j r;have s:=YB.1 i _ a;have e:r*2^j/2^(j+1)=r/2:=by
      rw[mj,←sD,a]
     have:r*2^j/2^k=q:=by
      rw[sF h2,e,←d,←sF h2,h1]
     rw[hd _ this]at s;cases s
  ·exact g
def ia (q:Nat):Nat:=if q%2=0 then q+1 else q-1
theorem DX (q:Nat):ia q/2=q/2:=by unfold ia;split<;>omega
theorem Jd (q:Nat):ia q≠q:=by unfold ia;split<;>omega
theorem Nj {q r:Nat}(h:r/2=q/2):r=q\/r=ia q:=by unfold ia;split<;>omega
theorem Hi {k q p:Nat}:p/2^(k+1)=q/2↔p/2^k=q\/p/2^k=ia q:=by
 rw[mj,←sD];constructor
 ·intro h;exact Nj h
 ·rintro(h|h)<;>rw[h]
  exact DX q
theorem Mb {T:Nat->Bool}{k q:Nat}(hd:∀p,p/2^k=q->T p=false)(hm:¬can T k (ia q)=true):¬full (ins T k q) (k+1) (q/2)=true:=by
 intro hup;have a:full T k (ia q)=true:=YB.2 λp b=>by
  rcases VD.1 (YB.1 hup p (Hi.2 (.inr b)))with h|h
  ·exact h
  ·exact(Jd q (b.symm.trans h)).elim
 have:full T (k+1) (ia q/2)=true:=Classical.byContradiction λh=>hm (ZE.2 ⟨a,h⟩);rw[DX]at this;have d:=YB.1 this (q*2^k) (Hi.2 (.inl (KO k q)));rw[hd _ (KO k q)]at d;cases d
def dC (S:Nat->Bool)(a b:Nat):Nat->Bool:=λp=>S p||(decide (a<=p)&&decide (p<b))
def take (S:Nat->Bool)(a b:Nat):Nat->Bool:=λp=>S p && !(decide (a<=p)&&decide (p<b))
theorem Kt {S:Nat->Bool}{a b p:Nat}:dC S a b p=true↔S p=true\/(a<=p/\p<b):=by simp[dC]
theorem KI {S:Nat->Bool}{a b p:Nat}:take S a b p=true↔S p=true/\¬(a<=p/\p<b):=by
 simp[take];intro _;omega
theorem sv {S T:Nat->Bool}(h:∀p,S p=true↔T p=true):S=T:=by
 funext p
 have:=h p;cases hs:S p<;>cases ht:T p<;>simp_all
theorem PB (S:Nat->Bool)(k q:Nat):ins S k q=dC S (q*2^k) (q*2^k+2^k):=
 sv λp=>by rw[VD,Kt,Qb]
theorem Sv {S:Nat->Bool}{a b c:Nat}(h1:a<=b)(h2:b<=c):dC (dC S a b) b c=dC S a c:=
 sv λp=>by simp only[Kt];cases S p<;>simp<;>omega
theorem Mo (S:Nat->Bool)(a:Nat):dC S a a=S:=sv λp=>by simp only[Kt];cases S p<;>simp<;>omega
theorem Ma (S:Nat->Bool)(a:Nat):take S a a=S:=sv λp=>by simp only[KI];cases S p<;>simp<;>omega
def many (n:Nat)(S:Nat->Bool)(k:Nat):Nat:=(List.range n).countP (can S k)
def TN (S:Nat->Bool)(K p:Nat):Bool:=(List.range K).any λk=>can S k (p/2^k)
end Go.Bu
namespace Go.Vc
open Go
abbrev Hp:=Array Obj
abbrev _root_.aN:=Int->Hp->Prop
abbrev _root_.aO:=Bool->Hp->Prop
abbrev _root_.aP:=Hp->Prop
structure Sl where
 a:Option Addr
 len:Nat
 cap:Nat
structure Fv where
 f:Nat
 first:Array Value
 captured:Array Value
inductive CK where
 | i (k:IntKind)|b|p|s|m|str|fn|raw|ag (n:Nat)|ad
 deriving DecidableEq
abbrev _root_.bN:CK:=.i .i64
@[reducible] def jo:Nat->Type
 | 0=>Unit
 | 1=>Int
 | n+2=>Int×jo (n+1)
def jo.vs:(n:Nat)->jo n->List Value
 | 0,_=>[]
 | 1,x=>[.int .i64 x]
 | n+2,x=>.int .i64 x.1::jo.vs (n+1) x.2
@[reducible] def CK.T:CK->Type
 | .i _=>Int
 | .b=>Bool
 | .p=>Option Addr
 | .s=>Sl
 | .m=>Option Nat
 | .str=>ByteArray
 | .fn=>Fv
 | .raw=>Value
 | .ag n=>jo n
 | .ad=>Addr
def CK.v:(c:CK)->c.T->Value
 | .i k,y=>.int k y
 | .b,x=>.bool x
 | .p,y=>.pointer y
 | .s,y=>.slice y.a y.len y.cap
 | .m,y=>.map y
 | .str,x=>.string x
 | .fn,x=>.func (.func x.f) x.first x.captured
 | .raw,y=>y
 | .ag n,y=>.agg (jo.vs n y).toArray
 | .ad,y=>.pointer (some y)
inductive SK where
 | one (c:CK)
 | agg (cs:List CK)
def SK.ks:SK->List CK
 | .one c=>[c]
 | .agg cs=>cs
def eT:List SK->List CK
 | []=>[]
 | s::ss=>s.ks++eT ss
@[reducible] def eR:List CK->Type
 | []=>Hp->Prop
 | c::cs=>c.T->eR cs
@[reducible] def oL:List CK->Type
 | []=>Hp->Nat
 | c::cs=>c.T->oL cs
def Sat:(ks:List CK)->eR ks->List Value->Hp->Prop
 | [],R,[],h=>R h
 | c::cs,R,v::vs,h=>∃x:c.T,v=c.v x/\Sat cs (R x) vs h
 | _,_,_,_=>False
def eR.le:(ks:List CK)->eR ks->eR ks->Prop
 | [],R,R'=>∀h,R h->R' h
 | c::cs,R,R'=>∀x:c.T,eR.le cs (R x) (R' x)
def lam:(ks:List CK)->(List Value->Hp->Prop)->eR ks
 | [],K=>K []
 | c::cs,K=>λx=>lam cs λvs=>K (c.v x::vs)
def xu:(n:Nat)->List Value->(jo n->Prop)->Prop
 | 0,[],K=>K ()
 | 1,[.int .i64 x],K=>K x
 | n+2,.int .i64 x::vs,K=>xu (n+1) vs λy=>K (x,y)
 | _,_,_=>False
theorem IB:∀{n:Nat} {vs:List Value} {K:jo n->Prop},xu n vs K->∃x,vs=jo.vs n x/\K x:=by
 intro n vs K h;unfold xu at h;split at h
 ·exact⟨(),rfl,h⟩
 ·exact⟨_,rfl,h⟩
 ·obtain⟨y,rfl,a⟩:=IB h;exact⟨_,rfl,a⟩
 ·exact h.elim
def mR:(c:CK)->Value->(c.T->Prop)->Prop
 | .i k,.int k' n,K=>if k=k' then K n else False
 | .b,.bool x,K=>K x
 | .p,.pointer a,K=>K a
 | .s,.slice a l c,K=>K ⟨a,l,c⟩
 | .m,.map r,K=>K r
 | .str,.string s,K=>K s
 | .fn,.func (.func f) x y,K=>K ⟨f,x,y⟩
 | .raw,v,K=>K v
 | .ag n,.agg cs,K=>xu n cs.toList K
 | .ad,.pointer (some a),K=>K a
 | _,_,_=>False
def rD:(ks:List CK)->eR ks->List Value->Hp->Prop
 | [],R,[],h=>R h
 | c::cs,R,v::vs,h=>mR c v λx=>rD cs (R x) vs h
 | _,_,_,_=>False
theorem VM {c:CK}{v:Value}{K:c.T->Prop}(h:mR c v K):∃x,v=c.v x/\K x:=by
 cases c<;>cases v<;>simp only[mR]at h<;>try exact h.elim
 case i.int k k' n=>split at h<;>first|exact h.elim | (rename_i e;subst e;exact⟨n,rfl,h⟩)
 case fn.func f x y=>cases f<;>simp only[mR]at h<;>first|exact h.elim|exact⟨⟨_,x,y⟩,rfl,h⟩
 case b.bool x=>exact⟨x,rfl,h⟩
 case p.pointer a=>exact⟨a,rfl,h⟩
 case s.slice a l c=>exact⟨⟨a,l,c⟩,rfl,h⟩
 case m.map r=>exact⟨r,rfl,h⟩
 case str.string s=>exact⟨s,rfl,h⟩
 case ad.pointer p=>cases p<;>simp only[mR]at h<;>first|exact h.elim|exact⟨_,rfl,h⟩
 case ag.agg n cs=>obtain⟨x,e,d⟩:=IB h;exact⟨x,by simp only[CK.v,←e],d⟩
 all_goals exact⟨_,rfl,h⟩
theorem EP:∀(n:Nat) (x:jo n) (K:jo n->Prop),xu n (jo.vs n x) K=K x
 | 0,_,_=>rfl
 | 1,_,_=>rfl
 | n+2,x,K=>EP (n+1) x.2 _
theorem Pb (c:CK)(x:c.T)(K:c.T->Prop):mR c (c.v x) K=K x:=by
 cases c<;>simp[mR,CK.v]
 exact iff_of_eq (EP _ _ _)
theorem U3:∀{ks:List CK} {R:eR ks} {vs:List Value} {h:Hp},rD ks R vs h->Sat ks R vs h
 | [],_,[],_,h=>h
 | _::_,_,_::_,_,h=>by
  obtain⟨x,e,hx⟩:=VM h;exact⟨x,e,U3 hx⟩
 | [],_,_::_,_,h=>h.elim
 | _::_,_,[],_,h=>h.elim
theorem Sat.mono:∀{ks:List CK} {R R':eR ks},eR.le ks R R'->∀{vs:List Value} {h:Hp},Sat ks R vs h->Sat ks R' vs h
 | [],_,_,hl,[],_,h=>hl _ h
 | _::_,_,_,hl,_::_,_,⟨x,e,h⟩=>⟨x,e,Sat.mono (hl x) h⟩
 | [],_,_,_,_::_,_,h=>h.elim
 | _::_,_,_,_,[],_,h=>h.elim
theorem VT:∀{ks:List CK} {K:List Value->Hp->Prop} {vs:List Value} {h:Hp},Sat ks (lam ks K) vs h->K vs h
 | [],_,[],_,h=>h
 | _::_,K,v::vs,h,hs=>by
  obtain⟨x,rfl,h'⟩:=hs;exact VT (K:=λvs=>K (CK.v _ x::vs)) h'
 | [],_,_::_,_,h=>h.elim
 | _::_,_,[],_,h=>h.elim
abbrev Env:=Nat->Option Value
def Env.nil:Env:=λ_=>none
def Env.put (ρ:Env)(d:Nat)(v:Value):Env:=λi=>bif Nat.beq i d then some v else ρ i
def Env.im (ρ:Env):Option Nat->Value->Env
 | some d,v=>ρ.put d v
 | none,_=>ρ
def Env.dX (ρ:Env)(ds:List Nat):Env:=λi=>bif ds.contains i then none else ρ i
def ev (ρ:Env):Operand->Option Value
 | .tmp t=>ρ t
 | .const v=>some v
 | .global g=>some (.pointer (some ⟨g,0,none⟩))
 | .func f=>some (.func (.func f) #[] #[])
def wv (o:Option Value)(K:Value->Prop):Prop:=match o with|some v=>K v|none=>False
def p8 (ρ:Env):List Operand->Option (List Value)
 | []=>some []
 | o::os=>match ev ρ o,p8 ρ os with|some v,some vs=>some (v::vs)|_,_=>none
def cell (h:Hp)(a:Addr):Option Value:=
 match h[a.block]? with
 | some (.cells c _ _)=>if a.spot.isSome then none else c[a.off]?
 | _=>none
def nh (h:Hp)(a:Addr):Bool:=
 match h[a.block]? with
 | some (.cells _ _ (lo,hi))=>lo<=a.off&&a.off<hi
 | _=>false
def jT (h:Hp)(a:Addr)(v:Value):Hp:=
 h.modify a.block fun
  | .cells c elem frozen=>.cells (if a.spot.isSome then c else c.setIfInBounds a.off v) elem frozen
  | o=>o
def gE (k:IntKind)(a:Addr)(h:Hp)(K:Int->Prop):Prop:=∃n,cell h a=some (.int k n)/\K n
def lB (a:Addr)(h:Hp)(K:Bool->Prop):Prop:=∃n,cell h a=some (.bool n)/\K n
def fW (a:Addr)(h:Hp)(K:Option Addr->Prop):Prop:=∃n,cell h a=some (.pointer n)/\K n
def ju (a:Addr)(h:Hp)(K:Sl->Prop):Prop:=∃n:Sl,cell h a=some (.slice n.a n.len n.cap)/\K n
def ly (a:Addr)(h:Hp)(K:Option Nat->Prop):Prop:=∃n,cell h a=some (.map n)/\K n
def we (a:Addr)(h:Hp)(K:ByteArray->Prop):Prop:=∃n,cell h a=some (.string n)/\K n
def JW (a:Addr)(h:Hp)(K:Fv->Prop):Prop:=∃n:Fv,cell h a=some (.func (.func n.f) n.first n.captured)/\K n
def yV (a:Addr)(h:Hp)(K:Value->Prop):Prop:=∃n,cell h a=some n/\K n
def Lw (n:Nat)(a:Addr)(h:Hp)(K:jo n->Prop):Prop:=∃x,cell h a=some (CK.v (.ag n) x)/\K x
def BB (a:Addr)(h:Hp)(K:Addr->Prop):Prop:=∃x,cell h a=some (.pointer (some x))/\K x
def xO:(c:CK)->Addr->Hp->(c.T->Prop)->Prop
 | .i k,a,h,K=>gE k a h K
 | .b,a,h,K=>lB a h K
 | .p,a,h,K=>fW a h K
 | .s,a,h,K=>ju a h K
 | .m,a,h,K=>ly a h K
 | .str,a,h,K=>we a h K
 | .fn,a,h,K=>JW a h K
 | .raw,a,h,K=>yV a h K
 | .ag n,a,h,K=>Lw n a h K
 | .ad,a,h,K=>BB a h K
def nv:List CK->Addr->Nat->Hp->(List Value->Prop)->Prop
 | [],_,_,_,K=>K []
 | c::cs,a,i,h,K=>xO c (a.add i) h λx=>nv cs a (i+1) h λvs=>K (c.v x::vs)
def kc (v:Value)(t:TypeId)(vs zs:List Value)(b:Bool):Prop:=match b with
 | true=>v=.iface t (.agg vs.toArray)
 | false=>vs=zs/\(v=.nilIface\/∃t' u,v=.iface t' u/\t'≠t)
def wJ (v:Value)(t:TypeId)(zs:List Value):List CK->List Value->(List Value->Bool->Prop)->Prop
 | [],acc,K=>∃b:Bool,kc v t acc zs b/\K acc b
 | c::cs,acc,K=>∃x:c.T,wJ v t zs cs (acc++[c.v x]) K
theorem wJ.out {v:Value}{t:TypeId}{zs:List Value}:∀{cs:List CK} {acc:List Value} {K:List Value->Bool->Prop},wJ v t zs cs acc K->∃vs b,kc v t vs zs b/\K vs b
 | [],acc,K,⟨b,h1,h2⟩=>⟨acc,b,h1,h2⟩
 | c::cs,acc,K,⟨x,h⟩=>wJ.out h
def iS (v:Value):Prop:=v=.nilIface\/∃t u,v=.iface t u
def kF:Value->Bool
 | .nilIface=>true
 | _=>false
def O1 (v:Value)(A:Prop):Prop:=match v with
 | .agg _=>False
 | .tuple _=>False
 | _=>A
def yd:List Value->Prop->Prop
 | [],A=>A
 | v::vs,A=>O1 v (yd vs A)
def bV (p:Option Addr)(K:Addr->Prop):Prop:=∃a,p=some a/\K a
def Ar (k:IntKind)(e:Int)(K:Int->Prop):Prop:=K (k.wrap e)
def Nz (y:Int)(A:Prop):Prop:=y≠0/\A
def Nn (y:Int)(A:Prop):Prop:=0<=y/\A
def Ix (base:Option Addr)(len:Nat)(i:Int)(sz:Nat)(K:Addr->Prop):Prop:=∃a,base=some a/\0<=i/\i<(len:Int)/\K (a.add (i.toNat*sz))
def nU (a:Addr)(len:Nat)(i:Int)(sz:Nat)(K:Addr->Prop):Prop:=0<=i/\i<(len:Int)/\K (a.add (i.toNat*sz))
def OZ (s:ByteArray)(i:Int)(K:Int->Prop):Prop:=∃b,0<=i/\s[i.toNat]?=some b/\K (b.toNat:Int)
def If (b:Bool)(A B:Prop):Prop:=match b with
 | true=>A
 | false=>B
theorem If.t {b:Bool}{A B:Prop}(h:If b A B)(e:b=true):A:=by subst e;exact h
theorem If.f {b:Bool}{A B:Prop}(h:If b A B)(e:b=false):B:=by subst e;exact h
theorem If.mk {b:Bool}{A B:Prop}(h1:b=true->A)(h2:b=false->B):If b A B:=by cases b;exact h2 rfl;exact h1 rfl
def Nw (o:Obj)(h:Hp)(K:Addr->Hp->Prop):Prop:=K ⟨h.size,0,none⟩ (h.push o)
def dU (a:Addr)(v:Value)(h:Hp)(K:aP):Prop:=(cell h a).isSome=true/\nh h a=false/\K (jT h a v)
def nD (a:Addr)(h:Hp):List Value->Nat->(Hp->Prop)->Prop
 | [],_,K=>K h
 | v::vs,i,K=>dU (a.add i) v h λh'=>nD a h' vs (i+1) K
def eX (s:Sl)(sz:Nat)(lo hi mx:Int)(K:Sl->Prop):Prop:=
 0<=lo/\lo<=hi/\hi<=mx/\mx<=(s.cap:Int)/\K ⟨if mx.toNat=lo.toNat then s.a else s.a.map (·.add (lo.toNat*sz)),hi.toNat-lo.toNat,mx.toNat-lo.toNat⟩
def dH (h:Hp)(r:Nat)(k:IntKind)(c:CK)(l:List (Int×c.T)):Prop:=
 ∃es clk,h[r]?=some (.map es clk)/\es.toList.map (λe=>(e.key,e.val))=l.map (λx=>(Value.int k x.1,c.v x.2)) ∧
  (l.map (·.1)).Nodup/\(es.toList.map (·.born)).Pairwise (· < ·)/\∀e∈es.toList,e.born<clk
def ji (h:Hp)(m:Option Nat)(k:IntKind)(c:CK)(l:List (Int×c.T)):Prop:=
 match m with
 | none=>l=[]
 | some r=>dH h r k c l
def bU {α:Type}(l:List (Int×α))(n:Int):Option α:=(l.find? λx=>x.1==n).map (·.2)
def dA {α:Type}(l:List (Int×α))(n:Int)(v:α):List (Int×α):=
 if l.any (λx=>x.1==n)then l.map (λx=>if x.1==n then(n,v)else x)else l++[(n,v)]
def cR {α:Type}(l:List (Int×α))(n:Int):List (Int×α):=l.filter λx=>!(x.1==n)
def QB (h h':Hp)(r:Nat):Prop:=h'.size=h.size/\∀b,b≠r->h'[b]?=h[b]?
def Lk (k:IntKind)(c:CK)(m:Option Nat)(n:Int)(h:Hp)(K:Option c.T->Prop):Prop:=∃l,ji h m k c l/\K (bU l n)
def qp (k:IntKind)(c:CK)(m:Option Nat)(h:Hp)(K:Int->Prop):Prop:=∃l,ji h m k c l/\K (l.length:Int)
def kG (k:IntKind)(c:CK)(m:Option Nat)(n:Int)(x:c.T)(h:Hp)(K:aP):Prop:=
 ∃r l,m=some r/\dH h r k c l/\∀h',QB h h' r->dH h' r k c (dA l n x)->K h'
def lI (k:IntKind)(c:CK)(m:Option Nat)(n:Int)(h:Hp)(K:aP):Prop:=
 ∃l,ji h m k c l/\∀h',(∀r,m=some r->QB h h' r)->(m=none->h'=h)->ji h' m k c (cR l n)->K h'
def It (h:Hp)(r:Nat)(k:IntKind)(c:CK)(m:Option Nat)(l todo:List (Int×c.T))(cur:Option (Int×c.T)):Prop:=
 match m with
 | none=>l=[]/\todo=[]/\cur=none/\∃s q y,h[r]?=some (.mapIter none s q y)
 | some b=>∃es clk seen,h[r]?=some (.mapIter (some b) clk seen clk)/\h[b]?=some (.map es clk)/\es.toList.map (λe=>(e.key,e.val))=l.map (λx=>(Value.int k x.1,c.v x.2)) ∧
  (l.map (·.1)).Nodup/\(es.toList.map (·.born)).Pairwise (· < ·)/\(∀e∈es.toList,e.born<clk) ∧
  (es.toList.filter λe=>!seen.contains e.born).map (λe=>(e.key,e.val))=todo.map (λx=>(Value.int k x.1,c.v x.2)) ∧
  (∀x,cur=some x->∃e∈es.toList,seen.back?=some e.born/\e.key=.int k x.1/\e.val=c.v x.2)
def nY (k:IntKind)(c:CK)(m:Option Nat)(h:Hp)(K:Addr->Hp->Prop):Prop:=
 ∃l,ji h m k c l/\∀h',h'.size=h.size+1->(∀b,b<h.size->h'[b]?=h[b]?)->It h' h.size k c m l l none->K ⟨h.size,0,none⟩ h'
def nZ (k:IntKind)(c:CK)(a:Addr)(h:Hp)(A:Prop)(B:Int->c.T->Hp->Prop):Prop:=
 a.off=0/\∃m l todo cur,It h a.block k c m l todo cur/\(todo=[]->A) ∧
  ∀n x,(n,x)∈todo->∀h',QB h h' a.block->It h' a.block k c m l (todo.filter λy=>!(y.1==n)) (some (n,x))->B n x h'
def nX (k:IntKind)(c:CK)(a:Addr)(h:Hp)(K:Int->c.T->Prop):Prop:=
 a.off=0/\∃m l todo n x,It h a.block k c m l todo (some (n,x))/\K n x
def dO:Value->Bool
 | .agg _=>false
 | .tuple _=>false
 | _=>true
def Rd (h:Hp)(a:Option Addr)(xs:List Value):Prop:=
 match a with
 | none=>xs=[]
 | some a=>∀j v,xs[j]?=some v->cell h (a.add j)=some v
def F4 (s:Sl)(h:Hp)(K:ByteArray->Prop):Prop:=∃bs:List Int,bs.length=s.len/\Rd h s.a (bs.map (.int .u8))/\K ⟨(bs.map λn=>UInt8.ofNat n.toNat).toArray⟩
def App (s:Sl)(sz bytes:Nat)(e:Nat)(zs:List Value)(x:Sl)(h:Hp)(K:Sl->Hp->Prop):Prop:=
 ∃xs ys,xs.length=s.len*sz/\ys.length=x.len*sz/\Rd h s.a xs/\Rd h x.a ys/\(∀v∈ys,dO v=true)/\(s.len+x.len)*bytes<=2^46/\s.len+x.len<=2^62 ∧
  (s.len+x.len<=s.cap->match s.a with
   | some a=>nD (a.add (s.len*sz)) h ys 0 λh'=>K ⟨s.a,s.len+x.len,s.cap⟩ h'
   | none=>K ⟨none,s.len+x.len,s.cap⟩ h) ∧
  (¬s.len+x.len<=s.cap->∀c,s.len+x.len<=c->Nw (.cells (xs++ys++(List.replicate (c-(s.len+x.len)) zs).flatten).toArray e) h λa h'=>K ⟨some a,s.len+x.len,c⟩ h')
def ug (s:Sl)(sz bytes:Nat)(e:Nat)(zs:List Value)(n:Int)(h:Hp)(K:Sl->Hp->Prop):Prop:=
 0<=n/\∃xs,xs.length=s.len*sz/\Rd h s.a xs/\(∀v∈zs,dO v=true)/\(s.len+n.toNat)*bytes<=2^46/\s.len+n.toNat<=2^62/\(n.toNat:Int)*bytes<=2^46 ∧
  (s.len+n.toNat<=s.cap->match s.a with
   | some a=>nD (a.add (s.len*sz)) h (List.replicate n.toNat zs).flatten 0 λh'=>K ⟨s.a,s.len+n.toNat,s.cap⟩ h'
   | none=>K ⟨none,s.len+n.toNat,s.cap⟩ h) ∧
  (¬s.len+n.toNat<=s.cap->∀c,s.len+n.toNat<=c->Nw (.cells (xs++(List.replicate n.toNat zs).flatten++(List.replicate (c-(s.len+n.toNat)) zs).flatten).toArray e) h λa h'=>K ⟨some a,s.len+n.toNat,c⟩ h')
def tQ (d:Sl)(sz:Nat)(s:Sl)(h:Hp)(K:aN):Prop:=
 ∃xs,xs.length=min s.len d.len*sz/\Rd h s.a xs/\(∀v∈xs,dO v=true)/\match d.a with
  | some a=>nD a h xs 0 λh'=>K ((min s.len d.len:Nat):Int) h'
  | none=>K ((min s.len d.len:Nat):Int) h
def xE (s:Sl)(zs:List Value)(h:Hp)(K:aP):Prop:=
 (∀v∈zs,dO v=true)/\match s.a with
  | some a=>nD a h (List.replicate s.len zs).flatten 0 K
  | none=>K h
def Mk (n c:Int)(bytes:Nat)(e:Nat)(zs:List Value)(h:Hp)(K:Sl->Hp->Prop):Prop:=
 0<=n/\n<=c/\(bytes:Int)*c<=2^46/\c<2^62/\Nw (.cells (List.replicate c.toNat zs).flatten.toArray e) h λa h'=>K ⟨some a,n.toNat,c.toNat⟩ h'
def Xd (w w':World):Prop:=w'.os=w.os/\w'.tape=w.tape/\w'.output=w.output/\w.heap.size<=w'.heap.size
def pN:List SK->List Value->List Value
 | [],_=>[]
 | .one _::ss,v::vs=>v::pN ss vs
 | .one _::ss,[]=>undef::pN ss []
 | .agg cs::ss,vs=>.agg (vs.take cs.length).toArray::pN ss (vs.drop cs.length)
def pack (rs:List SK)(vs:List Value):Value:=
 match pN rs vs with
 | [v]=>v
 | l=>.tuple l.toArray
def Wc (P:Program)(f:Nat)(args:Array Value)(rs:List SK)(h:Hp)(R:eR (eT rs)):Prop:=
 ∀w:World,w.heap=h->Calls P f args w λe w'=>Xd w w'/\∃vs,e=.returned (pack rs vs)/\Sat (eT rs) R vs w'.heap
theorem Wc.mono {P:Program}{f:Nat}{args:Array Value}{rs:List SK}{h:Hp}{R R':eR (eT rs)}(c:Wc P f args rs h R)(hl:eR.le (eT rs) R R'):Wc P f args rs h R':=
 λw a=>(c w a).mono λ_ _ ⟨b,vs,e,s⟩=>⟨b,vs,e,s.mono hl⟩
def ja (P:Program)(v:Value)(name:String)(args:List Value)(rs:List SK)(h:Hp)(R:eR (eT rs)):Prop:=
 ∃t u f,v=.iface t u/\(∀w,(method (P.types.size+Made.depth) t u name).run P w=.ok (f,u) w)/\(∀xs w,(callFunc f xs).run P w=.ok (.enter f xs) w)/\Wc P f (u::args).toArray rs h R
def EE (P:Program)(fv:Fv)(args:List Value)(rs:List SK)(h:Hp)(R:eR (eT rs)):Prop:=
 Wc P fv.f (fv.first++args.toArray++fv.captured) rs h R
abbrev SK.I:SK:=.one bN
abbrev _root_.Go.Value.I (x:Int):Value:=.int .i64 x
def Ds:TypeDesc->Option CK
 | .bool=>some .b
 | .int k=>some (.i k)
 | .string=>some .str
 | .pointer _=>some .p
 | .slice _=>some .s
 | .map _ _=>some .m
 | .func _ _ _=>some .fn
 | .interface _=>some .raw
 | _=>none
mutual
def Aq (P:Program):Nat->TypeId->Option (List CK)
 | 0,_=>none
 | n+1,t=>
  match P.underlying t with
  | some (.struct fs)=>Ej P n fs.toList
  | some (.array m e)=>(Aq P n e).map λl=>(List.replicate m l).flatten
  | some d=>(Ds d).map λc=>[c]
  | none=>none
def Ej (P:Program):Nat->List Field->Option (List CK)
 | 0,_=>none
 | _+1,[]=>some []
 | n+1,f::fs=>match Aq P n f.type,Ej P n fs with
  | some a,some b=>some (a++b)
  | _,_=>none
end
def Pe:SK->SK
 | .agg cs=>bif cs.all (· == .i .i64)then .one (.ag cs.length)else .agg cs
 | s=>s
def Uq:TypeDesc->Bool
 | .struct _ | .array _ _=>true
 | _=>false
def jZ (P:Program)(t:TypeId):Option SK:=
 match P.underlying t with
 | some d=>bif Uq d then(Aq P 24 t).map .agg else(Ds d).map .one
 | none=>none
def pw (P:Program)(t:TypeId):Option SK:=(jZ P t).map Pe
def fR (b:Bool)(A:Prop):Prop:=match b with|true=>A|false=>False
theorem Wu {b:Bool}{A:Prop}:fR b A↔b=true/\A:=by cases b<;>simp[fR]
def pM (op:BinOp)(k:IntKind)(x y:Int)(K:Value->Prop):Prop:=
 match op with
 | .add=>Ar k (x+y) λz=>K (.int k z)
 | .sub=>Ar k (x-y) λz=>K (.int k z)
 | .mul=>Ar k (x*y) λz=>K (.int k z)
 | .quo=>Nz y (Ar k (x.tdiv y) λz=>K (.int k z))
 | .rem=>Nz y (K (.int k (x.tmod y)))
 | .and=>K (.int k (bits .and k x y))
 | .or=>K (.int k (bits .or k x y))
 | .xor=>K (.int k (bits .xor k x y))
 | .andNot=>K (.int k (bits .andNot k x y))
 | .shl=>Nn y (Ar k (x*2^(min y.toNat k.bits)) λz=>K (.int k z))
 | .shr=>Nn y (K (.int k (x.fdiv (2^(min y.toNat k.bits)))))
 | .eql=>K (.bool (x==y))
 | .neq=>K (.bool (x != y))
 | .lss=>K (.bool (decide (x<y)))
 | .leq=>K (.bool (decide (x<=y)))
 | .gtr=>K (.bool (decide (x>y)))
 | .geq=>K (.bool (decide (x≥y)))
def na (op:BinOp)(b:Bool)(K:Value->Prop):Prop:=
 match op with
 | .eql=>K (.bool b)
 | .neq=>K (.bool (!b))
 | _=>False
def lV (P:Program)(op:BinOp)(t:TypeId)(x y:Value)(K:Value->Prop):Prop:=
 match P.underlying t,x,y with
 | some (.pointer _),.pointer p,.pointer none=>na op p.isNone K
 | some (.slice _),.slice p _ _,.slice none 0 0=>na op p.isNone K
 | some (.map _ _),.map p,.map none=>na op p.isNone K
 | some (.interface _),x,.nilIface=>iS x/\na op (kF x) K
 | _,_,_=>False
def lW (P:Program)(op:BinOp)(t:TypeId)(x y:Value)(K:Value->Prop):Prop:=
 match x,y with
 | .int k a,.int k' b=>if k=k' then pM op k a b K else(match op with | .shl=>pM .shl k a b K | .shr=>pM .shr k a b K|_=>False)
 | .bool a,.bool b=>match P.underlying t with
  | some .bool=>na op (a==b) K
  | _=>False
 | .string a,.string b=>match op with
  | .eql=>K (.bool (a.toList==b.toList))
  | .neq=>K (.bool (!(a.toList==b.toList)))
  | _=>False
 | _,_=>False
def pn (P:Program)(xs ys:List Value):List Field->Option Bool
 | []=>some true
 | f::fs=>bif f.name == "_" then none else
  match P.underlying f.type,xs[f.offset]?,ys[f.offset]?,pn P xs ys fs with
  | some (.int _),some (.int k a),some (.int k' b),some r=>if k=k' then some ((a==b)&&r)else none
  | some .bool,some (.bool a),some (.bool b),some r=>some ((a==b)&&r)
  | _,_,_,_=>none
def pG (P:Program)(e:TypeId)(xs ys:List Value):List Nat->Option Bool
 | []=>some true
 | i::is=>match P.underlying e,xs[i]?,ys[i]?,pG P e xs ys is with
  | some (.int _),some (.int k a),some (.int k' b),some r=>if k=k' then some ((a==b)&&r)else none
  | some (.pointer _),some (.pointer p),some (.pointer none),some r=>some (p.isNone&&r)
  | _,_,_,_=>none
def nL (P:Program)(op:BinOp)(t:TypeId)(xs ys:List Value)(K:Value->Prop):Prop:=
 match P.underlying t with
 | some (.struct fs)=>fR (!P.stoodInHeld t && !P.eqGuardType P.depth t) (match pn P xs ys fs.toList with
  | some b=>na op b K
  | none=>False)
 | some (.array n e)=>fR (!P.eqGuardType P.depth t&&((P.info? e).isSome&&P.cellsOf e==1)) (match pG P e xs ys (List.range n)with
  | some b=>na op b K
  | none=>False)
 | _=>False
def wE:Operand->Bool
 | .const (.pointer none)=>true
 | .const (.slice none 0 0)=>true
 | .const (.map none)=>true
 | .const .nilIface=>true
 | _=>false
def wM (P:Program)(op:BinOp)(t:TypeId)(y:Operand)(vx vy:Value)(K:Value->Prop):Prop:=
 bif wE y then lV P op t vx vy K else match vx,vy with
 | .agg xs,.agg ys=>nL P op t xs.toList ys.toList K
 | vx,vy=>lW P op t vx vy K
def nA (P:Program)(s f:Nat)(K:Field->Prop):Prop:=
 match P.underlying s with
 | some (.struct fs)=>match fs[f]? with
  | some fd=>K fd
  | none=>False
 | _=>False
def lX (P:Program)(t:TypeId)(x:Value)(h:Hp)(K:Value->Prop):Prop:=
 match P.underlying t,x with
 | some (.slice _),.slice _ n _=>K (.int .i64 (n:Int))
 | some .string,.string s=>K (.int .i64 (s.size:Int))
 | some (.array n _),_=>K (.int .i64 (n:Int))
 | some (.map kt et),.map m=>match P.underlying kt,pw P et with
  | some (.int k),some (.one c)=>qp k c m h λz=>K (.int .i64 z)
  | _,_=>False
 | _,_=>False
def ye (P:Program)(t:TypeId)(x i:Value)(ok:Bool)(h:Hp)(K:Value->Prop):Prop:=
 match P.underlying t,x,i with
 | some (.map kt et),.map m,.int k n=>match P.underlying kt,pw P et,P.info? et with
  | some (.int k'),some (.one c),some ti=>match ti.zero with
   | some z=>if k=k' then mR c z λz=>Lk k c m n h λo=>K (bif ok then .tuple #[c.v (o.getD z),.bool o.isSome]else c.v (o.getD z))else False
   | none=>False
  | _,_,_=>False
 | _,_,_=>False
def px (isMax:Bool):Value->List Value->(Value->Prop)->Prop
 | v,[],K=>K v
 | .int k x,.int _ y::vs,K=>px isMax (.int k (bif isMax then(if y>x then y else x)else(if y<x then y else x))) vs K
 | _,_,_=>False
def rp (Zm:Nat->Option (Nat×Nat))(cells:List Value):List (Nat×Value)->Option (List Value)
 | []=>some cells
 | (i,v)::rest=>
  match Zm i with
  | none=>none
  | some (off,size)=>
   if v.cells.size≠size\/off+v.cells.size>cells.length then none
   else rp Zm (cells.take off++v.cells.toList++cells.drop (off+size)) rest
def HT (ρ:Env):List (Nat×Operand)->Option (List (Nat×Value))
 | []=>some []
 | (i,o)::os=>match ev ρ o,HT ρ os with|some v,some vs=>some ((i,v)::vs)|_,_=>none
def Bc (P:Program)(fs:Array Field)(i:Nat):Option (Nat×Nat):=match fs[i]? with
 | some f=>match P.info? f.type with
  | some ti=>some (f.offset,ti.size)
  | none=>none
 | none=>none
def wP (P:Program)(t:TypeId):Bool:=match P.underlying t with
 | some (.interface _)=>true
 | _=>false
def wq (P:Program)(fs:Array Field)(i:Nat):Bool:=match fs[i]? with
 | some f=>wP P f.type
 | none=>false
def vu (raw:Nat->Bool):List (Nat×Value)->List (Nat×Value)
 | []=>[]
 | (i,v)::ps=>(i,bif raw i then .agg #[v]else v)::vu raw ps
def lD (raw:Nat->Bool):List (Nat×Value)->Prop->Prop
 | [],A=>A
 | (i,v)::ps,A=>bif raw i then iS v/\lD raw ps A else lD raw ps A
def nc (P:Program)(t:TypeId)(ps:List (Nat×Value))(K:Value->Prop):Prop:=
 match P.info? t,P.underlying t with
 | some ti,some (.struct fs)=>match ti.zero with
  | some z=>lD (wq P fs) ps (match rp (Bc P fs) z.cells.toList (vu (wq P fs) ps)with
   | some cs=>fR (fs.toList.all λf=>(P.info? f.type).isSome) (K (.agg cs.toArray))
   | none=>False)
  | none=>False
 | some ti,some (.array _ e)=>match ti.zero,P.info? e with
  | some z,some te=>match rp (λi=>some (i*te.size,te.size)) z.cells.toList ps with
   | some cs=>K (.agg cs.toArray)
   | none=>False
  | _,_=>False
 | _,_=>False
def uy (P:Program)(t:TypeId)(cs:List Value)(off:Nat)(K:Value->Prop):Prop:=
 match P.underlying t,P.info? t with
 | some d,some ti=>bif Uq d then K (.agg ((cs.drop off).take ti.size).toArray)else wv (cs[off]?) K
 | _,_=>False
def nI (P:Program)(t:TypeId)(x:Value)(lo hi mx:Option Value)(K:Value->Prop):Prop:=
 match P.underlying t,x with
 | some (.slice e),.slice a n c=>match P.info? e with
  | some ti=>
   let loV:Option Int:=match lo with|none=>some 0|some (.int .i64 z)=>some z|_=>none
   let hiV:Option Int:=match hi with|none=>some n|some (.int .i64 z)=>some z|_=>none
   let mxV:Option Int:=match mx,hi with|none,_=>some c|some (.int .i64 z),some _=>some z|_,_=>none
   match loV,hiV,mxV with
   | some l,some h,some m=>eX ⟨a,n,c⟩ ti.size l h m λs=>K (.slice s.a s.len s.cap)
   | _,_,_=>False
  | none=>False
 | _,_=>False
def vp (ρ:Env):Option Operand->Option (Option Value)
 | none=>some none
 | some o=>(ev ρ o).map some
def qK (P:Program)(o:Op)(ρ:Env)(h:Hp)(K:Value->Prop):Prop:=
 match o with
 | .move x=>wv (ev ρ x) K
 | .assign x=>wv (ev ρ x) K
 | .pick c x y=>wv (ev ρ c) λv=>match v with
  | .bool true=>wv (ev ρ x) K
  | .bool false=>wv (ev ρ y) K
  | _=>False
 | .load t a=>wv (ev ρ a) λv=>match v,jZ P t with
  | .pointer (some a),some (.one c)=>fR (P.info? t).isSome (xO c a h λx=>K (c.v x))
  | .pointer (some a),some (.agg cs)=>fR (P.cellsOf t==cs.length) (fR (P.info? t).isSome (nv cs a 0 h λvs=>K (.agg vs.toArray)))
  | _,_=>False
 | .nilCheck x=>wv (ev ρ x) λv=>match v with
  | .pointer p=>bV p λa=>K (.pointer (some a))
  | .func (.func f) a b=>K (.func (.func f) a b)
  | _=>False
 | .binOp op t x y _=>wv (ev ρ x) λvx=>wv (ev ρ y) λvy=>wM P op t y vx vy K
 | .unOp op _ x=>wv (ev ρ x) λv=>match op,v with
  | .not,.bool b=>K (.bool (!b))
  | .neg,.int k n=>Ar k (0-n) λz=>K (.int k z)
  | _,_=>False
 | .convert s d x=>wv (ev ρ x) λv=>match P.underlying s,P.underlying d,v with
  | some _,some (.int k),.int _ n=>Ar k n λz=>K (.int k z)
  | some _,some .string,.string x=>K (.string x)
  | some (.slice e),some .string,.slice a n c=>(match P.underlying e with|some (.int .u8)=>F4 ⟨a,n,c⟩ h λs=>K (.string s)|_=>False)
  | _,_,_=>False
 | .fieldAddr s x f=>wv (ev ρ x) λv=>nA P s f λfd=>match v with
  | .pointer (some a)=>fR (P.cellsOf fd.type != 0) (K (.pointer (some (a.add fd.offset))))
  | _=>False
 | .field s x f=>wv (ev ρ x) λv=>nA P s f λfd=>match v with
  | .agg cs=>uy P fd.type cs.toList fd.offset K
  | _=>False
 | .indexAddr t x i=>wv (ev ρ x) λvx=>wv (ev ρ i) λvi=>match P.underlying t,vx,vi with
  | some (.slice e),.slice b n _,.int _ i=>fR (P.info? e).isSome (Ix b n i (P.cellsOf e) λa=>K (.pointer (some a)))
  | some (.array n e),.pointer (some a),.int _ i=>fR (P.info? e).isSome (nU a n i (P.cellsOf e) λa=>K (.pointer (some a)))
  | _,_,_=>False
 | .index t x i=>wv (ev ρ x) λvx=>wv (ev ρ i) λvi=>match P.underlying t,vx,vi with
  | some .string,.string s,.int _ i=>OZ s i λz=>K (.int .u8 z)
  | _,_,_=>False
 | .lookup t x i ok=>wv (ev ρ x) λvx=>wv (ev ρ i) λvi=>ye P t vx vi ok h K
 | .extract t i=>wv (ev ρ t) λv=>match v with
  | .tuple vs=>wv (vs.toList[i]?) K
  | _=>False
 | .makeFunc fn a b=>match p8 ρ a.toList,p8 ρ b.toList with
  | some va,some vb=>K (.func fn va.toArray vb.toArray)
  | _,_=>False
 | .build t ps=>match HT ρ ps.toList with
  | some vs=>nc P t vs K
  | none=>False
 | .slice t x lo hi mx=>wv (ev ρ x) λv=>match vp ρ lo,vp ρ hi,vp ρ mx with
  | some lo,some hi,some mx=>nI P t v lo hi mx K
  | _,_,_=>False
 | .makeInterface t x=>wv (ev ρ x) λv=>fR (P.concrete t) (K (.iface t v))
 | .typeAssert x _ t true=>wv (ev ρ x) λv=>match P.underlying t,P.info? t,jZ P t with
  | some (.struct _),some ti,some (.agg cs)=>match ti.zero with
   | some (.agg zs)=>wJ v t zs.toList cs [] λvs b=>K (.tuple #[.agg vs.toArray,.bool b])
   | _=>False
  | _,_,_=>False
 | .call c=>match c.callee,p8 ρ c.args.toList,c.argTypes.toList with
  | .builtin .len,some [x],[t]=>lX P t x h K
  | .builtin .cap,some [.slice _ _ n],[t]=>(match P.underlying t with|some (.slice _)=>K (.int .i64 (n:Int))|_=>False)
  | .builtin .max,some (x::xs),_=>px true x xs K
  | .builtin .min,some (x::xs),_=>px false x xs K
  | _,_,_=>False
 | _=>False
def sS:Op->Bool
 | .move _ | .assign _ | .pick .. | .load _ _ | .nilCheck _ | .binOp .. | .unOp .. | .convert .. | .fieldAddr .. | .field .. | .indexAddr .. | .index .. | .lookup .. | .extract .. | .makeFunc .. | .build .. | .slice .. | .makeInterface .. => true
 | .typeAssert _ _ _ ok=>ok
 | .call c=>match c.callee with | .builtin .len | .builtin .cap | .builtin .max | .builtin .min=>true|_=>false
 | _=>false
theorem V8 {P:Program}{t:Nat}{i:TypeInfo}(hi:P.info? t=some i)(w:World):(typeInfo t).run P w=.ok i w:=by
 simp[typeInfo,hi]
theorem QQ {P:Program}{t:Nat}(h:(P.info? t).isSome=true)(w:World):(sizeOf t).run P w=.ok (P.cellsOf t) w:=by
 obtain⟨i,a⟩:=qi.1 h;simp[sizeOf,typeInfo,a,Program.cellsOf]
theorem VA {P:Program}{t:Nat}{i:TypeInfo}{z:Value}(hi:P.info? t=some i)(hz:i.zero=some z)(w:World):(zeroValue t).run P w=.ok z w:=by
 simp[zeroValue,typeInfo,hi,hz]
theorem OV {P:Program}{op:BinOp}{t:Nat}{k:IntKind}{x y:Int}{K:Value->Prop}(h:pM op k x y K)(w:World) :
 ∃v,(binOp op t (.int k x) (.int k y)).run P w=.ok v w/\K v:=by
 cases op<;>simp only[pM,Ar,Nz,Nn]at h
 all_goals first
  | (refine⟨_,?_,h⟩;simp[binOp,Op.intArith,Op.intCmp,Op.intBits,bits];done)
  | (obtain⟨b,a⟩:=h;refine⟨_,?_,a⟩;simp[binOp,Op.intDiv,b];done)
  | (obtain⟨b,a⟩:=h;refine⟨_,?_,a⟩;simp[binOp,Op.shift,Int.not_lt.2 b];done)
theorem Ut {P:Program}{op:BinOp}{t:Nat}{x y:Value}{b:Bool}{K:Value->Prop}(h:na op b K)(w:World)
 (hb:∀op,(op=.eql\/op=.neq)->binOp op t x y=if op=.eql then(do pure (.bool (←Op.equal t x y)))else(do pure (.bool (!(←Op.equal t x y)))))
 (he:(Op.equal t x y).run P w=.ok b w):∃v,(binOp op t x y).run P w=.ok v w/\K v:=by
 cases op<;>simp only[na]at h
 case eql=>exact⟨_,by rw[hb .eql (.inl rfl)];simp[he],h⟩
 case neq=>exact⟨_,by rw[hb .neq (.inr rfl)];simp[he],h⟩
theorem CQ {P:Program}{t e:Nat}(hu:P.underlying t=some (.pointer e))(p:Option Addr)(d:Nat)(w:World):(Op.equalIn (d+1) t (.pointer p) (.pointer none)).run P w=.ok p.isNone w:=by
 cases p<;>simp[Op.equalIn,run_underlying hu]
theorem JG {P:Program}{t e:Nat}(hu:P.underlying t=some (.slice e))(p:Option Addr)(n c d:Nat)(w:World):(Op.equalIn (d+1) t (.slice p n c) (.slice none 0 0)).run P w=.ok p.isNone w:=by
 cases p<;>simp[Op.equalIn,run_underlying hu]
theorem I7 {P:Program}{t k e:Nat}(hu:P.underlying t=some (.map k e))(p:Option Nat)(d:Nat)(w:World):(Op.equalIn (d+1) t (.map p) (.map none)).run P w=.ok p.isNone w:=by
 cases p<;>simp[Op.equalIn,run_underlying hu]
theorem MD {P:Program}{t:Nat}(hu:P.underlying t=some .bool)(a b:Bool)(d:Nat)(w:World):(Op.equalIn (d+1) t (.bool a) (.bool b)).run P w=.ok (a==b) w:=by
 simp[Op.equalIn,run_underlying hu]
theorem PK {P:Program}{w:World}{s:Sl}{K:ByteArray->Prop}(h:F4 s w.heap K):∃b,(Conv.bytesToString (.slice s.a s.len s.cap)).run P w=.ok (.string b) w/\K b:=by
 obtain⟨g,i,d,m⟩:=h;refine⟨_,?_,m⟩;cases hs:s.a with
 | none=>
  rw[hs]at d;simp only[Rd,yW]at d;subst d;simp[Conv.bytesToString];rfl
 | some a=>
  rw[hs]at d;have e:(loadCells a s.len).run P w=.ok (g.map (Value.int .u8)).toArray w:=by
   rw[←i];simpa using run_loadCells_list (P:=P) (w:=w) a (g.map (Value.int .u8)) (λj v p=>d j v p)
  have key:∀(l:List Int) (acc:ByteArray),List.foldl (λb a=>b.push (UInt8.ofNat a.toNat)) acc l=⟨acc.data++(l.map λn=>UInt8.ofNat n.toNat).toArray⟩:=by
   intro l
   induction l with
   | nil=>intro acc;simp
   | cons n l ih=>intro acc;rw[qW,ih];congr 1;apply Array.ext';simp[ByteArray.push]
  simp only[Conv.bytesToString,Sem.run_bind,e,Result.andThen_ok];simp[key]
theorem Lq {P:Program}{t:Nat}{ms:Array (String×TypeId)}(hu:P.underlying t=some (.interface ms)){v:Value}(hv:iS v)(d:Nat)(w:World):(Op.equalIn (d+1) t v .nilIface).run P w=.ok (kF v) w:=by
 rcases hv with rfl|⟨t',u,rfl⟩
 ·simp[Op.equalIn,run_underlying hu,kF]
 ·simp[Op.equalIn,run_underlying hu,kF]
theorem RJ {P:Program}{xt t:TypeId}{ti:TypeInfo}{fs:Array Field}{v:Value}{vs zs:List Value}{b:Bool}(hu:P.underlying t=some (.struct fs))(hi:P.info? t=some ti)(hz:ti.zero=some (.agg zs.toArray))
 (h:kc v t vs zs b) (w:World) :
 (Instr.typeAssert v xt t true).run P w=.ok (.tuple #[.agg vs.toArray,.bool b]) w:=by
 have a:=VA hi hz w;cases b with
 | true=>
  simp only[kc]at h;subst h;simp[Instr.typeAssert,run_underlying hu]
 | false=>
  simp only[kc]at h;obtain⟨rfl,h⟩:=h;rcases h with rfl|⟨t',u,rfl,hne⟩
  ·simp[Instr.typeAssert,run_underlying hu,a]
  ·simp[Instr.typeAssert,run_underlying hu,hne,a]
theorem LY {P:Program}{op:BinOp}{t:Nat}{x y:Value}{K:Value->Prop}(h:lV P op t x y K)(w:World) :
 ∃v,(binOp op t x y).run P w=.ok v w/\K v:=by
 unfold lV at h;split at h
 case h_1 e p hu=>
  refine Ut h w ?_ ?_
  ·rintro op (rfl|rfl)<;>simp[binOp]
  ·exact CQ hu p 9999 w
 case h_2 e p _ _ hu=>
  refine Ut h w ?_ ?_
  ·rintro op (rfl|rfl)<;>simp[binOp]
  ·exact JG hu p _ _ 9999 w
 case h_3 e e' p hu=>
  refine Ut h w ?_ ?_
  ·rintro op (rfl|rfl)<;>simp[binOp]
  ·exact I7 hu p 9999 w
 case h_4 ms hu=>
  obtain⟨a,h⟩:=h;refine Ut h w ?_ ?_
  ·rcases a with rfl|⟨t',u,rfl⟩<;>rintro op (rfl|rfl)<;>simp[binOp]
  ·exact Lq hu a 9999 w
 ·exact h.elim
theorem NW {P:Program}{op:BinOp}{t:Nat}{x y:Value}{K:Value->Prop}(h:lW P op t x y K)(w:World) :
 ∃v,(binOp op t x y).run P w=.ok v w/\K v:=by
 unfold lW at h;split at h
 case h_1 k a k' b=>
  split at h
  ·rename_i e;subst e;exact OV h w
  ·cases op<;>simp only at h
   case shl=>simp only[pM,Ar,Nn]at h;obtain⟨g,d⟩:=h;exact⟨_,by simp[binOp,Op.shift,Int.not_lt.2 g],d⟩
   case shr=>simp only[pM,Ar,Nn]at h;obtain⟨g,d⟩:=h;exact⟨_,by simp[binOp,Op.shift,Int.not_lt.2 g],d⟩
 case h_2 a b=>
  split at h
  ·rename_i hu;refine Ut h w ?_ ?_
   ·rintro op (rfl|rfl)<;>simp[binOp]
   ·exact MD hu a b 9999 w
  ·exact h.elim
 case h_3 a b=>
  cases op<;>simp only at h
  ·exact⟨_,rfl,h⟩
  ·exact⟨_,rfl,h⟩
 ·exact h.elim
theorem B8 {c:CK}{a:Addr}{h:Hp}{K:c.T->Prop}(hl:xO c a h K):∃x,cell h a=some (c.v x)/\K x:=by
 cases c<;>exact hl
theorem Ax {P:Program}{w:World}{a:Addr}{v:Value}(h:cell w.heap a=some v):(load a).run P w=.ok v w:=by
 have:w.cell? a=some v:=h;simp[this]
theorem Cx {P:Program}{w:World}:∀{cs:List CK} {a:Addr} {i:Nat} {K:List Value->Prop},nv cs a i w.heap K →
 ∃vs,vs.length=cs.length/\K vs/\∀acc,(loadCellsFrom a i cs.length acc).run P w=.ok (acc++vs.toArray) w
 | [],a,i,K,h=>⟨[],rfl,h,λacc=>by simp[loadCellsFrom]⟩
 | c::cs,a,i,K,h=>by
  obtain⟨x,hx,hK⟩:=B8 h;obtain⟨vs,e,b,d⟩:=Cx (P:=P) hK;refine⟨c.v x::vs,by simp[e],b,λacc=>?_⟩;simp only[zX,loadCellsFrom,Sem.run_bind,Ax hx,Result.andThen_ok,d]
  congr 1
  apply Array.ext';simp
theorem KW {P:Program}{t:Nat}{d:TypeDesc}(h:P.underlying t=some d)(w:World):(isAgg t).run P w=.ok (Uq d) w:=by
 simp only[isAgg,Sem.run_bind,run_underlying h,Result.andThen_ok];cases d<;>rfl
theorem FX {P:Program}{t:Nat}{c:CK}(h:jZ P t=some (.one c)):∃d,P.underlying t=some d/\Uq d=false:=by
 unfold jZ at h;split at h
 ·rename_i d hd;refine⟨d,hd,?_⟩;cases e:Uq d
  ·rfl
  ·rw[e]at h;simp at h
 ·cases h
theorem DW {P:Program}{t:Nat}{c:List CK}(h:jZ P t=some (.agg c)):∃d,P.underlying t=some d/\Uq d=true:=by
 unfold jZ at h;split at h
 ·rename_i d hd;refine⟨d,hd,?_⟩;cases e:Uq d
  ·rw[e]at h;simp at h
  ·rfl
 ·cases h
theorem P4 {P:Program}{t ty:Nat}{x:Value}{K:Value->Prop}{w:World}(h:lX P t x w.heap K) :
 ∃v,(Builtin.len_ #[t] ty #[x]).run P w=.ok v w/\K v:=by
 unfold lX at h;split at h
 case h_1 e a n c hu=>exact⟨_,by simp[Builtin.len_,run_underlying hu,goInt],h⟩
 case h_2 s hu=>exact⟨_,by simp[Builtin.len_,run_underlying hu,goInt],h⟩
 case h_3 n e y hu=>exact⟨_,by simp[Builtin.len_,run_underlying hu,goInt],h⟩
 case h_4 kt et m hu=>
  split at h
  case h_1 k c hk hs=>
   obtain⟨l,d,g⟩:=h;cases m with
   | none=>simp only[ji]at d;subst d;exact⟨_,by simp[Builtin.len_,run_underlying hu,goInt],g⟩
   | some r=>
    obtain⟨j,p,i,u,_⟩:=d;have b:j.size=l.length:=by simpa using congrArg List.length u
    refine⟨_,?_,g⟩;simp[Builtin.len_,run_underlying hu,goInt,getObj,Sem.run,i,b]
  ·exact h.elim
 ·exact h.elim
theorem A7 {P:Program}{w:World}:∀{vs:List Value} {v:Value} {b:Bool} {K:Value->Prop},px b v vs K →
 ∃z,(vs.foldlM (if b then Builtin.max2 else Builtin.min2) v).run P w=.ok z w/\K z
 | [],v,b,K,h=>⟨v,by simp,by simpa[px]using h⟩
 | u::vs,v,b,K,h=>by
  cases v<;>cases u<;>simp only[px]at h<;>try exact h.elim
  case int.int k x k' y=>
   obtain⟨z,hz,hK⟩:=A7 h;refine⟨z,?_,hK⟩;cases b
   ·simpa[Builtin.min2]using hz
   ·simpa[Builtin.max2]using hz
theorem ZR {ρ:Env}{a:Act}(hf:∀x v,ev ρ x=some v->a.eval x=v):∀{os:List Operand} {vs:List Value},p8 ρ os=some vs->os.map a.eval=vs
 | [],vs,h=>by simp[p8]at h;simp[h]
 | o::os,vs,h=>by
  simp only[p8]at h;split at h
  ·rename_i v vs' h1 h2;cases h;simp[hf _ _ h1,ZR hf h2]
  ·cases h
theorem V7 {ρ:Env}{a:Act}(hf:∀x v,ev ρ x=some v->a.eval x=v):∀{os:List (Nat×Operand)} {vs:List (Nat×Value)},HT ρ os=some vs->os.map (λ(i,x)=>(i,a.eval x))=vs
 | [],vs,h=>by simp[HT]at h;simp[h]
 | (i,o)::os,vs,h=>by
  simp only[HT]at h;split at h
  ·rename_i v vs' h1 h2;cases h;simp[hf _ _ h1,V7 hf h2]
  ·cases h
theorem Gm {k:IntKind}{n:Int}{c:CK}:∀(es:List MapEntry) (l:List (Int×c.T)) (i:Nat),
 es.map (λe=>(e.key,e.val))=l.map (λx=>(Value.int k x.1,c.v x.2)) →
 Instr.findNow (.int k) (.int k n) es i=some (match l.findIdx? (λx=>x.1==n)with|some j=>some (i+j,match l[j]? with|some x=>c.v x.2|none=>undef)|none=>none)
 | [],l,i,h=>by
  cases l with
  | nil=>simp[Instr.findNow]
  | cons x l=>simp at h
 | e::es,[],i,h=>by simp at h
 | e::es,x::l,i,h=>by
  simp only[zR,List.cons.injEq,Prod.mk.injEq]at h;obtain⟨⟨h1,h2⟩,h3⟩:=h;have a:=Gm (n:=n) es l (i+1) h3;simp only[Instr.findNow,h1,Instr.sameNow,zS];by_cases hx:n=x.1
  ·have e1:(n==x.1)=true:=by simpa using hx
   have e2:(x.1==n)=true:=by simpa using hx.symm
   simp[vQ,e1,e2,h2]
  ·have e1:(n==x.1)=false:=by simpa using hx
   have e2:(x.1==n)=false:=by simpa using λh=>hx h.symm
   simp only[e1,a,vQ,e2];cases List.findIdx? (λx=>x.1==n) l with
   | none=>simp
   | some j=>simp;omega
theorem KA {P:Program}{kt:Nat}{k:IntKind}(hk:P.underlying kt=some (.int k)){n:Int}{c:CK}{es:List MapEntry}{l:List (Int×c.T)}
 (he:es.map (λe=>(e.key,e.val))=l.map (λx=>(Value.int k x.1,c.v x.2))) (w:World) :
 (Instr.findKey kt (.int k n) es).run P w=.ok (match l.findIdx? (λx=>x.1==n)with|some j=>some (j,match l[j]? with|some x=>c.v x.2|none=>undef)|none=>none) w:=by
 simp[Instr.findKey,run_underlying hk,Gm es l 0 he]
theorem Lt {P:Program}{kt:Nat}{k:IntKind}(hk:P.underlying kt=some (.int k))(b:Bool)(n:Int)(d:Nat)(w:World) :
 (Instr.checkKey b (d+1) kt (.int k n)).run P w=.ok () w:=by
 simp[Instr.checkKey,run_underlying hk]
theorem QK {P:Program}{kt:Nat}{k:IntKind}(hk:P.underlying kt=some (.int k))(b:Bool)(n:Int)(w:World) :
 (Instr.checkKey b 10000 kt (.int k n)).run P w=.ok () w:=Lt hk b n 9999 w
theorem LF {α:Type}(l:List (Int×α))(n:Int):bU l n=(l.findIdx? (λx=>x.1==n)).bind λj=>(l[j]?).map (·.2):=by
 induction l with
 | nil=>rfl
 | cons x l ih=>
  simp only[bU,uT,vQ]at *;cases h:x.1==n
  ·simp only[ih];cases List.findIdx? (λx=>x.1==n) l<;>simp
  ·simp
theorem Ul {α:Type}{l:List (Int×α)}{n:Int}{j:Nat}(h:l.findIdx? (λx=>x.1==n)=some j):∃x,l[j]?=some x/\x.1=n:=by
 rw[nm]at h;obtain⟨a,b,_⟩:=h;exact⟨l[j],by simp[a],by simpa using b⟩
theorem Mw {P:Program}{t:Nat}{x i:Value}{ok:Bool}{K:Value->Prop}{w:World}(h:ye P t x i ok w.heap K) :
 ∃v,(Instr.lookup t x i ok).run P w=.ok v w/\K v:=by
 unfold ye at h;split at h
 case h_2=>exact h.elim
 rename_i kt et m k n hu;split at h
 case h_2=>exact h.elim
 rename_i k' c ti hk hs hi;split at h
 case h_2=>exact h.elim
 rename_i z hz;split at h
 case isFalse=>exact h.elim
 rename_i e;subst e;obtain⟨A,a,l,b,s⟩:=VM h;refine⟨_,?_,s⟩;cases m with
 | none=>
  simp only[ji]at b;subst b;simp only[Instr.lookup,Sem.run_bind,run_underlying hu,Result.andThen_ok,Sem.run_pure,QK hk,KA (c:=c) (l:=[]) hk (rfl:List.map _ (#[]:Array MapEntry).toList=_),List.findIdx?_nil,VA hi hz];cases ok<;>simp[bU,a]
 | some r=>
  obtain⟨B,p,g,u,_⟩:=b;simp only[Instr.lookup,Sem.run_bind,run_underlying hu,Result.andThen_ok,Sem.run_pure,QK hk,getObj,Sem.run,g,KA hk u,LF];cases hf:l.findIdx? (λx=>x.1==n)with
  | none=>cases ok<;>simp[VA hi hz,a]
  | some j=>
   obtain⟨y,d,_⟩:=Ul hf;cases ok<;>simp[d]
theorem Dt (off:Nat):∀(vs:List Value) (k:Nat) (cs:Array Value),off+k+vs.length<=cs.size →
 ((vs.zipIdx k).foldl (λcs (c,j)=>cs.setIfInBounds (off+j) c) cs).toList=cs.toList.take (off+k)++vs++cs.toList.drop (off+k+vs.length)
 | [],k,cs,h=>by simp
 | v::vs,k,cs,h=>by
  simp only[List.zipIdx_cons,qW];rw[Dt off vs (k+1) _ (by simp only[Array.size_setIfInBounds,zX]at *;omega)];simp only[zX]at h;have hlt:off+k<cs.toList.length:=by simp;omega
  simp only[Array.toList_setIfInBounds,zX];apply zr;intro m;simp only[List.getElem?_append,za,ns,zO,zk,m7,kY,List.getElem?_cons,zX]
  grind
theorem UF (Zm:Nat->Option (Nat×Nat)):∀(ps:List (Nat×Value)) (cells:List Value) (cs:List Value),rp Zm cells ps=some cs->Instr.fill Zm cells.toArray ps=some cs.toArray
 | [],cells,cs,h=>by simp[rp]at h;simp[Instr.fill,h]
 | (i,v)::rest,cells,cs,h=>by
  simp only[rp]at h;simp only[Instr.fill];cases hp:Zm i with
  | none=>rw[hp]at h;cases h
  | some os=>
   obtain⟨off,size⟩:=os;rw[hp]at h;simp only at h ⊢;split at h
   ·cases h
   ·rename_i hc;simp only[not_or,Decidable.not_not,Nat.not_lt]at hc;obtain⟨a,b⟩:=hc;rw[zB (by simp[a];omega)];have:=Dt off v.cells.toList 0 cells.toArray aE;have e:(v.cells.zipIdx.foldl (λcs (c,j)=>cs.setIfInBounds (off+j) c) cells.toArray)=(cells.take off++v.cells.toList++cells.drop (off+size)).toArray:=by
     apply Array.ext';rw[←Array.foldl_toList,Array.toList_zipIdx,this];simp[a]
    rw[e];exact UF Zm rest _ _ h
theorem Db {P:Program}{w:World}:∀(fs:List Field),(fs.all λf=>(P.info? f.type).isSome)=true →
 (fs.mapM λf=>(do pure (f.offset,←sizeOf f.type):Sem (Nat×Nat))).run P w=.ok (fs.map λf=>(f.offset,P.cellsOf f.type)) w
 | [],_=>by simp
 | f::fs,h=>by
  simp only[vj,zF]at h;have ih:=Db (P:=P) (w:=w) fs h.2;simp only[List.mapM_cons,Sem.run_bind,QQ h.1,Result.andThen_ok,Sem.run_pure,ih,zR]
theorem CM {raw:Nat->Bool}:∀{ps:List (Nat×Value)} {A:Prop},lD raw ps A->A/\∀Zm cells,Instr.fill Zm cells (vu raw ps)=Instr.fill Zm cells ps
 | [],A,h=>⟨h,λ_ _=>rfl⟩
 | (i,v)::ps,A,h=>by
  simp only[lD]at h;cases hr:raw i
  ·rw[hr]at h;obtain⟨hA,ih⟩:=CM h;exact⟨hA,λZm cells=>by simp only[vu,Instr.fill,ih,hr,cond_false]⟩
  ·rw[hr]at h;simp only[cond_true]at h;obtain⟨hA,ih⟩:=CM h.2;have e:(Value.agg #[v]).cells=v.cells:=by
    rcases h.1 with rfl|⟨t,u,rfl⟩<;>rfl
   exact⟨hA,λZm cells=>by simp only[vu,Instr.fill,ih,hr,cond_true,e]⟩
theorem JV {P:Program}{t:Nat}{ps:Array (Nat×Value)}{K:Value->Prop}{w:World}(h:nc P t ps.toList K) :
 ∃v,(Instr.build t ps).run P w=.ok v w/\K v:=by
 unfold nc at h;split at h
 case h_1 p fs hi hu=>
  split at h
  case h_2=>exact h.elim
  rename_i z hz;obtain⟨h,m⟩:=CM h;split at h
  case h_2=>exact h.elim
  rename_i cs hf;rw[Wu]at h;obtain⟨a,s⟩:=h;refine⟨_,?_,s⟩;have u:=Db (P:=P) (w:=w) fs.toList a;have d:(fs.mapM λf=>(do pure (f.offset,←sizeOf f.type):Sem (Nat×Nat))).run P w=.ok (fs.map λf=>(f.offset,P.cellsOf f.type)) w:=by
   rw[Array.mapM_eq_mapM_toList];simp only[Sem.run_map,u,Result.andThen_ok]
   congr 1
   apply Array.ext';simp
  have g:(λi=>(fs.map λf=>(f.offset,P.cellsOf f.type))[i]?)=Bc P fs:=by
   funext i
   simp only[Bc,Array.getElem?_map];cases hfi:fs[i]? with
   | none=>simp
   | some f=>
    have b:f∈fs.toList:=by
     have:=yr hfi;simpa using this
    have:=ke.1 a f b;obtain⟨p,j⟩:=qi.1 this;simp[j,Program.cellsOf]
  have:=UF _ _ _ _ hf;rw[m]at this;simp only[Instr.build,Sem.run_bind,VA hi hz,Result.andThen_ok,run_underlying hu,d,g];have e:z.cells.toList.toArray=z.cells:=by simp
  rw[e]at this;simp[this]
 case h_2 p n e hi hu=>
  split at h
  case h_2=>exact h.elim
  rename_i z te hz hte;split at h
  case h_2=>exact h.elim
  rename_i cs hf;refine⟨_,?_,h⟩;have:=UF _ _ _ _ hf;have e1:z.cells.toList.toArray=z.cells:=by simp
  rw[e1]at this;have r:(sizeOf e).run P w=.ok te.size w:=by simp[sizeOf,V8 hte]
  simp only[Instr.build,Sem.run_bind,VA hi hz,Result.andThen_ok,run_underlying hu,r];simp[this]
 ·exact h.elim
theorem Wr {o:Option Value}{K:Value->Prop}(h:wv o K):∃v,o=some v/\K v:=by
 cases o with
 | none=>exact h.elim
 | some v=>exact⟨v,rfl,h⟩
theorem JU {P:Program}{t off:Nat}{cs:Array Value}{K:Value->Prop}{w:World}(h:uy P t cs.toList off K) :
 ∃v,(part t cs off).run P w=.ok v w/\K v:=by
 unfold uy at h;split at h
 case h_2=>exact h.elim
 rename_i d ti hu hi;cases hd:Uq d
 ·rw[hd]at h;obtain⟨v,b,a⟩:=Wr h;refine⟨v,?_,a⟩;have:cs[off]?=some v:=by simpa using b
  simp[part,KW hu,hd,this]
 ·rw[hd]at h;refine⟨_,?_,h⟩;simp only[part,Sem.run_bind,KW hu,hd,Result.andThen_ok,sizeOf,V8 hi,zS,Sem.run_pure]
  congr 2
  apply Array.ext';simp
theorem Kl {P:Program}{w:World}{z:Int}{y:Nat}{code:BoundsCode}(h0:0<=z)(h1:z<=y):(Instr.sliceBound (.int .i64 z) y code).run P w=.ok z.toNat w:=by
 simp[Instr.sliceBound,asIntOf,h0,h1]
theorem DF {o:Option Value}{d l:Int}(h:(match o with|none=>some d|some (.int .i64 z)=>some z|_=>none)=some l):(o=none/\l=d)\/o=some (.int .i64 l):=by
 split at h
 ·simp at h;exact .inl ⟨rfl,h.symm⟩
 ·simp at h;subst h;exact .inr rfl
 ·cases h
theorem N1 {P:Program}{t:Nat}{x:Value}{lo hi mx:Option Value}{K:Value->Prop}{w:World}(h:nI P t x lo hi mx K) :
 ∃v,(Instr.sliceAt t x lo hi mx).run P w=.ok v w/\K v:=by
 unfold nI at h;split at h
 case h_2=>exact h.elim
 rename_i e a n c hu;split at h
 case h_2=>exact h.elim
 rename_i ti hi';simp only at h;split at h
 case h_2=>exact h.elim
 rename_i l hh m hlo hhi hmx;obtain⟨s,A,u,g,p⟩:=h;refine⟨_,?_,p⟩;simp only at g;have b:(sizeOf e).run P w=.ok ti.size w:=by simp[sizeOf,V8 hi']
 have j:(Instr.sliceBounds true n c lo hi mx).run P w=.ok (l.toNat,hh.toNat,m.toNat) w:=by
  have r:(mx=none/\m=c)\/(mx=some (.int .i64 m)/\hi≠none):=by
   split at hmx
   ·simp at hmx;exact .inl ⟨rfl,hmx.symm⟩
   ·simp at hmx;subst hmx;exact .inr ⟨rfl,by simp⟩
   ·cases hmx
  have i:=DF hlo;have d:=DF hhi;clear hlo hhi hmx;rcases r with⟨rfl,rfl⟩|⟨rfl,hne⟩<;>rcases d with⟨rfl,rfl⟩|rfl
  case inr.inl=>exact absurd rfl hne
  all_goals rcases i with⟨rfl,rfl⟩|rfl
  ·simp[Instr.sliceBounds]
  ·have:=Kl (P:=P) (w:=w) (z:=l) (y:=n) (code:=.sliceB) s O;simp[Instr.sliceBounds,this]
  ·have:=Kl (P:=P) (w:=w) (z:=hh) (y:=c) (code:=.sliceAcap) O O;simp[Instr.sliceBounds,this]
  ·have:=Kl (P:=P) (w:=w) (z:=hh) (y:=c) (code:=.sliceAcap) O O;have:=Kl (P:=P) (w:=w) (z:=l) (y:=hh.toNat) (code:=.sliceB) O O;simp[Instr.sliceBounds, *]
  ·have:=Kl (P:=P) (w:=w) (z:=m) (y:=c) (code:=.slice3Acap) O O;have:=Kl (P:=P) (w:=w) (z:=hh) (y:=m.toNat) (code:=.slice3B) O O;simp[Instr.sliceBounds, *]
  ·have:=Kl (P:=P) (w:=w) (z:=m) (y:=c) (code:=.slice3Acap) O O;have:=Kl (P:=P) (w:=w) (z:=hh) (y:=m.toNat) (code:=.slice3B) O O;have:=Kl (P:=P) (w:=w) (z:=l) (y:=hh.toNat) (code:=.slice3C) O O;simp[Instr.sliceBounds, *]
 simp only[Instr.sliceAt,Instr.slice,Sem.run_bind,run_underlying hu,Result.andThen_ok,j,b,Sem.run_pure]
theorem RA {P:Program}{op:BinOp}{t:Nat}{x y:Operand}{a b:Value}(w:World)(h:(∀cs,a≠.agg cs)/\a≠.nilIface):(eqGuard op t x y a b).run P w=.ok () w:=by
 unfold eqGuard;cases op<;>simp
 all_goals (cases a<;>first|rfl | (simp at h))
theorem Sw {P:Program}{op:BinOp}{t:Nat}{x y:Value}{K:Value->Prop}(h:lW P op t x y K):(∀cs,x≠.agg cs)/\x≠.nilIface:=by
 unfold lW at h;split at h<;>first|exact absurd h id | (constructor<;>simp)
theorem No {P:Program}{op:BinOp}{t:Nat}{x y:Value}{K:Value->Prop}(h:lV P op t x y K):∀cs,x≠.agg cs:=by
 unfold lV at h;split at h
 case h_4=>rcases h.1 with rfl|⟨t',u,rfl⟩<;>simp
 all_goals first|exact absurd h id|simp
theorem SD {P:Program}{op:BinOp}{t:Nat}{x:Operand}{c:Value}{a b:Value}(w:World)(h:∀cs,a≠.agg cs):(eqGuard op t x (.const c) a b).run P w=.ok () w:=by
 unfold eqGuard;cases op<;>simp
 all_goals (cases a<;>first|rfl|exact absurd rfl (h _) | (cases b<;>simp))
theorem OH {y:Operand}(h:wE y=true):∃c,y=.const c:=by
 unfold wE at h;split at h<;>first|exact⟨_,rfl⟩|cases h
theorem GH {P:Program}{s f:Nat}{K:Field->Prop}(h:nA P s f K):∃fs fd,P.underlying s=some (.struct fs)/\fs[f]?=some fd/\K fd:=by
 unfold nA at h;split at h
 ·split at h
  ·exact⟨_,_,by assumption,by assumption,h⟩
  ·exact h.elim
 ·exact h.elim
theorem SC {P:Program}{t:Nat}(h:P.cellsOf t≠0):(P.info? t).isSome=true:=by
 unfold Program.cellsOf at h;cases hi:P.info? t with
 | none=>rw[hi]at h;simp at h
 | some i=>rfl
theorem By {ρ:Env}{a:Act}(hf:∀x v,ev ρ x=some v->a.eval x=v){o:Option Operand}{v:Option Value}(h:vp ρ o=some v):o.map a.eval=v:=by
 cases o with
 | none=>simp[vp]at h;simp[h]
 | some o=>
  simp only[vp,oT]at h;obtain⟨u,b,rfl⟩:=h;simp[hf _ _ b]
theorem Vx {P:Program}{t:Nat}{d:TypeDesc}{cs:Array Value}{off:Nat}{v:Value}{w:World}(hd:P.underlying t=some d)(hag:Uq d=false)(h:cs.toList[off]?=some v):(part t cs off).run P w=.ok v w:=by
 have a:cs[off]?=some v:=by simpa using h
 simp[part,KW hd,hag,a]
theorem Bn {P:Program}{xs ys:Array Value}(d:Nat):∀(fs:List Field) (b:Bool),pn P xs.toList ys.toList fs=some b->∀w,(Op.eqFields (d+1) xs ys fs).run P w=.ok b w
 | [],b,h,w=>by simp[pn]at h;subst h;simp[Op.eqFields]
 | f::fs,b,h,w=>by
  simp only[pn]at h;cases hn:f.name == "_"
  ·rw[hn]at h;simp only[cond_false]at h;have hne:f.name ≠ "_" := by simpa using hn
   split at h
   ·rename_i k0 k a k' b' r hu hx hy hr;split at h
    case isFalse=>cases h
    rename_i e;subst e;simp only[Option.some.injEq]at h;subst h;have ih:=Bn (d:=d) fs r hr w;simp only[Op.eqFields,hne,ne_eq,not_false_eq_true,zS,Sem.run_bind,Vx hu rfl hx,Vx hu rfl hy,Result.andThen_ok,run_equalIn_int w d f.type k k0 a b' hu];cases hab:a==b'<;>simp[ih]
   ·rename_i a b' r hu hx hy hr;simp only[Option.some.injEq]at h;subst h;have ih:=Bn (d:=d) fs r hr w;simp only[Op.eqFields,hne,ne_eq,not_false_eq_true,zS,Sem.run_bind,Vx hu rfl hx,Vx hu rfl hy,Result.andThen_ok,run_equalIn_bool' w d f.type a b' hu];cases hab:a==b'<;>simp[ih]
   ·cases h
  ·rw[hn]at h;cases h
theorem AF {P:Program}{e:TypeId}(hC:P.cellsOf e=1){xs ys:Array Value}(d:Nat):∀(is:List Nat) (b:Bool),pG P e xs.toList ys.toList is=some b->∀w,(Op.eqItems (d+1) e (P.cellsOf e) xs ys is).run P w=.ok b w
 | [],b,h,w=>by simp[pG]at h;subst h;simp[Op.eqItems]
 | i::is,b,h,w=>by
  simp only[pG]at h;split at h
  ·rename_i k0 k a k' b' r hu hx hy hr;split at h
   case isFalse=>cases h
   rename_i e';subst e';simp only[Option.some.injEq]at h;subst h;have ih:=AF hC d is r hr w;simp only[Op.eqItems,hC,ni,Sem.run_bind,Vx hu rfl hx,Vx hu rfl hy,Result.andThen_ok,run_equalIn_int w d e k k0 a b' hu];rw[hC]at ih;cases hab:a==b'<;>simp[ih]
  ·rename_i t0 p r hu hx hy hr;simp only[Option.some.injEq]at h;subst h;have ih:=AF hC d is r hr w;simp only[Op.eqItems,hC,ni,Sem.run_bind,Vx hu rfl hx,Vx hu rfl hy,Result.andThen_ok,CQ hu p d w];rw[hC]at ih;cases hab:p.isNone<;>simp[ih]
  ·cases h
theorem Jv {P:Program}{op:BinOp}{t:Nat}{xs ys:Array Value}{K:Value->Prop}(h:nL P op t xs.toList ys.toList K)(x y:Operand)(w:World) :
 ∃v,(do eqGuard op t x y (.agg xs) (.agg ys);binOp op t (.agg xs) (.agg ys):Sem Value).run P w=.ok v w/\K v:=by
 have fin:∀b:Bool,(Op.equalIn 10000 t (.agg xs) (.agg ys)).run P w=.ok b w->P.eqGuardType P.depth t=false->na op b K →
  ∃v,(do eqGuard op t x y (.agg xs) (.agg ys);binOp op t (.agg xs) (.agg ys):Sem Value).run P w=.ok v w/\K v:=by
  intro b a hgt h;have j:=run_eqGuard_agg (P:=P) w op t x y xs ys hgt;cases op<;>simp only[na]at h
  ·exact⟨_,by simp only[Sem.run_bind,j,Result.andThen_ok,run_eql_struct,a],h⟩
  ·exact⟨_,by simp only[Sem.run_bind,j,Result.andThen_ok,run_neq_struct,a],h⟩
 unfold nL at h;split at h
 case h_1 fs hu=>
  rw[Wu]at h;obtain⟨d,h⟩:=h;simp only[zF,mq]at d;split at h
  case h_2=>exact h.elim
  rename_i b hb;have g:P.fieldsOf t=fs:=by simp[Program.fieldsOf,hu]
  have a:(Op.equalIn 10000 t (.agg xs) (.agg ys)).run P w=.ok b w:=by
   have:=run_equalIn_struct (P:=P) w 9999 t xs ys (by rw[g];exact hu) d.1;rw[g]at this;exact this.trans (Bn 9998 fs.toList b hb w)
  exact fin b a d.2 h
 case h_2 n e hu=>
  rw[Wu]at h;obtain⟨d,h⟩:=h;simp only[zF,mq,zT]at d;split at h
  case h_2=>exact h.elim
  rename_i b hb;obtain⟨i,m⟩:=qi.1 d.2.1;exact fin b ((run_equalIn_array (P:=P) w 9999 xs ys hu m).trans (AF d.2.2 9998 _ b hb w)) d.1 h
 case h_3=>exact h.elim
theorem GO {P:Program}{ρ:Env}{K:Value->Prop}{a:Act}{w:World}(hf:∀x v,ev ρ x=some v->a.eval x=v)(o:Oper)(hk:qK P o.op ρ w.heap K) :
 ∃v,(execOp a.eval o).run P w=.ok (.value v) w/\K v:=by
 obtain⟨dst,op,ty,pos,Y,U⟩:=o;simp only at hk;have g:∀{s:Sem Value},(∃v,s.run P w=.ok v w/\K v)->∃v,(do pure (Next.value (←s)):Sem Next).run P w=.ok (.value v) w/\K v:=by
  rintro s ⟨v,j,e⟩;exact⟨v,by simp[j],e⟩
 unfold qK at hk;split at hk
 case h_1 x=>
  obtain⟨v,j,e⟩:=Wr hk;exact⟨v,by simp[execOp,hf _ _ j],e⟩
 case h_2 x=>
  obtain⟨v,j,e⟩:=Wr hk;exact⟨v,by simp[execOp,hf _ _ j],e⟩
 case h_3 c x y=>
  obtain⟨v,j,e⟩:=Wr hk;split at e
  ·obtain⟨u,A,e⟩:=Wr e;exact⟨u,by simp[execOp,hf _ _ j,asBool,hf _ _ A],e⟩
  ·obtain⟨u,A,e⟩:=Wr e;exact⟨u,by simp[execOp,hf _ _ j,asBool,hf _ _ A],e⟩
  ·exact e.elim
 case h_4 t x=>
  obtain⟨v,j,e⟩:=Wr hk;simp only[execOp,hf _ _ j];apply g;split at e
  case h_1 L c F=>
   rw[Wu]at e;obtain⟨d,hd,J⟩:=FX F;obtain⟨x,p,e⟩:=B8 e.2;exact⟨_,by simp only[Instr.loadAt,Instr.sureAddr,loadVar,Sem.run_bind,Sem.run_pure,Result.andThen_ok,KW hd,J];simpa using Ax p,e⟩
  case h_2 L cs F=>
   rw[Wu,Wu]at e;obtain⟨r,z,e⟩:=e;obtain⟨d,hd,J⟩:=DW F;obtain⟨vs,hl,e,V⟩:=Cx (P:=P) e;have W:P.cellsOf t=cs.length:=by simpa using r
   refine⟨_,?_,e⟩;simp only[Instr.loadAt,Instr.sureAddr,loadVar,Sem.run_bind,Sem.run_pure,Result.andThen_ok,KW hd,J,zS,QQ z,loadCells,W,V];simp
  ·exact e.elim
 case h_5 x=>
  obtain⟨v,j,e⟩:=Wr hk;simp only[execOp,hf _ _ j];split at e
  ·obtain⟨L,rfl,e⟩:=e;exact⟨_,by simp,e⟩
  ·exact⟨_,by simp,e⟩
  ·exact e.elim
 case h_6 op t x y yt=>
  obtain⟨D,p,hk⟩:=Wr hk;obtain⟨vy,hy,hk⟩:=Wr hk;simp only[execOp,hf _ _ p,hf _ _ hy];apply g;unfold wM at hk;cases hn:wE y
  ·rw[hn]at hk;simp only[cond_false]at hk;split at hk
   ·exact Jv hk x y w
   obtain⟨v,j,e⟩:=NW hk w;exact⟨v,by simp[RA w (Sw hk),j],e⟩
  ·rw[hn]at hk;simp only[cond_true]at hk;obtain⟨v,j,e⟩:=LY hk w;obtain⟨c,hc⟩:=OH hn;have hg:=SD (P:=P) (op:=op) (t:=t) (x:=x) (c:=c) (b:=vy) w (No hk);exact⟨v,by rw[hc];simp[hg,j],e⟩
 case h_7 op ty' x=>
  obtain⟨D,p,hk⟩:=Wr hk;simp only[execOp,hf _ _ p];apply g;split at hk
  ·exact⟨_,by simp[Op.unary],hk⟩
  ·exact⟨_,by simp[Op.unary,Op.intArith],hk⟩
  ·exact hk.elim
 case h_8 s d x=>
  obtain⟨D,p,hk⟩:=Wr hk;simp only[execOp,hf _ _ p];apply g;split at hk
  ·rename_i r z;exact⟨_,by simp[convert,run_underlying r,run_underlying z,Conv.intToInt],hk⟩
  ·rename_i r z;exact⟨_,by simp[convert,run_underlying r,run_underlying z],hk⟩
  ·rename_i r z;split at hk
   ·rename_i A;obtain⟨b,V,e⟩:=PK (P:=P) hk;exact⟨_,by simpa[convert,run_underlying r,run_underlying z,run_underlying A]using V,e⟩
   ·exact hk.elim
  ·exact hk.elim
 case h_9 s x f=>
  obtain⟨D,p,hk⟩:=Wr hk;obtain⟨fs,fd,F,H,hk⟩:=GH hk;simp only[execOp,hf _ _ p];apply g;split at hk
  ·rename_i L;rw[Wu]at hk;have R:P.cellsOf fd.type≠0:=by simpa using hk.1
   refine⟨_,?_,hk.2⟩;simp only[Instr.fieldAt,Sem.run_bind,run_underlying F,Result.andThen_ok,H,Instr.sureAddr,Sem.run_pure,fieldPlace,QQ (SC R),R,j8]
  ·exact hk.elim
 case h_10 s x f=>
  obtain⟨D,p,hk⟩:=Wr hk;obtain⟨fs,fd,F,H,hk⟩:=GH hk;simp only[execOp,hf _ _ p];apply g;split at hk
  ·rename_i cs;obtain⟨v,j,e⟩:=JU (w:=w) hk;refine⟨v,?_,e⟩;simp only[Instr.field,Sem.run_bind,run_underlying F,Result.andThen_ok,H,asAgg,Sem.run_pure,j]
  ·exact hk.elim
 case h_11 t x i=>
  obtain⟨D,p,hk⟩:=Wr hk;obtain⟨Z,E,hk⟩:=Wr hk;simp only[execOp,hf _ _ p,hf _ _ E];apply g;split at hk
  ·have A:=(by assumption:P.underlying t=some _);rw[Wu]at hk;obtain⟨r,L,rfl,z,Q,e⟩:=hk;refine⟨_,?_,e⟩;simp[Instr.indexAt,asIntOf,run_underlying A,QQ r,z,Q]
  ·have A:=(by assumption:P.underlying t=some _);rw[Wu]at hk;obtain⟨r,z,Q,e⟩:=hk;refine⟨_,?_,e⟩;simp[Instr.indexAt,asIntOf,run_underlying A,QQ r,z,Q,Instr.sureAddr]
  ·exact hk.elim
 case h_12 t x i=>
  obtain⟨D,p,hk⟩:=Wr hk;obtain⟨Z,E,hk⟩:=Wr hk;simp only[execOp,hf _ _ p,hf _ _ E];apply g;split at hk
  ·have A:=(by assumption:P.underlying t=some _);obtain⟨b,r,z,e⟩:=hk;refine⟨_,?_,e⟩;simp[Instr.index,asIntOf,run_underlying A,r,z]
  ·exact hk.elim
 case h_13 t x i ok=>
  obtain⟨D,p,hk⟩:=Wr hk;obtain⟨Z,E,hk⟩:=Wr hk;simp only[execOp,hf _ _ p,hf _ _ E];exact g (Mw hk)
 case h_14 t i=>
  obtain⟨D,p,hk⟩:=Wr hk;simp only[execOp,hf _ _ p];apply g;split at hk
  ·obtain⟨v,j,e⟩:=Wr hk;have M:=j;rw[vW]at M;exact⟨v,by simp[Instr.extract,M],e⟩
  ·exact hk.elim
 case h_15 fn x y=>
  split at hk
  ·rename_i va vb r z;have e1:=ZR hf r;have e2:=ZR hf z;refine⟨_,?_,hk⟩;have G:x.map a.eval=va.toArray:=by apply Array.ext';simpa using e1
   have X:y.map a.eval=vb.toArray:=by apply Array.ext';simpa using e2
   simp[execOp,Instr.makeFunc,G,X]
  ·exact hk.elim
 case h_16 t ps=>
  split at hk
  ·rename_i vs r;have e1:=V7 hf r;have G:ps.map (λ(i,x)=>(i,a.eval x))=vs.toArray:=by apply Array.ext';simpa using e1
   simp only[execOp];apply g;rw[G];exact JV (by simpa using hk)
  ·exact hk.elim
 case h_17 t x lo E mx=>
  obtain⟨D,p,hk⟩:=Wr hk;simp only[execOp,hf _ _ p];apply g;split at hk
  ·rename_i l h m r z Q;rw[By hf r,By hf z,By hf Q];exact N1 hk
  ·exact hk.elim
 case h_18 t x=>
  obtain⟨D,p,hk⟩:=Wr hk;rw[Wu]at hk;simp only[execOp,hf _ _ p];exact⟨_,by simp[run_makeInterface w t D hk.1],hk.2⟩
 case h_19 x xt t=>
  obtain⟨D,p,hk⟩:=Wr hk;simp only[execOp,hf _ _ p];apply g;split at hk
  case h_2=>exact hk.elim
  rename_i fs ti cs A E F;split at hk
  case h_2=>exact hk.elim
  rename_i zs hz;obtain⟨vs,b,j,e⟩:=hk.out;exact⟨_,RJ A E (by simpa using hz) j w,e⟩
 case h_20 c=>
  obtain⟨S,C,N⟩:=c;simp only at hk;split at hk
  ·rename_i x t ha ht;have B:=ZR hf ha;have e1:C.map a.eval = #[x]:=by apply Array.ext';simpa using B
   have e2:N = #[t]:=by apply Array.ext';simpa using ht
   subst e2;obtain⟨v,j,e⟩:=P4 (ty:=ty) hk;refine⟨v,?_,e⟩;simp[execOp,resolve,e1,invoke,builtin,j]
  ·rename_i L l n t ha ht;have B:=ZR hf ha;have e1:C.map a.eval = #[.slice L l n]:=by apply Array.ext';simpa using B
   have e2:N = #[t]:=by apply Array.ext';simpa using ht
   subst e2;split at hk
   ·rename_i A;refine⟨_,?_,hk⟩;simp[execOp,resolve,e1,invoke,builtin,Builtin.cap_,run_underlying A,goInt]
   ·exact hk.elim
  ·rename_i x xs ha;have B:=ZR hf ha;have e1:C.map a.eval=(x::xs).toArray:=by apply Array.ext';simpa using B
   obtain⟨v,j,e⟩:=A7 (P:=P) (w:=w) hk;refine⟨v,?_,e⟩;simp only[zS]at j;simp[execOp,resolve,e1,invoke,builtin,Builtin.max_,j]
  ·rename_i x xs ha;have B:=ZR hf ha;have e1:C.map a.eval=(x::xs).toArray:=by apply Array.ext';simpa using B
   obtain⟨v,j,e⟩:=A7 (P:=P) (w:=w) hk;refine⟨v,?_,e⟩;simp only[ze,j8]at j;simp[execOp,resolve,e1,invoke,builtin,Builtin.min_,j]
  ·exact hk.elim
 ·exact hk.elim
def nq (P:Program):List TypeId->Option (List SK)
 | []=>some []
 | t::ts=>match jZ P t,nq P ts with|some s,some ss=>some (s::ss)|_,_=>none
def V4 (P:Program)(f:Nat):Bool:=
 match P.funcs[f]? with
 | some fn=>!(fn.name == "runtime.NumGoroutine") && fn.body.isSome
 | none=>false
def tf (P:Program)(f:Nat)(args:List Value)(h:Hp)(K:aO):Prop:=
 ∀w:World,w.heap=h->∃b w',(callFunc f args.toArray).run P w=.ok (.value (.bool b)) w'/\Xd w w'/\K b w'.heap
def Az (P:Program)(f:Nat)(args:List Value)(h:Hp)(K:Value->Hp->Prop):Prop:=
 match P.funcs[f]? with
 | some fn=>match nq P fn.resultTypes.toList with
  | some rs=>match V4 P f with
   | true=>Wc P f args.toArray rs h (lam (eT rs) λvs h'=>K (pack rs vs) h')
   | false=>match rs with
    | [.one .b]=>tf P f args h λb h'=>K (.bool b) h'
    | _=>False
  | none=>False
 | none=>False
def Bz (P:Program)(v:Value)(name:String)(args:List Value)(ty:TypeId)(h:Hp)(K:Value->Hp->Prop):Prop:=
 match (match P.underlying ty with|some (.tuple ts)=>nq P ts.toList|_=>nq P [ty])with
 | some rs=>ja P v name args rs h (lam (eT rs) λvs h'=>K (pack rs vs) h')
 | none=>False
def Bi (P:Program)(fv:Fv):Prop:=V4 P fv.f=true
def V5 (P:Program)(fv:Fv)(args:List Value)(rs:List SK)(h:Hp)(R:eR (eT rs)):Prop:=
 Bi P fv/\EE P fv args rs h R
def Cb (P:Program)(fv:Fv)(args:List Value)(ty:TypeId)(h:Hp)(K:Value->Hp->Prop):Prop:=
 match (match P.underlying ty with|some (.tuple ts)=>nq P ts.toList|_=>nq P [ty])with
 | some rs=>V5 P fv args rs h (lam (eT rs) λvs h'=>K (pack rs vs) h')
 | none=>False
def AS (a:Addr)(vs:List Value)(h:Hp)(K:aP):Prop:=
 match vs with
 | [v]=>dU a v h K
 | vs=>nD a h vs 0 K
def sf (P:Program)(t:TypeId)(K:IntKind->CK->Prop):Prop:=
 match P.underlying t with
 | some (.map kt et)=>match P.underlying kt,pw P et with
  | some (.int k),some (.one c)=>K k c
  | _,_=>False
 | _=>False
def AY (P:Program)(t:TypeId)(len:Nat)(ps:List (Nat×Value))(K:TypeId->List Value->Prop):Prop:=
 match P.underlying t with
 | some (.slice e)=>match P.info? e with
  | some te=>match te.zero with
   | some z=>match len,ps with
    | 0,[]=>K e []
    | 0,_::_=>False
    | len+1,ps=>fR (Nat.ble ((len+1)*te.size) 16777216&&Nat.blt 0 ((len+1)*te.size)&&z.cells.size==te.size)
     (match rp (λi=>some (i*te.size,te.size)) (List.replicate (len+1) z.cells.toList).flatten ps with
     | some cs=>K e cs
     | none=>False)
   | none=>False
  | none=>False
 | _=>False
def eK (P:Program)(o:Op)(ty:TypeId)(ρ:Env)(h:Hp)(K:Value->Hp->Prop):Prop:=
 match o with
 | .store t a x=>wv (ev ρ a) λva=>wv (ev ρ x) λvx=>match va with
  | .pointer (some a)=>bif wP P t then fR ((P.info? t).isSome&&P.cellsOf t==1) (iS vx/\dU a vx h λh'=>K undef h')
   else fR ((P.info? t).isSome&&vx.cells.size==P.cellsOf t) (yd vx.cells.toList (AS a vx.cells.toList h λh'=>K undef h'))
  | _=>False
 | .alloc e=>match P.info? e with
  | some te=>match te.zero with
   | some z=>Nw (.cells z.cells e (0,0)) h λa h'=>K (.pointer (some a)) h'
   | none=>False
  | none=>False
 | .box e x=>wv (ev ρ x) λv=>bif wP P e then iS v/\Nw (.cells #[v] e (0,0)) h λa h'=>K (.pointer (some a)) h' else Nw (.cells v.cells e (0,0)) h λa h'=>K (.pointer (some a)) h'
 | .buildSlice t len ps=>match HT ρ ps.toList with
  | some vs=>AY P t len vs λe cs=>Nw (.cells cs.toArray e (0,0)) h λa h'=>K (.slice (some a) len len) h'
  | none=>False
 | .makeMap t r=>match r with
  | none=>Nw (.map #[] 0) h λa h'=>K (.map (some a.block)) h'
  | some _=>False
 | .makeSlice t l c=>wv (ev ρ l) λvl=>wv (ev ρ c) λvc=>match P.underlying t,vl,vc with
  | some (.slice e),.int .i64 n,.int .i64 m=>match P.info? e with
   | some te=>match te.zero with
    | some z=>fR (z.cells.size==te.size&&Nat.blt 0 te.size) (Mk n m te.bytes e z.cells.toList h λs h'=>K (.slice s.a s.len s.cap) h')
    | none=>False
   | none=>False
  | _,_,_=>False
 | .range t x=>wv (ev ρ x) λv=>sf P t λki c=>match v with
  | .map m=>nY ki c m h λa h'=>K (.pointer (some a)) h'
  | _=>False
 | .mapUpdate t m k x=>wv (ev ρ m) λvm=>wv (ev ρ k) λvk=>wv (ev ρ x) λvx=>sf P t λki c=>match vm,vk with
  | .map m,.int k' n=>if ki=k' then mR c vx λx=>kG ki c m n x h λh'=>K undef h' else False
  | _,_=>False
 | .call c=>match c.callee,p8 ρ c.args.toList,c.argTypes.toList with
  | .value (.func f),some args,_=>Az P f args h K
  | .value g,some args,_=>wv (ev ρ g) λvg=>mR .fn vg λfv=>Cb P fv args ty h K
  | .invoke r name,some args,_=>wv (ev ρ r) λvr=>Bz P vr name args ty h K
  | .builtin .append,some [.slice sa sn sc,.slice xa xn xc],[t,t']=>match P.underlying t with
   | some (.slice e)=>match P.info? e with
    | some te=>match te.zero with
     | some z=>fR (Nat.beq t t'&&z.cells.size==te.size&&Nat.blt 0 te.size) (App ⟨sa,sn,sc⟩ te.size te.bytes e z.cells.toList ⟨xa,xn,xc⟩ h λs h'=>K (.slice s.a s.len s.cap) h')
     | none=>False
    | none=>False
   | _=>False
  | .builtin .delete,some [.map m,.int k' n],t::_=>sf P t λki c=>if ki=k' then lI ki c m n h λh'=>K (.tuple #[]) h' else False
  | .builtin .append,some [.slice sa sn sc,.int .i64 n],[t,t']=>match P.underlying t,P.underlying t' with
   | some (.slice e),some (.int _)=>match P.info? e with
    | some te=>match te.zero with
     | some z=>fR (z.cells.size==te.size&&Nat.blt 0 te.size) (ug ⟨sa,sn,sc⟩ te.size te.bytes e z.cells.toList n h λs h'=>K (.slice s.a s.len s.cap) h')
     | none=>False
    | none=>False
   | _,_=>False
  | .builtin .copy,some [.slice da dn dc,.slice xa xn xc],t::_=>match P.underlying t with
   | some (.slice e)=>match P.info? e with
    | some te=>tQ ⟨da,dn,dc⟩ te.size ⟨xa,xn,xc⟩ h λz h'=>K (.int .i64 z) h'
    | none=>False
   | _=>False
  | .builtin .clear,some [.slice sa sn sc],[t]=>match P.underlying t with
   | some (.slice e)=>match P.info? e with
    | some te=>match te.zero with
     | some z=>fR (z.cells.size==te.size&&Nat.blt 0 te.size) (xE ⟨sa,sn,sc⟩ z.cells.toList h λh'=>K (.tuple #[]) h')
     | none=>False
    | none=>False
   | _=>False
  | _,_,_=>False
 | _=>False
def si (P:Program)(o:Op)(ty:TypeId)(ρ:Env)(h:Hp)(K:Value->Hp->Prop):Prop:=
 bif sS o then qK P o ρ h (λv=>K v h)else eK P o ty ρ h K
theorem C3:∀{vs:List Value} {A:Prop},yd vs A->A/\∀v∈vs,dO v=true
 | [],A,h=>⟨h,by simp⟩
 | v::vs,A,h=>by
  have h1:dO v=true/\yd vs A:=by cases v<;>first|exact h.elim|exact⟨rfl,h⟩
  obtain⟨d,b⟩:=C3 h1.2;exact⟨d,λu a=>by
   rcases zV.1 a with rfl|a
   ·exact h1.1
   ·exact b u a⟩
theorem Xd.refl (w:World):Xd w w:=⟨rfl,rfl,rfl,zD _⟩
theorem Xd.trans {a b c:World}(h:Xd a b)(k:Xd b c):Xd a c:=⟨k.1.trans h.1,k.2.1.trans h.2.1,k.2.2.1.trans h.2.2.1,zY h.2.2.2 k.2.2.2⟩
theorem Vl (h:Hp)(a:Addr)(v:Value):(jT h a v).size=h.size:=by simp[jT]
theorem D3 {P:Program}{w:World}{a:Addr}{v:Value}(ho:dO v=true)(h1:(cell w.heap a).isSome=true)(h2:nh w.heap a=false):(store a v).run P w=.ok () (w.setCell a v):=by
 obtain⟨u,b⟩:=qi.1 h1;have e:w.cell? a=some u:=b;have d:w.frozen? a=false:=h2;cases v<;>simp[dO]at ho<;>simp[store,Sem.run,e,d]
theorem H9 {P:Program}:∀{vs:List Value} {w:World} {a:Addr} {i:Nat} {K:aP},(∀v∈vs,dO v=true)->nD a w.heap vs i K →
 ∃w',(storeCells a vs i).run P w=.ok () w'/\Xd w w'/\K w'.heap
 | [],w,a,i,K,_,h=>⟨w,by simp[storeCells],.refl _,h⟩
 | v::vs,w,a,i,K,ho,h=>by
  obtain⟨h1,h2,h3⟩:=h;have e:=D3 (P:=P) (ho v aA) h1 h2;obtain⟨w',m,j,d⟩:=H9 (P:=P) (w:=w.setCell (a.add i) v) (λu g=>ho u (by simp[g])) h3;refine⟨w',?_,Xd.trans (b:=w.setCell (a.add i) v) ⟨rfl,rfl,rfl,Nat.le_of_eq (Vl w.heap (a.add i) v).symm⟩ j,d⟩;simp only[storeCells,Sem.run_bind,e,Result.andThen_ok,m]
theorem SZ {P:Program}{vs:List Value}{w:World}{a:Addr}{K:aP}(ho:∀v∈vs,dO v=true)(h:AS a vs w.heap K) :
 ∃w',(storeCells a vs).run P w=.ok () w'/\Xd w w'/\K w'.heap:=by
 refine H9 ho ?_;unfold AS at h;split at h
 ·simpa[nD,Addr.add_zero']using h
 ·exact h
def QV (P:Program)(s:Sem Next)(w:World)(K:Value->Hp->Prop):Prop:=
 (∃v w',s.run P w=.ok (.value v) w'/\Xd w w'/\K v w'.heap) ∨
 (∃w',s.run P w=.ok .skip w'/\Xd w w'/\K undef w'.heap) ∨
 (∃f args rs R,s.run P w=.ok (.enter f args) w/\Wc P f args rs w.heap R/\∀vs h',Sat (eT rs) R vs h'->K (pack rs vs) h')
theorem QV.upon {P:Program}{o:Oper}{a:Act}{w:World}{K:Value->Hp->Prop}{next:Act->World->Prop}{Q:Exit->Act->World->Prop}
 (h:QV P (execOp a.eval o) w K) (hn:∀v w',Xd w w'->K v w'.heap->next (a.put o.dst v) w'):o.wp P a w next Q:=by
 unfold Oper.wp;rcases h with⟨v,w',hr,b,hK⟩|⟨w',hr,b,hK⟩|⟨f,args,rs,R,hr,hc,hK⟩
 ·rw[hr];exact hn _ _ b hK
 ·rw[hr];exact hn _ _ b hK
 ·rw[hr];refine(hc w rfl).mono λe w' ⟨b,vs,g,d⟩=>?_;subst g;exact hn _ _ b (hK _ _ d)
theorem Vu {P:Program}{f:Nat}(h:V4 P f=true)(args:Array Value)(w:World):(callFunc f args).run P w=.ok (.enter f args) w:=by
 unfold V4 at h;split at h
 ·rename_i fn hf;simp only[zF,mq,l6]at h;obtain⟨d,a⟩:=h;obtain⟨c,b⟩:=qi.1 a;simp[callFunc,hf,d,b]
 ·cases h
theorem SF {P:Program}{f:Nat}{args:List Value}{w:World}{K:Value->Hp->Prop}(h:Az P f args w.heap K):QV P (callFunc f args.toArray) w K:=by
 unfold Az at h;split at h
 ·split at h
  ·rename_i rs hrs;split at h
   ·rename_i hc;exact .inr (.inr ⟨f,_,rs,_,Vu hc _ _,h,λvs j a=>VT a⟩)
   ·split at h
    ·obtain⟨b,g,e,d,i⟩:=h w rfl;exact .inl ⟨_,g,e,d,i⟩
    ·exact h.elim
  ·exact h.elim
 ·exact h.elim
theorem NO {P:Program}{fv:Fv}{args:List Value}{ty:Nat}{w:World}{K:Value->Hp->Prop}(h:Cb P fv args ty w.heap K) :
 QV P (callFunc fv.f (fv.first++args.toArray++fv.captured)) w K:=by
 unfold Cb at h;split at h
 ·rename_i rs _;exact .inr (.inr ⟨_,_,rs,_,Vu h.1 _ _,h.2,λvs b a=>VT a⟩)
 ·exact h.elim
theorem MJ {P:Program}{v:Value}{name:String}{args:List Value}{ty:Nat}{w:World}{K:Value->Hp->Prop}(h:Bz P v name args ty w.heap K) :
 QV P (callMethod v name args.toArray) w K:=by
 unfold Bz at h;split at h
 ·rename_i rs _;obtain⟨t,u,f,rfl,d,b,h⟩:=h;refine .inr (.inr ⟨f,_,rs,_,?_,h,λvs e a=>VT a⟩);simp only[callMethod,Sem.run_bind,run_program,Result.andThen_ok,d,b];simp
 ·exact h.elim
theorem Ao {P:Program}{t:Nat}{K:IntKind->CK->Prop}(h:sf P t K):∃kt et k c,P.underlying t=some (.map kt et)/\P.underlying kt=some (.int k)/\K k c:=by
 unfold sf at h;split at h
 ·split at h
  ·exact⟨_,_,_,_,by assumption,by assumption,h⟩
  ·exact h.elim
 ·exact h.elim
theorem Ux (w:World)(o:Obj):Xd w {w with heap:=w.heap.push o}:=⟨rfl,rfl,rfl,by simp⟩
theorem Hq (h:Hp)(r:Nat)(o:Obj):QB h (h.setIfInBounds r o) r:=⟨by simp,λb a=>by rw[yg (Ne.symm a)]⟩
theorem Fh {es:List MapEntry}{k:IntKind}{c:CK}:∀(l:List (Int×c.T)) (es:List MapEntry) (j:Nat) (n:Int) (x:c.T),
 es.map (λe=>(e.key,e.val))=l.map (λx=>(Value.int k x.1,c.v x.2))->(l.map (·.1)).Nodup->l.findIdx? (λx=>x.1==n)=some j →
 (es.modify j λe=>{e with key:=.int k n,val:=c.v x}).map (λe=>(e.key,e.val))=(l.map λy=>if y.1==n then(n,x)else y).map (λx=>(Value.int k x.1,c.v x.2))
 | [],es,j,n,x,he,hn,hj=>by simp at hj
 | y::l,[],j,n,x,he,hn,hj=>by simp at he
 | y::l,e::es,j,n,x,he,hn,hj=>by
  simp only[zR,List.cons.injEq]at he;simp only[zR,zo]at hn;simp only[vQ]at hj;cases hy:y.1==n
  ·rw[hy]at hj;simp only[ze,j8,oT]at hj;obtain⟨j',hj',rfl⟩:=hj;have:=Fh (es:=es) l es j' n x he.2 hn.2 hj';simp only[List.modify_succ_cons,zR,this,hy,he.1];simp
  ·rw[hy]at hj;simp at hj;subst hj;have a:y.1=n:=by simpa using hy
   simp only[List.modify_zero_cons,zR,hy,zS,List.cons.injEq,tI,he.2]
   congr 1
   have:∀z∈l,(z.1==n)=false:=by
    intro z hz;have:z.1≠y.1:=λe=>hn.1 (by rw[←e];exact xB hz);simpa[a]using this
   have e:l=l.map λz=>if z.1==n then(n,x)else z:=by
    conv=>lhs;rw[←uM l]
    apply kh;intro z hz;simp[this z hz]
   exact e
theorem Pf {α:Type}{l:List (Int×α)}{n:Int}{j:Nat}(h:l.findIdx? (λx=>x.1==n)=some j):l.any (λx=>x.1==n)=true:=by
 obtain⟨x,a,rfl⟩:=Ul h;rw[kf];exact⟨x,zG a,by simp⟩
theorem GD {α:Type}{l:List (Int×α)}{n:Int}(h:l.findIdx? (λx=>x.1==n)=none):l.any (λx=>x.1==n)=false:=by
 rw[uh]at h;rw[mg];simpa using h
theorem gY {α:Type}{l:List (Int×α)}{n:Int}{x:α}(hn:(l.map (·.1)).Nodup):((dA l n x).map (·.1)).Nodup:=by
 unfold dA;split
 ·have:(l.map λy=>if y.1==n then(n,x)else y).map (·.1)=l.map (·.1):=by
   rw[lx];apply kh;intro y _;simp only[Function.comp];split
   ·rename_i h;simp at h;exact h.symm
   ·rfl
  rwa [this]
 ·rename_i h;rw[zy,nC];refine⟨hn,by simp,?_⟩;intro a ha b hb;simp at hb;subst hb;rintro rfl;obtain⟨y,d,rfl⟩:=zE.1 ha;exact h (kf.2 ⟨y,d,by simp⟩)
theorem Pt {P:Program}{t kt et:Nat}{k:IntKind}{c:CK}(hu:P.underlying t=some (.map kt et))(hk:P.underlying kt=some (.int k)){r:Nat}{l:List (Int×c.T)}{n:Int}{x:c.T}{w:World}
 (hm:dH w.heap r k c l):∃w',(Instr.mapUpdate t (.map (some r)) (.int k n) (c.v x)).run P w=.ok () w'/\Xd w w'/\QB w.heap w'.heap r/\dH w'.heap r k c (dA l n x):=by
 obtain⟨es,d,s,i,A,F,C⟩:=hm;have E:r<w.heap.size:=(zz.1 s).1;have g:∀o,(w.heap.setIfInBounds r o)[r]?=some o:=λo=>by simp[E]
 cases hf:l.findIdx? (λx=>x.1==n)with
 | some j=>
  obtain⟨y,G,B⟩:=Ul hf;have H:j<l.length:=(cX.1 G).1;have z:es.toList.length=l.length:=by simpa using congrArg List.length i
  have p:j<es.size:=by simp at z;omega
  have u:es[j].key=.int k n:=by
   have:=congrArg (λl=>l[j]?) i;simp only[zg,G,zZ]at this;rw[vW,Array.getElem?_eq_getElem p]at this;simp at this;rw[this.1,B]
  refine⟨{w with heap:=w.heap.setIfInBounds r (.map (es.modify j λe=>{e with key:=.int k n,val:=c.v x}) d)},?_,⟨rfl,rfl,rfl,by simp⟩,Hq _ _ _,?_⟩
  ·simp only[Instr.mapUpdate,Sem.run_bind,run_underlying hu,Result.andThen_ok,QK hk,getObj,Sem.run,s,KA hk i,hf];simp[Array.getElem?_eq_getElem p,u,Instr.keyThatStays,Instr.sameBits,setObj,Sem.run,s]
  ·refine⟨_,d,g _,?_,gY A,?_,?_⟩
   ·rw[Aj,Fh (es:=[]) l es.toList j n x i A hf];simp[dA,Pf hf]
   ·have:(es.modify j λe=>{e with key:=.int k n,val:=c.v x}).toList.map (·.born)=es.toList.map (·.born):=by
     rw[Aj];apply zr;intro m;simp only[zg,uf];cases es.toList[m]?<;>simp
     split<;>rfl
    rw[this];exact F
   ·intro e he';have:e.born∈(es.modify j λe=>{e with key:=.int k n,val:=c.v x}).toList.map (·.born):=xB he';have e2:(es.modify j λe=>{e with key:=.int k n,val:=c.v x}).toList.map (·.born)=es.toList.map (·.born):=by
     rw[Aj];apply zr;intro m;simp only[zg,uf];cases es.toList[m]?<;>simp
     split<;>rfl
    rw[e2]at this;obtain⟨K,L,J⟩:=zE.1 this;rw[←J];exact C K L
 | none=>
  refine⟨{w with heap:=w.heap.setIfInBounds r (.map (es.push {key:=.int k n,val:=c.v x,born:=d}) (d+1))},?_,⟨rfl,rfl,rfl,by simp⟩,Hq _ _ _,?_⟩
  ·simp only[Instr.mapUpdate,Sem.run_bind,run_underlying hu,Result.andThen_ok,QK hk,getObj,Sem.run,s,KA hk i,hf];simp[setObj,Sem.run,s]
  ·refine⟨_,d+1,g _,?_,gY A,?_,?_⟩
   ·simp[dA,GD hf,i]
   ·simp only[Array.toList_push,zy,zR,pX,pY];refine⟨F,by simp,?_⟩;intro a ha b hb';simp at hb';subst hb';obtain⟨e,D,rfl⟩:=zE.1 ha;exact C e D
   ·intro e he';simp only[Array.toList_push,zK,zL]at he';rcases he' with h|rfl
    ·have:=C e h;omega
    ·simp
theorem FN {k:IntKind}{c:CK}:∀(l:List (Int×c.T)) (es:List MapEntry) (j:Nat) (n:Int),
 es.map (λe=>(e.key,e.val))=l.map (λx=>(Value.int k x.1,c.v x.2))->(l.map (·.1)).Nodup->l.findIdx? (λx=>x.1==n)=some j →
 (es.eraseIdx j).map (λe=>(e.key,e.val))=(cR l n).map (λx=>(Value.int k x.1,c.v x.2))
 | [],es,j,n,he,hn,hj=>by simp at hj
 | y::l,[],j,n,he,hn,hj=>by simp at he
 | y::l,e::es,j,n,he,hn,hj=>by
  simp only[zR,List.cons.injEq]at he;simp only[zR,zo]at hn;simp only[vQ]at hj;cases hy:y.1==n
  ·rw[hy]at hj;simp only[ze,j8,oT]at hj;obtain⟨j',hj',rfl⟩:=hj;have:=FN l es j' n he.2 hn.2 hj';simp only[List.eraseIdx_cons_succ,zR,this,cR,sP,hy,he.1];simp
  ·rw[hy]at hj;simp at hj;subst hj;have a:y.1=n:=by simpa using hy
   simp only[List.eraseIdx_zero,List.tail_cons,cR,sP,hy,Bool.not_true,ze,j8,he.2]
   congr 1
   symm
   rw[qg];intro z hz;have:z.1≠y.1:=λe=>hn.1 (by rw[←e];exact xB hz);simpa[a]using this
theorem MF {α:Type}{l:List (Int×α)}{n:Int}(h:l.findIdx? (λx=>x.1==n)=none):cR l n=l:=by
 rw[uh]at h;unfold cR;rw[qg];intro z hz;have:=h z hz;simpa using this
theorem jg {α:Type}{l:List (Int×α)}{n:Int}(hn:(l.map (·.1)).Nodup):((cR l n).map (·.1)).Nodup:=
 hn.sublist (List.Sublist.map _ tU)
theorem Rt {P:Program}{t kt et ty:Nat}{k:IntKind}{c:CK}(hu:P.underlying t=some (.map kt et))(hk:P.underlying kt=some (.int k)){m:Option Nat}{l:List (Int×c.T)}{n:Int}{w:World}{ats:List Nat}
 (hm:ji w.heap m k c l):∃w',(Builtin.delete_ (t::ats).toArray ty #[.map m,.int k n]).run P w=.ok (.tuple #[]) w'/\Xd w w'/\(∀r,m=some r->QB w.heap w'.heap r)/\(m=none->w'.heap=w.heap)/\ji w'.heap m k c (cR l n):=by
 cases m with
 | none=>
  simp only[ji]at hm;subst hm;exact⟨w,by simp[Builtin.delete_,run_underlying hu,QK hk],.refl _,λr h=>(by cases h),λ_=>rfl,rfl⟩
 | some r=>
  obtain⟨d,a,i,g,p,u,y⟩:=hm;have s:r<w.heap.size:=(zz.1 i).1;have b:∀o,(w.heap.setIfInBounds r o)[r]?=some o:=λo=>by simp[s]
  cases hf:l.findIdx? (λx=>x.1==n)with
  | some j=>
   refine⟨{w with heap:=w.heap.setIfInBounds r (.map (d.eraseIdxIfInBounds j) a)},?_,⟨rfl,rfl,rfl,by simp⟩,λz h=>(by cases h;exact Hq _ _ _),(λh=>by cases h),?_⟩
   ·simp[Builtin.delete_,run_underlying hu,QK hk,getObj,Sem.run,i,KA hk g,hf,setObj]
   ·refine⟨_,a,b _,?_,jg p,?_,?_⟩
    ·rw[Cj];exact FN l d.toList j n g p hf
    ·rw[Cj];exact u.sublist (List.Sublist.map _ (List.eraseIdx_sublist _ _))
    ·rw[Cj];intro e he';exact y e ((List.eraseIdx_sublist _ _).mem he')
  | none=>
   refine⟨{w with heap:=w.heap.setIfInBounds r (.map d a)},?_,⟨rfl,rfl,rfl,by simp⟩,λz h=>(by cases h;exact Hq _ _ _),(λh=>by cases h),?_⟩
   ·simp[Builtin.delete_,run_underlying hu,QK hk,getObj,Sem.run,i,KA hk g,hf,setObj]
   ·rw[MF hf];exact⟨d,a,b _,g,p,u,y⟩
theorem uZ {P:Program}{w:World}{sz n:Nat}{s:Sl}{xs:List Value}(hl:xs.length=s.len*sz)(h:Rd w.heap s.a xs)(hn:n=s.len) :
 (Builtin.firstCells sz n (.slice s.a s.len s.cap)).run P w=.ok xs.toArray w:=by
 subst hn;obtain⟨a,len,cap⟩:=s;cases a with
 | none=>simp only[Rd]at h;subst h;simp[Builtin.firstCells]
 | some a=>
  simp only at hl h;simp only[Builtin.firstCells];rw[←hl];have:=run_loadCells_list (P:=P) (w:=w) a xs (λj v b=>h j v b);exact this
theorem Vw {z:Array Value}(hz:0<z.size):∀n,Builtin.zeroCells z n=(List.replicate n z.toList).flatten.toArray:=by
 intro n;apply Array.ext';simp only[Builtin.zeroCells,Array.toList_map,Array.toList_range]
 induction n with
 | zero=>simp
 | succ n ih=>
  rw[Cc,List.flatten_append];simp only[wc,List.flatten_nil,kI];rw[←ih];rw[Nat.succ_mul,List.range_add,zy,lx]
  congr 1
  apply List.ext_getElem
  ·simp
  ·intro i h1 h2;simp at h1 h2;simp[uj h1,h1]
theorem ID (n c:Nat)(h:¬n<=c):Builtin.nextslicecap n c<=2*n:=by
 unfold Builtin.nextslicecap;split
 ·omega
 ·split
  ·omega
  ·have key:∀r c,c<=2*n->(Builtin.growBy n r c)<=2*n:=by
    intro r
    induction r with
    | zero=>intro c hc;simpa[Builtin.growBy]using hc
    | succ r ih=>
     intro c hc;simp only[Builtin.growBy];split
     ·exact hc
     ·exact ih _ O
   exact key _ _ O
theorem RZ {P:Program}{t e ty:Nat}{te:TypeInfo}{z:Value}{s x:Sl}{K:Sl->Hp->Prop}{w:World}(hu:P.underlying t=some (.slice e))(hi:P.info? e=some te)(hz:te.zero=some z)(hzs:z.cells.size=te.size)(hpos:0<te.size)
 (h:App s te.size te.bytes e z.cells.toList x w.heap K) :
 ∃r w',(Builtin.append_ #[t,t] ty #[.slice s.a s.len s.cap,.slice x.a x.len x.cap]).run P w=.ok (.slice (Sl.a r) r.len r.cap) w'/\Xd w w'/\K r w'.heap:=by
 obtain⟨L,H,N,M,F,J,D,W,V,b,d⟩:=h;have p:=uZ (P:=P) (n:=s.len) N F rfl;have i:=uZ (P:=P) (n:=x.len) M J rfl;by_cases hroom:s.len+x.len<=s.cap
 ·have b:=b hroom;cases hsa:s.a with
  | some a=>
   rw[hsa]at b;obtain⟨w',Q,R,A⟩:=H9 (P:=P) D b;rw[hsa]at p;refine⟨⟨some a,s.len+x.len,s.cap⟩,w',?_,R,A⟩;simp[Builtin.append_,run_underlying hu,sizeOf,typeInfo,hi,Builtin.lenOf,hroom,i,Q]
  | none=>
   rw[hsa]at b;rw[hsa]at p;refine⟨⟨none,s.len+x.len,s.cap⟩,w,?_,.refl _,b⟩;simp[Builtin.append_,run_underlying hu,sizeOf,typeInfo,hi,Builtin.lenOf,hroom,i]
 ·have d:=d hroom;have m:¬(2^48<Builtin.nextslicecap (s.len+x.len) s.cap*te.bytes):=by
   have:=ID (s.len+x.len) s.cap hroom;have:Builtin.nextslicecap (s.len+x.len) s.cap*te.bytes<=2*(s.len+x.len)*te.bytes:=kS _ this;rw[xf]at this;omega
  have G:¬(IntKind.i64.max<((s.len+x.len:Nat):Int)):=by
   have:IntKind.i64.max=9223372036854775807:=by decide
   rw[this];omega
  have B:¬(IntKind.i64.max<((s.len:Int)+(x.len:Int))):=by
   have:IntKind.i64.max=9223372036854775807:=by decide
   rw[this];omega
  have E:=Vw (z:=z.cells) O;have y:s.cap<s.len+x.len:=by omega
  have g:¬(281474976710656<Builtin.nextslicecap (s.len+x.len) s.cap*te.bytes):=by simpa using m
  let q:=Question.appendCap (s.len+x.len) s.cap e
  let c:=q.cut (w.tape w.drawn q)
  have S:s.len+x.len<=c:=by simp only[c,q,Question.cut];omega
  have A:=d c S;refine⟨⟨some ⟨w.heap.size,0,none⟩,s.len+x.len,c⟩,{w with drawn:=w.drawn+1,heap:=w.heap.push (.cells (L++H++(List.replicate (c-(s.len+x.len)) z.cells.toList).flatten).toArray e (0,0))},?_,⟨rfl,rfl,rfl,by simp⟩,A⟩;have U:(Question.appendCap (s.len+x.len) s.cap e).forced=false:=rfl;have C:¬(9223372036854775807<(s.len:Int)+(x.len:Int)):=by omega
  have u:=uZ (P:=P) (w:=w.drew) (n:=s.len) N (show Rd w.drew.heap s.a L from F) rfl;have j:=uZ (P:=P) (w:=w.drew) (n:=x.len) M (show Rd w.drew.heap x.a H from J) rfl;simp[Builtin.append_,run_underlying hu,sizeOf,typeInfo,hi,Builtin.lenOf,hroom,C,U,g,u,j,zeroValue,hz,E,newRow];refine⟨rfl,?_⟩;unfold World.alloc World.drew;simp[c,q]
theorem Pm {P:Program}{t t' e ty:Nat}{te:TypeInfo}{z:Value}{s:Sl}{n:Int}{ki:IntKind}{K:Sl->Hp->Prop}{w:World}(hu:P.underlying t=some (.slice e))(hu':P.underlying t'=some (.int ki))(hi:P.info? e=some te)(hz:te.zero=some z)(hzs:z.cells.size=te.size)(hpos:0<te.size)
 (h:ug s te.size te.bytes e z.cells.toList n w.heap K) :
 ∃r w',(Builtin.append_ #[t,t'] ty #[.slice s.a s.len s.cap,.int .i64 n]).run P w=.ok (.slice (Sl.a r) r.len r.cap) w'/\Xd w w'/\K r w'.heap:=by
 obtain⟨M,V,W,X,L,h5,h6,h7,i,m⟩:=h;obtain⟨n,rfl⟩:=zc M;simp only[dD]at h5 h6 h7 i m;have E:=uZ (P:=P) (n:=s.len) W X rfl;have R:∀v∈(List.replicate n z.cells.toList).flatten,dO v=true:=by
  intro v G;simp only[List.mem_flatten,xC]at G;obtain⟨l,⟨_,rfl⟩,G⟩:=G;exact L v G
 have C:IntKind.i64.wrap (n:Int)=n:=by unfold IntKind.wrap;simp[IntKind.bits,IntKind.signed];omega
 have D:IntKind.i64.wrap 0=0:=by decide
 have u:=Vw (z:=z.cells) O;have A:¬((n:Int)<0):=by omega
 have H:¬((n:Int)*(te.bytes:Int)>2^48):=by
  have:(2:Int)^46<=2^48:=by decide
  omega
 have p:¬(281474976710656<(n:Int)*(te.bytes:Int)):=by simpa using H
 have S:n*te.size=0->(List.replicate n z.cells.toList).flatten=[]:=by
  intro h0;rcases ux.1 h0 with h|h
  ·subst h;simp
  ·omega
 by_cases hroom:s.len+n<=s.cap
 ·have i:=i hroom;cases hsa:s.a with
  | some a=>
   rw[hsa]at i;obtain⟨w',U,Y,J⟩:=H9 (P:=P) R i;rw[hsa]at E;refine⟨⟨some a,s.len+n,s.cap⟩,w',?_,Y,J⟩;by_cases hn:n*te.size=0
   ·have:=S hn;rw[this]at U;rcases ux.1 hn with hn'|hn'
    ·subst hn';have b:s.len<=s.cap:=by simpa using hroom
     simp[Builtin.append_,run_underlying hu,run_underlying hu',sizeOf,typeInfo,hi,Builtin.lenOf,b,asInt,asIntOf,D,U]
    ·omega
   ·have g:¬n=0:=λe=>hn (by rw[e];simp);have d:¬te.size=0:=by omega
    simp[Builtin.append_,run_underlying hu,run_underlying hu',sizeOf,typeInfo,hi,Builtin.lenOf,hroom,U,asInt,asIntOf,C,A,p,hn,g,d,zeroValue,hz,u]
  | none=>
   rw[hsa]at i;rw[hsa]at E;refine⟨⟨none,s.len+n,s.cap⟩,w,?_,.refl _,i⟩;by_cases hn:n*te.size=0
   ·rcases ux.1 hn with hn'|hn'
    ·subst hn';have b:s.len<=s.cap:=by simpa using hroom
     simp[Builtin.append_,run_underlying hu,run_underlying hu',sizeOf,typeInfo,hi,Builtin.lenOf,b,asInt,asIntOf,D]
    ·omega
   ·have g:¬n=0:=λe=>hn (by rw[e];simp);have d:¬te.size=0:=by omega
    simp[Builtin.append_,run_underlying hu,run_underlying hu',sizeOf,typeInfo,hi,Builtin.lenOf,hroom,asInt,asIntOf,C,A,p,hn,g,d,zeroValue,hz,u]
 ·have m:=m hroom;have B:¬(2^48<Builtin.nextslicecap (s.len+n) s.cap*te.bytes):=by
   have:=ID (s.len+n) s.cap hroom;have:Builtin.nextslicecap (s.len+n) s.cap*te.bytes<=2*(s.len+n)*te.bytes:=kS _ this;rw[xf]at this;omega
  have j:¬(281474976710656<Builtin.nextslicecap (s.len+n) s.cap*te.bytes):=by simpa using B
  let q:=Question.appendCap (s.len+n) s.cap e
  let c:=q.cut (w.tape w.drawn q)
  have Z:s.len+n<=c:=by simp only[c,q,Question.cut];omega
  have J:=m c Z;refine⟨⟨some ⟨w.heap.size,0,none⟩,s.len+n,c⟩,{w with drawn:=w.drawn+1,heap:=w.heap.push (.cells (V++(List.replicate n z.cells.toList).flatten++(List.replicate (c-(s.len+n)) z.cells.toList).flatten).toArray e (0,0))},?_,⟨rfl,rfl,rfl,by simp⟩,J⟩;have hf:(Question.appendCap (s.len+n) s.cap e).forced=false:=rfl;have N:¬(9223372036854775807<(s.len:Int)+(n:Int)):=by omega
  have x:=uZ (P:=P) (w:=w.drew) (n:=s.len) W (show Rd w.drew.heap s.a V from X) rfl;by_cases hn:n*te.size=0
  ·rcases ux.1 hn with hn'|hn'
   ·subst hn';have b:¬s.len<=s.cap:=by simpa using hroom
    have y:¬(281474976710656<Builtin.nextslicecap s.len s.cap*te.bytes):=by simpa using j
    have Q:(Question.appendCap s.len s.cap e).forced=false:=rfl;have F:¬(9223372036854775807<(s.len:Int)):=by omega
    simp[Builtin.append_,run_underlying hu,run_underlying hu',sizeOf,typeInfo,hi,Builtin.lenOf,b,F,Q,y,x,zeroValue,hz,u,newRow,asInt,asIntOf,D];refine⟨rfl,?_⟩;unfold World.alloc World.drew;simp[c,q]
   ·omega
  ·have g:¬n=0:=λe=>hn (by rw[e];simp);have d:¬te.size=0:=by omega
   simp[Builtin.append_,run_underlying hu,run_underlying hu',sizeOf,typeInfo,hi,Builtin.lenOf,hroom,N,hf,j,x,zeroValue,hz,u,newRow,asInt,asIntOf,C,A,p,hn,g,d];refine⟨rfl,?_⟩;unfold World.alloc World.drew;simp[c,q]
theorem J6 {P:Program}{t e ty:Nat}{ats:List TypeId}{te:TypeInfo}{d s:Sl}{K:aN}{w:World}(hu:P.underlying t=some (.slice e))(hi:P.info? e=some te)
 (h:tQ d te.size s w.heap K):∃z w',(Builtin.copy_ (t::ats).toArray ty #[.slice d.a d.len d.cap,.slice s.a s.len s.cap]).run P w=.ok (.int .i64 z) w'/\Xd w w'/\K z w'.heap:=by
 obtain⟨p,r,i,u,m⟩:=h;have g:(Builtin.firstCells te.size (min s.len d.len) (.slice s.a s.len s.cap)).run P w=.ok p.toArray w:=by
  obtain⟨a,len,cap⟩:=s;cases a with
  | none=>simp only[Rd]at i;subst i;simp[Builtin.firstCells]
  | some a=>
   simp only at r i;simp only[Builtin.firstCells];rw[←r];exact run_loadCells_list (P:=P) (w:=w) a p (λj v B=>i j v B)
 have b:Nat.min s.len d.len=min s.len d.len:=rfl;cases hda:d.a with
 | none=>
  rw[hda]at m;refine⟨_,w,?_,.refl _,m⟩;simp[Builtin.copy_,run_underlying hu,sizeOf,typeInfo,hi,Builtin.lenOf,g,b,goInt]
 | some a=>
  rw[hda]at m;obtain⟨w',y,x,A⟩:=H9 (P:=P) u m;refine⟨_,w',?_,x,A⟩;simp[Builtin.copy_,run_underlying hu,sizeOf,typeInfo,hi,Builtin.lenOf,g,b,y,goInt]
theorem Oa {P:Program}{t e ty:Nat}{te:TypeInfo}{z:Value}{s:Sl}{K:aP}{w:World}(hu:P.underlying t=some (.slice e))(hi:P.info? e=some te)(hz:te.zero=some z)(hzs:z.cells.size=te.size)(hpos:0<te.size)
 (h:xE s z.cells.toList w.heap K):∃w',(Builtin.clear_ #[t] ty #[.slice s.a s.len s.cap]).run P w=.ok (.tuple #[]) w'/\Xd w w'/\K w'.heap:=by
 obtain⟨m,h⟩:=h;have d:=Vw (z:=z.cells) O;obtain⟨a,len,cap⟩:=s;cases a with
 | none=>exact⟨w,by simp[Builtin.clear_,run_underlying hu],.refl _,h⟩
 | some a=>
  simp only at h;cases len with
  | zero=>
   simp[nD]at h;exact⟨w,by simp[Builtin.clear_,run_underlying hu],.refl _,h⟩
  | succ n=>
   obtain⟨w',i,g,j⟩:=H9 (P:=P) (λv b=>by
    simp only[List.mem_flatten,xC]at b;obtain⟨l,⟨_,rfl⟩,b⟩:=b;exact m v b) h
   refine⟨w',?_,g,j⟩;simp[Builtin.clear_,run_underlying hu,zeroValue,typeInfo,hi,hz,d,i]
theorem L1 {P:Program}{t len:Nat}{ps:List (Nat×Value)}{K:TypeId->List Value->Prop}(h:AY P t len ps K):∃e te z cs,P.underlying t=some (.slice e)/\P.info? e=some te/\te.zero=some z/\K e cs ∧
 ((len=0/\ps=[]/\cs=[])\/(len*te.size<=16777216/\0<len*te.size/\z.cells.size=te.size/\rp (λi=>some (i*te.size,te.size)) (List.replicate len z.cells.toList).flatten ps=some cs)):=by
 unfold AY at h;split at h
 case h_2=>exact h.elim
 rename_i e hu;split at h
 case h_2=>exact h.elim
 rename_i te hi;split at h
 case h_2=>exact h.elim
 rename_i z hz;split at h
 ·exact⟨e,te,z,[],hu,hi,hz,h,.inl ⟨rfl,rfl,rfl⟩⟩
 ·exact h.elim
 ·rw[Wu]at h;obtain⟨a,h⟩:=h;simp only[zF,zT]at a;split at h
  case h_2=>exact h.elim
  rename_i cs hf;exact⟨e,te,z,cs,hu,hi,hz,h,.inr ⟨xU a.1.1,Nat.blt_eq.mp a.1.2,a.2,hf⟩⟩
theorem F0 {z:Array Value}(hz:0<z.size)(n:Nat):((Array.range (n*z.size)).map (z[· % z.size]!))=(List.replicate n z.toList).flatten.toArray:=Vw hz n
theorem OK {P:Program}{ρ:Env}{K:Value->Hp->Prop}{a:Act}{w:World}(hf:∀x v,ev ρ x=some v->a.eval x=v)(o:Oper)(hk:eK P o.op o.type ρ w.heap K) :
 QV P (execOp a.eval o) w K:=by
 obtain⟨dst,op,ty,pos,after,guard⟩:=o;simp only at hk;have p:∀{s:Sem Value},(∃v B,s.run P w=.ok v B/\Xd w B/\K v B.heap)->QV P (do pure (Next.value (←s)):Sem Next) w K:=by
  rintro s ⟨v,B,hv,H,D⟩;exact .inl ⟨v,B,by simp[hv],H,D⟩
 have M:∀{s:Sem Unit},(∃B,s.run P w=.ok () B/\Xd w B/\K undef B.heap)->QV P (do s;pure Next.skip:Sem Next) w K:=by
  rintro s ⟨B,hv,H,D⟩;exact .inr (.inl ⟨B,by simp[hv],H,D⟩)
 unfold eK at hk;split at hk
 case h_1 t x y=>
  obtain⟨va,J,hk0⟩:=Wr hk;clear hk;obtain⟨vx,hx,hk⟩:=Wr hk0;clear hk0;simp only[execOp,hf _ _ J,hf _ _ hx];split at hk
  ·rename_i ad;cases hraw:wP P t
   case true=>
    rw[hraw]at hk;simp only[cond_true]at hk;rw[Wu]at hk;obtain⟨hc,hif,s1,s2,D⟩:=hk;simp only[zF,zT]at hc;obtain⟨Z,Y⟩:=hc;apply M;have hone:dO vx=true:=by rcases hif with rfl|⟨t',u,rfl⟩<;>rfl
    have G:vx.cells = #[vx]:=by rcases hif with rfl|⟨t',u,rfl⟩<;>rfl
    have C:=D3 (P:=P) (w:=w) hone s1 s2;refine⟨w.setCell ad vx,?_,⟨rfl,rfl,rfl,Nat.le_of_eq (Vl w.heap ad vx).symm⟩,D⟩;have hr':(storeCells ad #[vx].toList).run P w=.ok () (w.setCell ad vx):=by
     simp only[storeCells,Addr.add_zero',Sem.run_bind,C,Result.andThen_ok];rfl
    simp only[Instr.storeAt,Instr.sureAddr,Sem.run_bind,Sem.run_pure,Result.andThen_ok,storeVar,QQ Z,Y,G,ne_eq,j8];simpa using hr'
   rw[hraw]at hk;simp only[cond_false]at hk;rw[Wu]at hk;obtain⟨hc,hk⟩:=hk;simp only[zF,zT]at hc;obtain⟨Z,Y⟩:=hc;obtain⟨hk,h3⟩:=C3 hk;apply M;obtain⟨B,C,H,D⟩:=SZ (P:=P) h3 hk;refine⟨B,?_,H,D⟩;simp only[Instr.storeAt,Instr.sureAddr,Sem.run_bind,Sem.run_pure,Result.andThen_ok,storeVar,QQ Z,Y,ne_eq,not_true_eq_false,j8];simpa using C
  ·exact hk.elim
 case h_2 e=>
  split at hk
  case h_2=>exact hk.elim
  rename_i N L;split at hk
  case h_2=>exact hk.elim
  rename_i z U;apply p;refine⟨_,_,?_,Ux _ _,hk⟩;simp[Instr.alloc,VA L U,newVar,newRow,newObj,Sem.run]
 case h_3 e x=>
  obtain⟨v,hv,hk⟩:=Wr hk;simp only[execOp,hf _ _ hv];apply p;cases hraw:wP P e
  case true=>
   rw[hraw]at hk;simp only[cond_true]at hk;have G:v.cells = #[v]:=by rcases hk.1 with rfl|⟨t',u,rfl⟩<;>rfl
   refine⟨_,_,?_,Ux _ _,hk.2⟩;simp[Instr.box,newVar,newRow,newObj,Sem.run,G]
  rw[hraw]at hk;refine⟨_,_,?_,Ux _ _,hk⟩;simp[Instr.box,newVar,newRow,newObj,Sem.run]
 case h_4 t len ps=>
  split at hk
  case h_2=>exact hk.elim
  rename_i vs hps;have e1:=V7 hf hps;have d:ps.map (λ(i,x)=>(i,a.eval x))=vs.toArray:=by apply Array.ext';simpa using e1
  obtain⟨e,N,z,cs,E,L,U,hk,hcase⟩:=L1 hk;simp only[execOp,d];apply p;refine⟨_,_,?_,Ux _ _,hk⟩;rcases hcase with⟨rfl,rfl,rfl⟩|⟨hle,X,hzs,hfl⟩
  ·simp only[Instr.buildSlice,Sem.run_bind,run_underlying E,Result.andThen_ok,sizeOf,V8 L,Sem.run_pure,uW];simp[Instr.fill,newRow,newObj,Sem.run,Array.range_zero']
  have hts:0<N.size:=Nat.pos_of_mul_pos_left X;have hfill:=UF _ _ _ _ hfl;have V:=F0 (z:=z.cells) O len;rw[hzs]at V;have hne:¬(len*N.size=0):=by omega
  have hle':¬(len*N.size>2^24):=by
   have:(2:Nat)^24=16777216:=by decide
   omega
  simp only[Instr.buildSlice,Sem.run_bind,run_underlying E,Result.andThen_ok,sizeOf,V8 L,Sem.run_pure,hle',j8,hne,VA L U,V,hzs,hfill,newRow,newObj,Sem.run]
 case h_5 t r=>
  split at hk
  ·apply p;refine⟨_,_,?_,Ux _ _,hk⟩;simp[Instr.makeMap,newObj,Sem.run]
  ·exact hk.elim
 case h_6 t l c=>
  obtain⟨vl,hl,hk⟩:=Wr hk;obtain⟨vc,hc,hk⟩:=Wr hk;simp only[execOp,hf _ _ hl,hf _ _ hc];split at hk
  case h_2=>exact hk.elim
  rename_i e n m E _;split at hk
  case h_2=>exact hk.elim
  rename_i N L;split at hk
  case h_2=>exact hk.elim
  rename_i z U;rw[Wu]at hk;obtain⟨j,h0,Z,Y,h3,hk⟩:=hk;simp only[zF,zT]at j;have X:0<N.size:=Nat.blt_eq.mp j.2;apply p;refine⟨_,_,?_,Ux _ _,hk⟩;have hwn:IntKind.i64.wrap n=n:=by unfold IntKind.wrap;simp[IntKind.bits,IntKind.signed];omega
  have hwm:IntKind.i64.wrap m=m:=by unfold IntKind.wrap;simp[IntKind.bits,IntKind.signed];omega
  have hbig:¬((N.bytes:Int)*m>2^48):=by
   have:(2:Int)^46<=2^48:=by decide
   omega
  have hm0:¬m<0:=by omega
  have hn0:¬n<0:=by omega
  have hnm:¬n>m:=by omega
  have aa:¬m<n:=by omega
  have V:=F0 (z:=z.cells) O m.toNat;have hrz2:Array.map (λx=>z.cells[x%z.cells.size]!) (Array.range (m.toNat*N.size))=(List.replicate m.toNat z.cells.toList).flatten.toArray:=by rw[←j.1];exact V
  have S:¬(281474976710656<(N.bytes:Int)*m):=by simpa using hbig
  by_cases hz0:m.toNat*N.size=0
  ·have hmz:m.toNat=0:=by
    rcases ux.1 hz0 with h|h
    ·exact h
    ·omega
   simp[Instr.makeSlice,run_underlying E,V8 L,asInt,asIntOf,hwn,hwm,S,hm0,hn0,hnm,aa,askRoom,mark,sizeOf,hmz,newRow];rw[show Array.range 0 = #[]from rfl];simp
  ·simp[Instr.makeSlice,run_underlying E,V8 L,asInt,asIntOf,hwn,hwm,S,hm0,hn0,hnm,aa,askRoom,mark,sizeOf,hz0,VA L U,newRow,hrz2];intro _;rfl
 case h_7 t x=>
  obtain⟨v,hv,F⟩:=Wr hk;obtain⟨kt,et,ki,c,E,W,Q⟩:=Ao F;clear hk F;simp only[execOp,hf _ _ hv];split at Q
  case h_2=>exact Q.elim
  rename_i m;apply p;obtain⟨l,hm,D⟩:=Q;cases m with
  | none=>
   refine⟨_,{w with heap:=w.heap.push (.mapIter none 0 #[] 0)},?_,Ux _ _,D _ aA (λb hb=>by simp[wG,wV hb]) ?_⟩
   ·simp[Instr.range,run_underlying E,newObj,Sem.run]
   ·simp only[ji]at hm;exact⟨hm,hm,rfl,0,#[],0,by simp⟩
  | some b=>
   obtain⟨es,clk,C,he,hn,hp,hb⟩:=hm;have hlt:b<w.heap.size:=(zz.1 C).1;refine⟨_,{w with heap:=w.heap.push (.mapIter (some b) clk #[] clk)},?_,Ux _ _,D _ aA (λb hb=>by simp[wG,wV hb]) ?_⟩
   ·simp[Instr.range,run_underlying E,newObj,getObj,Sem.run,C]
   ·exact⟨es,clk,#[],by simp,by simp[wG,wV hlt,C],he,hn,hp,hb,by rw[qg.2 (λe _=>by simp)];exact he,λx hx=>by cases hx⟩
 case h_8 t m k x=>
  obtain⟨vm,hm,F⟩:=Wr hk;obtain⟨vk,hkk,Q⟩:=Wr F;obtain⟨vx,hx,hk3⟩:=Wr Q;obtain⟨kt,et,ki,c,E,W,R⟩:=Ao hk3;clear hk F Q hk3;simp only[execOp,hf _ _ hm,hf _ _ hkk,hf _ _ hx];split at R
  ·split at R
   ·rename_i e;subst e;obtain⟨x,rfl,r,l,rfl,hl,D⟩:=VM R;apply M;obtain⟨B,C,H,ho,hl'⟩:=Pt (P:=P) E W (x:=x) hl;exact⟨B,C,H,D _ ho hl'⟩
   ·exact R.elim
  ·exact R.elim
 case h_9 c=>
  obtain⟨callee,A,ats⟩:=c;simp only at hk;split at hk
  ·rename_i f args' J;have e1:=ZR hf J;have d:A.map a.eval=args'.toArray:=by apply Array.ext';simpa using e1
   have:=SF hk;simpa[execOp,resolve,d,Act.eval,Deferred.ofValue,invoke]using this
  ·rename_i g args' _ J;obtain⟨vg,hg,hk⟩:=Wr hk;obtain⟨fv,rfl,hk⟩:=VM hk;have e1:=ZR hf J;have d:A.map a.eval=args'.toArray:=by apply Array.ext';simpa using e1
   have:=NO hk;simpa[execOp,resolve,d,hf _ _ hg,CK.v,Deferred.ofValue,invoke]using this
  ·rename_i r name args' J;obtain⟨vr,C,hk⟩:=Wr hk;have e1:=ZR hf J;have d:A.map a.eval=args'.toArray:=by apply Array.ext';simpa using e1
   have:=MJ hk;simpa[execOp,resolve,d,hf _ _ C,invoke]using this
  ·rename_i sa sn sc xa xn xc t t' J ht;have e1:=ZR hf J;have d:A.map a.eval = #[.slice sa sn sc,.slice xa xn xc]:=by apply Array.ext';simpa using e1
   have e2:ats = #[t,t']:=by apply Array.ext';simpa using ht
   subst e2;split at hk
   case h_2=>exact hk.elim
   rename_i e E;split at hk
   case h_2=>exact hk.elim
   rename_i N L;split at hk
   case h_2=>exact hk.elim
   rename_i z U;rw[Wu]at hk;obtain⟨j,hk⟩:=hk;simp only[zF,zT]at j;obtain⟨⟨Z,Y⟩,h3⟩:=j;have ett:t=t':=jQ Z;subst ett;obtain⟨r,B,C,H,D⟩:=RZ (P:=P) (ty:=ty) E L U Y (Nat.blt_eq.mp h3) hk;refine .inl ⟨_,B,?_,H,D⟩;simp only at C;simp[execOp,resolve,d,invoke,builtin,C]
  ·rename_i m k' n t ats' J ht;have e1:=ZR hf J;have d:A.map a.eval = #[.map m,.int k' n]:=by apply Array.ext';simpa using e1
   have e2:ats=(t::ats').toArray:=by apply Array.ext';simpa using ht
   subst e2;obtain⟨kt,et,ki,c,E,W,F⟩:=Ao hk;clear hk;split at F
   ·rename_i e;subst e;obtain⟨l,hl,D⟩:=F;obtain⟨B,C,H,Z,Y,h3⟩:=Rt (P:=P) (ty:=ty) (ats:=ats') E W (n:=n) hl;refine .inl ⟨_,B,?_,H,D _ Z Y h3⟩;simp[execOp,resolve,d,invoke,builtin,C]
   ·exact F.elim
  ·rename_i sa sn sc n t t' J ht;have e1:=ZR hf J;have d:A.map a.eval = #[.slice sa sn sc,.int .i64 n]:=by apply Array.ext';simpa using e1
   have e2:ats = #[t,t']:=by apply Array.ext';simpa using ht
   subst e2;split at hk
   case h_2=>exact hk.elim
   rename_i e ki E hu';split at hk
   case h_2=>exact hk.elim
   rename_i N L;split at hk
   case h_2=>exact hk.elim
   rename_i z U;rw[Wu]at hk;obtain⟨j,hk⟩:=hk;simp only[zF,zT]at j;obtain⟨r,B,C,H,D⟩:=Pm (P:=P) (ty:=ty) E hu' L U j.1 (Nat.blt_eq.mp j.2) hk;refine .inl ⟨_,B,?_,H,D⟩;simp only at C;simp[execOp,resolve,d,invoke,builtin,C]
  ·rename_i da dn dc xa xn xc t ats' J ht;have e1:=ZR hf J;have d:A.map a.eval = #[.slice da dn dc,.slice xa xn xc]:=by apply Array.ext';simpa using e1
   have e2:ats=(t::ats').toArray:=by apply Array.ext';simpa using ht
   subst e2;split at hk
   case h_2=>exact hk.elim
   rename_i e E;split at hk
   case h_2=>exact hk.elim
   rename_i N L;obtain⟨r,B,C,H,D⟩:=J6 (P:=P) (ty:=ty) (ats:=ats') E L hk;refine .inl ⟨_,B,?_,H,D⟩;simp only at C;simp[execOp,resolve,d,invoke,builtin,C]
  ·rename_i sa sn sc t J ht;have e1:=ZR hf J;have d:A.map a.eval = #[.slice sa sn sc]:=by apply Array.ext';simpa using e1
   have e2:ats = #[t]:=by apply Array.ext';simpa using ht
   subst e2;split at hk
   case h_2=>exact hk.elim
   rename_i e E;split at hk
   case h_2=>exact hk.elim
   rename_i N L;split at hk
   case h_2=>exact hk.elim
   rename_i z U;rw[Wu]at hk;obtain⟨j,hk⟩:=hk;simp only[zF,zT]at j;obtain⟨B,C,H,D⟩:=Oa (P:=P) (ty:=ty) E L U j.1 (Nat.blt_eq.mp j.2) hk;refine .inl ⟨_,B,?_,H,D⟩;simp only at C;simp[execOp,resolve,d,invoke,builtin,C]
  ·exact hk.elim
 ·exact hk.elim
theorem FW {k:IntKind}{c:CK}(p:MapEntry->Bool)(q:Int×c.T->Bool):∀(L:List MapEntry) (T:List (Int×c.T)),L.map (λe=>(e.key,e.val))=T.map (λx=>(Value.int k x.1,c.v x.2)) →
 (∀(j:Nat) (e:MapEntry) (y:Int×c.T),L[j]?=some e->T[j]?=some y->p e=q y)->(L.filter p).map (λe=>(e.key,e.val))=(T.filter q).map (λx=>(Value.int k x.1,c.v x.2))
 | [],T,h,_=>by
  cases T with
  | nil=>rfl
  | cons y T=>simp at h
 | e::L,[],h,_=>by simp at h
 | e::L,y::T,h,hpq=>by
  simp only[zR,List.cons.injEq]at h;have h0:=hpq 0 e y rfl rfl;have a:=FW p q L T h.2 (λj g b i d=>hpq (j+1) g b (by simpa using i) (by simpa using d));simp only[sP,h0];cases q y
  ·simpa using a
  ·simp[h.1,a]
theorem It.SX {P:Program}{r:Nat}{k:IntKind}{c:CK}{m:Option Nat}{l todo:List (Int×c.T)}{cur:Option (Int×c.T)}{w:World}(hit:It w.heap r k c m l todo cur)(ty:Nat) :
 (todo=[]/\∃w',(Instr.next (.pointer (some ⟨r,0,none⟩)) false ty).run P w=.ok (.tuple #[.bool false]) w'/\Xd w w'/\w'.heap=w.heap) ∨
 (∃n x w',(n,x)∈todo/\(Instr.next (.pointer (some ⟨r,0,none⟩)) false ty).run P w=.ok (.tuple #[.bool true,.int k n,c.v x]) w'/\Xd w w'/\QB w.heap w'.heap r ∧
  It w'.heap r k c m l (todo.filter λy=>!(y.1==n)) (some (n,x))):=by
 cases m with
 | none=>
  obtain⟨rfl,rfl,rfl,s,q,y,hr⟩:=hit;exact .inl ⟨rfl,w,by simp[Instr.next,getObj,Sem.run,hr],.refl _,rfl⟩
 | some b=>
  obtain⟨es,clk,seen,hr,hb,he,hn,hp,hlt,htodo,hcur⟩:=hit;have hrlt:r<w.heap.size:=(zz.1 hr).1;have hrb:r≠b:=λe=>by rw[e,hb]at hr;cases hr
  have hchk:¬((!seen.isEmpty && !es.isEmpty&&es.all (·.born≥clk))=true):=by
   intro h;simp only[zF,mq,Array.all_eq_true',zU]at h;obtain⟨⟨_,h2⟩,h3⟩:=h;have h2':es ≠ #[]:=by simpa[xI]using h2
   obtain⟨e,hme⟩:=Array.exists_mem_of_ne_empty es h2';have:=h3 e hme;have:=hlt e (by simpa using hme);omega
  have hold:((es.filter λe=>!seen.contains e.born).filter (·.born<clk))=es.filter λe=>!seen.contains e.born:=by
   rw[Array.filter_eq_self];intro e hme;have:e∈es:=(Array.mem_filter.1 hme).1;simpa using hlt e (by simpa using this)
  have hnew:((es.filter λe=>!seen.contains e.born).filter (·.born≥clk)) = #[]:=by
   rw[Array.filter_eq_empty_iff];intro e hme;have:e∈es:=(Array.mem_filter.1 hme).1;have:=hlt e (by simpa using this);simp;omega
  have hlist:(es.filter λe=>!seen.contains e.born).toList=es.toList.filter λe=>!seen.contains e.born:=Array.toList_filter;have hrun:∀(cand:Array (Option MapEntry)),cand=(if(es.filter λe=>!seen.contains e.born).isEmpty then #[none]else #[])++(es.filter λe=>!seen.contains e.born).map some →
   (Instr.next (.pointer (some ⟨r,0,none⟩)) false ty).run P w=(do
    match cand[←choose (.mapNext cand.size)]? with
    | some (some e)=>do
     setObj r (.mapIter (some b) clk (seen.push e.born) clk)
     pure (.tuple #[.bool true,e.key,e.val])
    | some none=>pure (.tuple #[.bool false])
    | none=>stuck "Next: no such candidate" : Sem Value).run P w := by
   rintro cand rfl;simp only[Instr.next,getObj,Sem.run_bind,Sem.run,hr,Result.andThen_ok,hb,hchk,j8,hold,hnew,Array.append_empty,ze,Sem.run_bind]
   try rfl
  cases htd:todo with
  | nil=>
   left;subst htd;have hnil:(es.filter λe=>!seen.contains e.born) = #[]:=by
    apply Array.ext';rw[hlist];have:=congrArg List.length htodo;simpa using this
   refine⟨rfl,w,?_,.refl _,rfl⟩;rw[hrun #[none] (by rw[hnil];simp)];simp[choose,Sem.run,Question.forced]
  | cons y ys=>
   right;have hlen:(es.filter λe=>!seen.contains e.born).size=todo.length:=by
    rw[←vC,hlist];simpa using congrArg List.length htodo
   have hne:(es.filter λe=>!seen.contains e.born).isEmpty=false:=by
    rw[htd]at hlen;simp only[zX]at hlen;cases hce:(es.filter λe=>!seen.contains e.born).isEmpty
    ·rfl
    ·rw[xI]at hce;rw[hce]at hlen;simp at hlen
   have key:∀(i:Nat),i<todo.length->∀w1:World,w1.heap=w.heap->Xd w w1->∃n x w',(n,x)∈todo ∧
    ((match ((es.filter λe=>!seen.contains e.born).map some)[i]? with
     | some (some e)=>do
      setObj r (.mapIter (some b) clk (seen.push e.born) clk)
      pure (.tuple #[.bool true,e.key,e.val])
     | some none=>pure (.tuple #[.bool false])
     | none=>stuck "Next: no such candidate" : Sem Value)).run P w1 = .ok (.tuple #[.bool true, .int k n, c.v x]) w' /\ Xd w w' /\ QB w.heap w'.heap r ∧
    It w'.heap r k c (some b) l (todo.filter λy=>!(y.1==n)) (some (n,x)):=by
    intro i hi w1 hw1 io;have hi':i<(es.filter λe=>!seen.contains e.born).size:=by omega
    let e:=(es.filter λe=>!seen.contains e.born)[i]
    have hei:(es.filter λe=>!seen.contains e.born)[i]?=some e:=by simp[e,hi']
    have hti:(es.toList.filter λe=>!seen.contains e.born)[i]?=some e:=by rw[←hlist,vW];exact hei
    have hty:todo[i]?=some todo[i]:=by simp[hi]
    have hkv:(e.key,e.val)=(Value.int k todo[i].1,c.v todo[i].2):=by
     have:=congrArg (λl=>l[i]?) htodo;simp only[zg,hti,hty,zZ,Option.some.injEq]at this;exact this
    simp only[Prod.mk.injEq]at hkv;have hmemF:e∈es.toList.filter λe=>!seen.contains e.born:=zG hti;have hme:e∈es.toList:=(zI.1 hmemF).1;have hns:seen.contains e.born=false:=by simpa using(zI.1 hmemF).2
    refine⟨todo[i].1,todo[i].2,{w1 with heap:=w1.heap.setIfInBounds r (.mapIter (some b) clk (seen.push e.born) clk)},zp _,?_,?_,?_,?_⟩
    ·have hr1:w1.heap[r]?=some (.mapIter (some b) clk seen clk):=by rw[hw1];exact hr
     simp only[Array.getElem?_map,hei,zZ,setObj,Sem.run_bind,Sem.run,hr1,Result.andThen_ok,Sem.run_pure,hkv.1,hkv.2]
    ·exact⟨io.1,io.2.1,io.2.2.1,by simp only[Array.size_setIfInBounds];exact io.2.2.2⟩
    ·rw[hw1];exact Hq _ _ _
    ·rw[hw1];refine⟨es,clk,seen.push e.born,by simp[hrlt],?_,he,hn,hp,hlt,?_,λx hx=>?_⟩
     ·rw[yg hrb];exact hb
     ·-- the rest
      have hinj:∀e'∈es.toList,(e'.born==e.born)=true->e'=e:=by
       intro e' h1 h2;have h2':e'.born=e.born:=by simpa using h2
       obtain⟨p,hp1,kM⟩:=vo h1;obtain⟨q,hq1,hq2⟩:=vo hme;have hpw:=k6.1 hp;rcases pR p q with h|h|h
       ·have:=hpw p q (by simpa using hp1) (by simpa using hq1) h;simp[kM,hq2,h2']at this
       ·subst h;rw[←kM,hq2]
       ·have:=hpw q p (by simpa using hq1) (by simpa using hp1) h;simp[kM,hq2,h2']at this
      have hf1:(es.toList.filter λe'=>!(seen.push e.born).contains e'.born)=(es.toList.filter λe'=>!seen.contains e'.born).filter λe'=>!(e'.born==e.born):=by
       rw[AX];apply ur;intro e' _;simp[Array.contains_eq_mem,Array.mem_push];rw[Bool.and_comm]
       congr 1
      rw[hf1];refine FW _ _ _ _ htodo λj e' y h1 h2=>?_;have hm':e'∈es.toList:=(zI.1 (zG h1)).1;have hkv':(e'.key,e'.val)=(Value.int k y.1,c.v y.2):=by
       have:=congrArg (λl=>l[j]?) htodo;simp only[zg,h1,h2,zZ,Option.some.injEq]at this;exact this
      simp only[Prod.mk.injEq]at hkv'
      congr 1
      rw[l9];constructor
      ·intro hb';have:=hinj e' hm' hb';subst this;have:=hkv'.1.symm.trans hkv.1;simp only[Value.int.injEq,tI]at this;simpa using this
      ·intro hy;have hy':y.1=todo[i].1:=by simpa using hy
       have hkk:e'.key=e.key:=by rw[hkv'.1,hkv.1,hy']
       obtain⟨p,hp1,kM⟩:=vo hm';obtain⟨q,hq1,hq2⟩:=vo hme;have hll:es.toList.length=l.length:=by simpa using congrArg List.length he
       have hk1:∀(p:Nat) (hp:p<es.toList.length),es.toList[p].key=.int k (l[p]' O).1:=by
        intro p hp;have:=congrArg (λl=>l[p]?) he;simp only[zg,cU hp,cU (show p<l.length by omega),zZ,Option.some.injEq,Prod.mk.injEq]at this;exact this.1
       have e1:=hk1 p hp1;have e2:=hk1 q hq1;rw[kM]at e1;rw[hq2]at e2;rw[hkk,e2]at e1;simp only[Value.int.injEq,tI]at e1;have:p=q:=by
        have hnn:=k6.1 hn;rcases pR p q with h|h|h
        ·exact absurd (by rw[rF,rF];exact e1.symm) (hnn p q aE aE h)
        ·exact h
        ·exact absurd (by rw[rF,rF];exact e1) (hnn q p aE aE h)
       subst this;rw[←kM,←hq2];simp
     ·cases hx;refine⟨e,hme,by simp,hkv.1,hkv.2⟩
   have hsz:((if(es.filter λe=>!seen.contains e.born).isEmpty then #[none]else #[])++(es.filter λe=>!seen.contains e.born).map some:Array (Option MapEntry))=(es.filter λe=>!seen.contains e.born).map some:=by
    rw[hne];simp
   rw[←htd];rw[hrun _ hsz.symm];have hpos:0<todo.length:=by rw[htd];simp
   simp only[Sem.run_bind,choose,Sem.run,Array.size_map,hlen];cases hfo:(Question.mapNext todo.length).forced
   ·simp only[ze,j8,Result.andThen_ok];exact key _ (by simp only[Question.cut];exact uP _ hpos) _ rfl ⟨rfl,rfl,rfl,zD _⟩
   ·simp only[zS,Result.andThen_ok];exact key 0 hpos w rfl (.refl _)
theorem It.LK {P:Program}{r:Nat}{k:IntKind}{c:CK}{m:Option Nat}{l todo:List (Int×c.T)}{n:Int}{x:c.T}{w:World}(hit:It w.heap r k c m l todo (some (n,x))) :
 (Instr.entry (.pointer (some ⟨r,0,none⟩))).run P w=.ok (.tuple #[.int k n,c.v x]) w:=by
 cases m with
 | none=>obtain⟨_,_,h,_⟩:=hit;cases h
 | some b=>
  obtain⟨A,D,z,C,H,K,L,E,J,u,i⟩:=hit;obtain⟨e,y,a,G,F⟩:=i _ rfl;have g:A.find? (·.born==e.born)=some e:=by
   rw[←Array.find?_toList,List.find?_eq_some_iff_getElem];obtain⟨p,d,kM⟩:=vo y;refine⟨by simp,p,d,kM,λj B=>?_⟩;have s:=k6.1 E j p (by simp;simp at d;omega) (by simpa using d) B;rw[rF,rF,kM]at s;rw[mq];cases hb2:(A.toList[j].born==e.born)
   ·rfl
   ·have:=zT.1 hb2;omega
  simp[Instr.entry,getObj,Sem.run,C,H,a,g,G,F]
def yf (k:IntKind)(c:CK)(o:Op)(ρ:Env)(h:Hp)(K:Value->Hp->Prop):Prop:=
 match o with
 | .next x false=>wv (ev ρ x) λv=>match v with
  | .pointer (some a)=>nZ k c a h (K (.tuple #[.bool false]) h) λn y h'=>K (.tuple #[.bool true,.int k n,c.v y]) h'
  | _=>False
 | .entry x=>wv (ev ρ x) λv=>match v with
  | .pointer (some a)=>nX k c a h λn y=>K (.tuple #[.int k n,c.v y]) h
  | _=>False
 | _=>False
theorem It.spot {a:Addr}(h:a.off=0):∃s,a=⟨a.block,0,s⟩:=⟨a.spot,by cases a;simp at h;subst h;rfl⟩
theorem IT {P:Program}{k:IntKind}{c:CK}{ρ:Env}{K:Value->Hp->Prop}{a:Act}{w:World}(hf:∀x v,ev ρ x=some v->a.eval x=v)(o:Oper)(hk:yf k c o.op ρ w.heap K):QV P (execOp a.eval o) w K:=by
 obtain⟨C,op,r,pos,u,g⟩:=o;simp only at hk;unfold yf at hk;split at hk
 ·rename_i x;obtain⟨v,i,hk⟩:=Wr hk;simp only[execOp,hf _ _ i];split at hk
  case h_2=>exact hk.elim
  rename_i ad;obtain⟨j,m,l,e,B,d,D,z⟩:=hk;obtain⟨s,p⟩:=It.spot j;have b:∀w:World,(Instr.next (.pointer (some ad)) false r).run P w=(Instr.next (.pointer (some ⟨ad.block,0,none⟩)) false r).run P w:=by
   intro w;rw[p];rfl
  rcases d.SX (P:=P) r with⟨ht,w',hr,io,hh⟩|⟨n,y,w',hm,hr,io,ho,hi'⟩
  ·exact .inl ⟨.tuple #[.bool false],w',by simp[b,hr],io,by rw[hh];exact D ht⟩
  ·exact .inl ⟨.tuple #[.bool true,.int k n,c.v y],w',by simp[b,hr],io,z n y hm _ ho hi'⟩
 ·rename_i x;obtain⟨v,i,hk⟩:=Wr hk;simp only[execOp,hf _ _ i];split at hk
  case h_2=>exact hk.elim
  rename_i ad;obtain⟨j,m,l,e,n,y,d,A⟩:=hk;obtain⟨s,p⟩:=It.spot j;have b:(Instr.entry (.pointer (some ad))).run P w=(Instr.entry (.pointer (some ⟨ad.block,0,none⟩))).run P w:=by
   rw[p];rfl
  exact .inl ⟨.tuple #[.int k n,c.v y],w,by simp[b,d.LK (P:=P)],.refl _,A⟩
 ·exact hk.elim
structure Fits (N:Nat) (ρ:Env) (a:Act):Prop where
 defers:a.defers=[]
 size:a.tmps.size=N
 at_:∀i v,ρ i=some v->a.tmps[i]?=some v
theorem Fits.ev {N:Nat}{ρ:Env}{a:Act}(h:Fits N ρ a):∀x v,ev ρ x=some v->a.eval x=v:=by
 intro x v hx;cases x with
 | tmp t=>
  have:=h.at_ t v hx;simp[Act.eval,sg,this]
 | const u=>simp only[Vc.ev,Option.some.injEq]at hx;exact hx
 | global g=>simp only[Vc.ev,Option.some.injEq]at hx;exact hx
 | func f=>simp only[Vc.ev,Option.some.injEq]at hx;exact hx
def qt (N:Nat):Option Nat->Bool
 | some d=>Nat.blt d N
 | none=>true
theorem Fits.put {N:Nat}{ρ:Env}{a:Act}(h:Fits N ρ a){d:Option Nat}(hd:qt N d=true)(v:Value):Fits N (ρ.im d v) (a.put d v):=by
 cases d with
 | none=>exact h
 | some d=>
  have j:d<N:=Nat.blt_eq.mp hd;refine⟨h.defers,by simp[Act.put,h.size],λi u b=>?_⟩;simp only[Env.im,Env.put]at b;cases hi:Nat.beq i d
  ·rw[hi]at b;have g:i≠d:=λe=>by subst e;simp at hi
   simp only[Act.put];rw[yg (Ne.symm g)];exact h.at_ i u b
  ·rw[hi]at b;have e:i=d:=jQ hi;subst e;simp only[cond_true,Option.some.injEq]at b;subst b;simp[Act.put,h.size,j]
theorem Fits.weaken {N:Nat}{ρ ρ':Env}{a:Act}(h:Fits N ρ a)(hw:∀i v,ρ' i=some v->ρ i=some v):Fits N ρ' a:=
 ⟨h.defers,h.size,λi v b=>h.at_ i v (hw i v b)⟩
theorem xh (ρ:Env)(ds:List Nat):∀i v,ρ.dX ds i=some v->ρ i=some v:=by
 intro i v h;simp only[Env.dX]at h;cases hc:ds.contains i<;>rw[hc]at h<;>simp at h
 exact h
theorem Fits.lit {N:Nat}{ρ:Env}{a:Act}(h:Fits N ρ a){c:Nat}{b b':Bool}(hc:ρ c=some (.bool b))(e:b=b'):Fits N (ρ.put c (.bool b')) a:=by
 subst e;refine h.weaken λi v d=>?_;simp only[Env.put]at d;cases hi:Nat.beq i c
 ·rw[hi]at d;exact d
 ·rw[hi]at d;have e:i=c:=jQ hi;subst e;rw[hc];exact d
def GE (ops:Array Oper)(o:Oper)(ρ:Env):Bool:=
 match o.guard with
 | none=>true
 | some (j,want)=>match (ops[j]?).bind (·.dst)with
  | some c=>match ρ c with
   | some (.bool b)=>b==want
   | _=>false
  | none=>false
def tO (ops:Array Oper)(o:Oper)(ρ:Env):Bool:=
 match o.guard with
 | none=>false
 | some (j,want)=>match (ops[j]?).bind (·.dst)with
  | some c=>match ρ c with
   | some (.bool b)=>!(b==want)
   | some (.tuple _)=>true
   | _=>false
  | none=>false
theorem Zn {N:Nat}{ops:Array Oper}{o:Oper}{ρ:Env}{a:Act}(hf:Fits N ρ a)(h:GE ops o ρ=true):Region.wanted o (yielded ops a.tmps)=true:=by
 unfold GE at h;unfold Region.wanted;cases hg:o.guard with
 | none=>rfl
 | some jw=>
  obtain⟨j,d⟩:=jw;rw[hg]at h;simp only at h ⊢;cases hc:(ops[j]?).bind (·.dst)with
  | none=>rw[hc]at h;cases h
  | some c=>
   rw[hc]at h;simp only at h;split at h
   ·rename_i b hb;have:=hf.at_ c _ hb;simp only[yielded,hc,Option.bind_some,this];simpa using h
   ·cases h
theorem KQ {N:Nat}{ops:Array Oper}{o:Oper}{ρ:Env}{a:Act}(hf:Fits N ρ a)(h:tO ops o ρ=true):Region.wanted o (yielded ops a.tmps)=false:=by
 unfold tO at h;unfold Region.wanted;cases hg:o.guard with
 | none=>rw[hg]at h;cases h
 | some jw=>
  obtain⟨j,d⟩:=jw;rw[hg]at h;simp only at h ⊢;cases hc:(ops[j]?).bind (·.dst)with
  | none=>rw[hc]at h;cases h
  | some c=>
   rw[hc]at h;simp only at h;split at h
   ·rename_i b hb;have:=hf.at_ c _ hb;simp only[yielded,hc,Option.bind_some,this];simpa using h
   ·rename_i b hb;have:=hf.at_ c _ hb;simp only[yielded,hc,Option.bind_some,this];rfl
   ·cases h
def Uu (N:Nat)(ops:Array Oper):List Oper->Env->Bool
 | [],_=>true
 | o::os,ρ=>tO ops o ρ&&(qt N o.dst&&Uu N ops os (ρ.im o.dst undef))
theorem FO {P:Program}{N:Nat}{ops:Array Oper}{Q:Exit->Act->World->Prop}{tail:List Oper}{w:World}:∀{os:List Oper} {ρ:Env} {a:Act},Uu N ops os ρ=true->Fits N ρ a →
 (∀a',Fits N (ρ.dX (os.filterMap (·.dst))) a'->wpList P ops Q tail a' w)->wpList P ops Q (os++tail) a w
 | [],ρ,a,_,hf,h=>h a (hf.weaken (xh _ _))
 | o::os,ρ,a,hs,hf,h=>by
  simp only[Uu,zF]at hs;obtain⟨h1,h2,h3⟩:=hs;have m:=KQ hf h1;simp only[lu,wpList,m];refine FO h3 (hf.put h2 _) λa' g=>h a' (g.weaken λi v b=>?_);simp only[Env.dX]at b ⊢;cases hc:(List.filterMap (·.dst) (o::os)).contains i
  ·rw[hc]at b;simp only[cond_false]at b;have j:(List.filterMap (·.dst) os).contains i=false:=by
    cases hd:o.dst<;>simp_all
   have e:∀d,o.dst=some d->i≠d:=by
    intro d hd;simp_all
   rw[j];simp only[cond_false];cases hd:o.dst with
   | none=>exact b
   | some d=>
    have:=e d hd;simp only[Env.im,Env.put];have:Nat.beq i d=false:=by
     cases hb:Nat.beq i d
     ·rfl
     ·exact absurd (jQ hb) this
    rw[this];exact b
  ·rw[hc]at b;cases b
theorem CX {P:Program}{N:Nat}{ops:Array Oper}{Q:Act->Prop}{tail:List Oper}{w:World}:∀{os:List Oper} {ρ:Env} {a:Act},Uu N ops os ρ=true->Fits N ρ a →
 (∀a',Fits N (ρ.dX (os.filterMap (·.dst))) a'->wpStill P ops w Q tail a')->wpStill P ops w Q (os++tail) a
 | [],ρ,a,_,hf,h=>h a (hf.weaken (xh _ _))
 | o::os,ρ,a,hs,hf,h=>by
  simp only[Uu,zF]at hs;obtain⟨h1,h2,h3⟩:=hs;have m:=KQ hf h1;simp only[lu,wpStill,m];refine CX h3 (hf.put h2 _) λa' g=>h a' (g.weaken λi v b=>?_);simp only[Env.dX]at b ⊢;cases hc:(List.filterMap (·.dst) (o::os)).contains i
  ·rw[hc]at b;simp only[cond_false]at b;have j:(List.filterMap (·.dst) os).contains i=false:=by
    cases hd:o.dst<;>simp_all
   have e:∀d,o.dst=some d->i≠d:=by
    intro d hd;simp_all
   rw[j];simp only[cond_false];cases hd:o.dst with
   | none=>exact b
   | some d=>
    have:=e d hd;simp only[Env.im,Env.put];have:Nat.beq i d=false:=by
     cases hb:Nat.beq i d
     ·rfl
     ·exact absurd (jQ hb) this
    rw[this];exact b
  ·rw[hc]at b;cases b
def bW (K:aO)(body:(Bool->Hp->Prop)->Prop):Prop:=∃J:Bool->Hp->Prop,(∀r h,J r h->K r h)/\body J
theorem bW.intro {K:aO}{body:(Bool->Hp->Prop)->Prop}(h:body K):bW K body:=⟨K,λ_ _ h=>h,h⟩
inductive RI where
 | op
 | it (k:IntKind) (c:CK)
 | cW (and:Bool) (n:Nat) (inner:List RI)
def Co (b:Bool):Operand->Bool
 | .const (.bool b')=>b'==b
 | _=>false
def Up (ρ:Env)(x:Operand)(K:Bool->Prop):Prop:=match ev ρ x with
 | some (.bool r)=>K r
 | _=>False
def sk (ρ:Env)(c:Nat)(b:Bool):Bool:=match ρ c with
 | some (.bool b')=>b'==b
 | _=>false
def eI (P:Program)(N:Nat)(ops:Array Oper):Nat->List RI->List Oper->Env->Hp->(Env->Hp->Prop)->Prop
 | 0,_,_,_,_,_=>False
 | _+1,[],[],ρ,h,K=>K ρ h
 | n+1,.op::hs,o::os,ρ,h,K=>fR (GE ops o ρ&&qt N o.dst) (si P o.op o.type ρ h λv h'=>eI P N ops n hs os (ρ.im o.dst v) h' K)
 | n+1,.it ki c::hs,o::os,ρ,h,K=>fR (GE ops o ρ&&qt N o.dst) (yf ki c o.op ρ h λv h'=>eI P N ops n hs os (ρ.im o.dst v) h' K)
 | n+1,.cW and m inner::hs,os,ρ,h,K=>
  match os.drop m with
  | pk::rest=>match pk.op,pk.dst with
   | .pick (.tmp c) x y,some d=>match ρ c with
    | some (.bool b)=>fR (Nat.blt d N&&(Co (!and) (bif and then y else x)&&(GE ops pk (ρ.dX ((os.take m).filterMap (·.dst)))&&(sk ((ρ.put c (.bool (!and))).dX ((os.take m).filterMap (·.dst))) c (!and)&&Uu N ops (os.take m) (ρ.put c (.bool (!and)))))))
     (bW (λr h'=>eI P N ops n hs rest ((ρ.dX ((os.take m).filterMap (·.dst))).put d (.bool r)) h' K) λJ=>
      bif and then If b (eI P N ops n inner (os.take m) (ρ.put c (.bool true)) h λρ' h'=>fR (GE ops pk ρ'&&sk ρ' c true) (Up ρ' x λr=>J r h')) (J false h)
      else If b (J true h) (eI P N ops n inner (os.take m) (ρ.put c (.bool false)) h λρ' h'=>fR (GE ops pk ρ'&&sk ρ' c false) (Up ρ' y λr=>J r h')))
    | _=>False
   | _,_=>False
  | []=>False
 | _,_,_,_,_,_=>False
theorem UK {P:Program}{ρ:Env}{K:Value->Hp->Prop}{a:Act}{w:World}(hf:∀x v,ev ρ x=some v->a.eval x=v)(o:Oper)(hk:si P o.op o.type ρ w.heap K) :
 QV P (execOp a.eval o) w K:=by
 unfold si at hk;cases hq:sS o.op
 ·rw[hq]at hk;exact OK hf o hk
 ·rw[hq]at hk;obtain⟨v,b,d⟩:=GO hf o hk;exact .inl ⟨v,w,b,.refl _,d⟩
theorem Kz {ρ:Env}{x:Operand}{K:Bool->Prop}(h:Up ρ x K):∃r,ev ρ x=some (.bool r)/\K r:=by
 unfold Up at h;split at h
 ·exact⟨_,by assumption,h⟩
 ·exact h.elim
theorem AE {b:Bool}{x:Operand}(h:Co b x=true)(ρ:Operand->Value)(hc:∀v,ρ (.const v)=v):ρ x=.bool b:=by
 unfold Co at h;split at h
 ·rw[hc];simp at h;rw[h]
 ·cases h
theorem Ee {P:Program}{a:Act}{w:World}{o:Oper}{c x y:Operand}{b r:Bool}{K:Value->Hp->Prop}(ho:o.op=.pick c x y)(hc:a.eval c=.bool b)(hr:a.eval (bif b then x else y)=.bool r)(hK:K (.bool r) w.heap) :
 QV P (execOp a.eval o) w K:=by
 obtain⟨g,op,i,pos,e,d⟩:=o;simp only at ho;subst ho;refine .inl ⟨_,w,?_,.refl _,hK⟩;cases b<;>simp at hr<;>simp[execOp,hc,asBool,hr]
def VP (os:List Oper)(ρ ρ':Env):Prop:=∀i,(os.filterMap (·.dst)).contains i=false->∀v,ρ i=some v->ρ' i=some v
theorem VP.cons {o:Oper}{os:List Oper}{ρ ρ':Env}{v:Value}(h:VP os (ρ.im o.dst v) ρ'):VP (o::os) ρ ρ':=by
 intro i hi u hu;cases hd:o.dst with
 | none=>rw[hd]at h;exact h i (by simpa[hd]using hi) u hu
 | some d=>
  rw[hd]at h;simp[hd]at hi;refine h i (by simpa using hi.2) u ?_;simp only[Env.im,Env.put];have:Nat.beq i d=false:=by
   cases hb:Nat.beq i d
   ·rfl
   ·exact absurd (jQ hb) hi.1
  rw[this];exact hu
theorem VP.cW {os rest:List Oper}{pk:Oper}{m d:Nat}{ρ ρ':Env}{r:Bool}(hd:pk.dst=some d)(hdrop:os.drop m=pk::rest)(h:VP rest ((ρ.dX ((os.take m).filterMap (·.dst))).put d (.bool r)) ρ'):VP os ρ ρ':=by
 intro i hi u hu;rw[←oc m os,hdrop,vV,B6,hd]at hi;simp only[r8,zK,zV,decide_eq_false_iff_not,not_or]at hi;refine h i (by simpa using hi.2.2) u ?_;simp only[Env.put,Env.dX];have:Nat.beq i d=false:=by
  cases hb:Nat.beq i d
  ·rfl
  ·exact absurd (jQ hb) hi.2.1
 rw[this];have a:((os.take m).filterMap (·.dst)).contains i=false:=by simpa using hi.1
 rw[a];exact hu
theorem Fits.u7 {N:Nat}{os:List Oper}{ρ ρ':Env}{a:Act}{c:Nat}{b b':Bool}(h:Fits N ρ' a)(hc:ρ c=some (.bool b))(e:b=b')(k:VP os (ρ.put c (.bool b')) ρ'):Fits N (ρ.dX (os.filterMap (·.dst))) a:=by
 refine h.weaken λi v d=>?_;simp only[Env.dX]at d;cases hci:(os.filterMap (·.dst)).contains i
 ·rw[hci]at d;refine k i hci v ?_;simp only[Env.put];cases hb:Nat.beq i c
  ·exact d
  ·have e2:i=c:=jQ hb;subst e2;simp only[cond_false]at d;rw[hc]at d;simp only[cond_true];rw[←e];exact d
 ·rw[hci]at d;cases d
theorem UO {ρ:Env}{c:Nat}{b:Bool}(h:sk ρ c b=true):ρ c=some (.bool b):=by
 unfold sk at h;split at h
 ·rename_i b' hb;simp at h;rw[hb,h]
 ·cases h
theorem KB {P:Program}{N:Nat}{ops:Array Oper}{Q:Exit->Act->World->Prop}:∀(n:Nat) {hs:List RI} {os:List Oper} {tail:List Oper} {ρ:Env} {a:Act} {w:World} {K:Env->Hp->Prop},
 eI P N ops n hs os ρ w.heap K->Fits N ρ a->(∀ρ' a' w',Fits N ρ' a'->Xd w w'->VP os ρ ρ'->K ρ' w'.heap->wpList P ops Q tail a' w')->wpList P ops Q (os++tail) a w
 | 0,_,_,_,_,_,_,_,h,_,_=>(by simp only[eI]at h)
 | n+1,[],[],tail,ρ,a,w,K,h,hf,hK=>by
  simp only[eI]at h;exact hK ρ a w hf (.refl _) (λ_ _ _ h=>h) h
 | n+1,[],o::os,tail,ρ,a,w,K,h,hf,hK=>(by simp only[eI]at h)
 | n+1,.op::hs,[],tail,ρ,a,w,K,h,hf,hK=>(by simp only[eI]at h)
 | n+1,.op::hs,o::os,tail,ρ,a,w,K,h,hf,hK=>by
  simp only[eI]at h;rw[Wu]at h;obtain⟨hc,h⟩:=h;simp only[zF]at hc;have L:=Zn hf hc.1;simp only[lu,wpList,L,zS];refine .inl (QV.upon (UK hf.ev o h) λv w' C s=>?_);exact KB n s (hf.put hc.2 v) λρ' a' A g j E p=>hK ρ' a' A g (C.trans j) E.cons p
 | n+1,.it ki c::hs,[],tail,ρ,a,w,K,h,hf,hK=>(by simp only[eI]at h)
 | n+1,.it ki c::hs,o::os,tail,ρ,a,w,K,h,hf,hK=>by
  simp only[eI]at h;rw[Wu]at h;obtain⟨hc,h⟩:=h;simp only[zF]at hc;have L:=Zn hf hc.1;simp only[lu,wpList,L,zS];refine .inl (QV.upon (IT hf.ev o h) λv w' C s=>?_);exact KB n s (hf.put hc.2 v) λρ' a' A g j E p=>hK ρ' a' A g (C.trans j) E.cons p
 | n+1,.cW and m inner::hs,os,tail,ρ,a,w,K,h,hf,hK=>by
  simp only[eI]at h;split at h
  case h_2=>exact h.elim
  rename_i pk rest hdrop;split at h
  case h_2=>exact h.elim
  rename_i c x y d hop hd;split at h
  case h_2=>exact h.elim
  rename_i b hb;rw[Wu]at h;obtain⟨hc,J,hJ,h⟩:=h;simp only[zF]at hc;obtain⟨S,M,W,hcc,F⟩:=hc;have hdN':qt N pk.dst=true:=by rw[hd];exact S
  have hos:os++tail=os.take m++(pk::rest++tail):=by
   rw[←hdrop,←jL,oc]
  rw[hos];have u:∀(r b':Bool) (z:Operand) a' w',b=b'->(bif b' then x else y)=z->Fits N (ρ.dX ((os.take m).filterMap (·.dst))) a'->Xd w w'->J r w'.heap->Region.wanted pk (yielded ops a'.tmps)=true →
   a'.eval (.tmp c)=.bool b'->a'.eval z=.bool r->wpList P ops Q (pk::rest++tail) a' w':=by
   intro r b' z a' w' e ez g C G L D hez;simp only[lu,wpList,L,zS];refine .inl (QV.upon (K:=λv h'=>v=.bool r/\h'=w'.heap) (Ee hop D (by rw[ez];exact hez) ⟨rfl,rfl⟩) λv A j s=>?_);obtain⟨rfl,hh⟩:=s;have X:=g.put (d:=some d) S (.bool r);rw[hd];have H:=hJ _ _ G;rw[←hh]at H;exact KB n H X λρ' Y w3 V R E p=>hK ρ' Y w3 V ((C.trans j).trans R) (VP.cW hd hdrop E) p
  have run:∀(b':Bool) (z:Operand),b=b'->(bif b' then x else y)=z →
   eI P N ops n inner (os.take m) (ρ.put c (.bool b')) w.heap (λρ' h'=>fR (GE ops pk ρ'&&sk ρ' c b') (Up ρ' z λr=>J r h'))->wpList P ops Q (os.take m++(pk::rest++tail)) a w:=by
   intro b' z e ez hseg;refine KB n hseg (hf.lit hb e) λρ' a' w' g C E s=>?_;rw[Wu]at s;simp only[zF]at s;obtain⟨⟨hg,Z⟩,s⟩:=s;obtain⟨r,hr,G⟩:=Kz s;exact u r b' z a' w' e ez (g.u7 hb e E) C G (Zn g hg) (g.ev _ _ (UO Z)) (g.ev _ _ hr)
  have B:∀(b':Bool),b=b'->b' = !and->J (!and) w.heap->wpList P ops Q (os.take m++(pk::rest++tail)) a w:=by
   intro b' e eb G;subst eb;refine FO F (hf.lit hb e) λa' g=>?_;have U:Fits N (ρ.dX ((os.take m).filterMap (·.dst))) a':=g.u7 (ρ':=(ρ.put c (.bool (!and))).dX ((os.take m).filterMap (·.dst))) hb e (λi hi v hv=>by simp only[Env.dX,hi];exact hv);have D:=g.ev (.tmp c) _ (UO hcc);refine u (!and) (!and) (bif (!and)then x else y) a' w e rfl U (.refl _) G (Zn U W) D ?_;refine AE ?_ _ (λv=>rfl);cases and<;>exact M
  cases and
  ·simp only[cond_false]at h;cases b
   ·exact run false y rfl rfl (h.f rfl)
   ·exact B true rfl rfl (h.t rfl)
  ·simp only[cond_true]at h;cases b
   ·exact B false rfl rfl (h.f rfl)
   ·exact run true x rfl rfl (h.t rfl)
variable {P:Program}{ops:Array Oper}{Q:Exit->Act->World->Prop}
def xw (ops:Array Oper)(k i:Nat):Bool:=match ops[k]? with
 | none=>false
 | some o=>o.after.toList.any λe=>Region.binds .any e&&Nat.beq e.on i
def TS (S:World->Prop)(C:List Nat)(listed:Array Bool)(w:World):Prop:=S w\/∃k∈C,listed.getD k false=true
def anyS (P:Program)(ops:Array Oper)(Q:Exit->Act->World->Prop)(S:World->Prop)(C:List Nat):Nat->Array Bool->Act->World->Prop
 | 0,listed,a,w=>Region.ready .any ops listed=[]/\Q .normal a w
 | m+1,listed,a,w=>(Region.ready .any ops listed=[]->Q .normal a w) ∧
  ∀i,i∈Region.ready .any ops listed->wpOp P ops Q i (λa' w'=>TS S C (listed.setIfInBounds i true) w'/\anyS P ops Q S C m (listed.setIfInBounds i true) a' w') a w
theorem Uc {S:World->Prop}{C:List Nat}:∀(m:Nat) (listed:Array Bool) (a:Act) (w:World),anyS P ops Q S C m listed a w->wpAny P .any ops Q m listed a w
 | 0,_,_,_,h=>h
 | m+1,_,_,_,h=>⟨h.1,λi hi=>wpOp_mono (λ_ _ h'=>Uc m _ _ _ h'.2) (h.2 i hi)⟩
theorem TS.out {S:World->Prop}{C:List Nat}{listed:Array Bool}{w:World}(h:TS S C listed w)(hn:∀k∈C,listed.getD k false=false):S w:=by
 rcases h with h|⟨k,hk,hl⟩
 ·exact h
 ·rw[hn k hk]at hl;cases hl
theorem MV {k i:Nat}{o:Oper}(ho:ops[k]?=some o)(hno:∀e∈o.after,Region.binds .any e=true->e.on≠i):xw ops k i=false:=by
 unfold xw;rw[ho];simp only;rw[mg];intro e he hb;simp only[zF]at hb;exact hno e (by simpa using he) hb.1 (jQ hb.2)
theorem TS.drop {S:World->Prop}{C:List Nat}{listed:Array Bool}{w:World}{i j:Nat}(hij:i≠j)(hi:∀k∈C,k≠i)(h:TS S C ((listed.setIfInBounds i true).setIfInBounds j true) w):TS S C (listed.setIfInBounds j true) w:=by
 refine h.imp id ?_;rintro⟨k,hk,hl⟩;refine⟨k,hk,?_⟩;rw[Array.setIfInBounds_comm _ _ hij,getD_set_ne false (Ne.symm (hi k hk))]at hl;exact hl
theorem Jw {S T:World->Prop}{C:List Nat}{i:Nat}{oi:Oper}{v:Value}(hi:ops[i]?=some oi)(hsel:∀(j:Nat) (o:Oper) cs b,ops[j]?=some o->o.op≠.select cs b)
 (hQ:∀c a w,Q (.panic c) (a.put oi.dst v) w->Q (.panic c) a w) (hiC:∀k∈C,k≠i) (hT:(∀w,T w)\/((∀w,S w->T w)/\∀k∈C,xw ops k i=true)) :
 ∀(m:Nat) (listed:Array Bool) (a:Act) (w:World),
  (∀j oj,ops[j]?=some oj->j≠i->listed.getD j true=false->(∀e∈oj.after,Region.binds .any e=true->e.on≠i)->oi.apart ops oj=true) →
  i∈Region.ready .any ops listed->((∀w,T w)\/∀k∈C,listed.getD k false=false)->YieldsIf P ops T oi v a->TS S C listed w →
  anyS P ops Q S C m (listed.setIfInBounds i true) (a.put oi.dst v) w->anyS P ops Q S C (m+1) listed a w:=by
 have s:∀{listed:Array Bool} {a:Act} {w:World} {K:Act->World->Prop},((∀w,T w)\/∀k∈C,listed.getD k false=false)->YieldsIf P ops T oi v a->TS S C listed w->K (a.put oi.dst v) w →
  wpOp P ops Q i (λG D=>TS S C (listed.setIfInBounds i true) D/\K G D) a w:=by
  intro listed a w K g hy hS hK;refine hy.wpOp hi ?_ ⟨?_,hK⟩
  ·rcases hT with hT|⟨hT,_⟩
   ·exact hT w
   ·rcases g with g|g
    ·exact g w
    ·exact hT w (hS.out g)
  ·refine hS.imp id ?_;rintro⟨k,u,hl⟩;exact⟨k,u,by rw[getD_set_ne false (Ne.symm (hiC k u))];exact hl⟩
 intro m
 induction m with
 | zero=>
  intro listed a w _ hr g hy hS H;refine⟨λh=>by rw[h]at hr;simp at hr,λj B=>?_⟩;by_cases hji:j=i
  ·rw[hji];exact s g hy hS H
  ·have p:=ready_mono B hji;rw[H.1]at p;simp at p
 | succ m ih=>
  intro listed a w hfree hr g hy hS H;refine⟨λh=>by rw[h]at hr;simp at hr,λj B=>?_⟩;by_cases hji:j=i
  ·rw[hji];exact s g hy hS H
  ·obtain⟨y,oj,r,z⟩:=mem_ready.1 B;have d:=(mem_ready.1 hr).1;have x:∀e∈oj.after,Region.binds .any e=true->e.on≠i:=by
    intro e he hb heq;have p:=z e he hb;rw[heq]at p;rw[sg]at p d;cases hg:listed[i]? with
    | none=>rw[hg]at p;cases p
    | some b=>rw[hg]at p d;simp only[pZ]at p d;rw[d]at p;cases p
   have M:=wpOp_putIf r (hfree j oj r hji y x) (λcs b=>hsel i oi cs b hi) (λcs b=>hsel j oj cs b r) hQ hy (H.2 j (ready_mono B hji));refine wpOp_mono (λG D E=>?_) M;have A:=E.2.1.drop (Ne.symm hji) hiC;refine⟨A,ih _ G D (λk ok u L F J=>?_) (ready_mono hr (Ne.symm hji)) ?_ E.1 A ?_⟩
   ·refine hfree k ok u L ?_ J;by_cases hjk:j=k
    ·rw[←hjk];exact y
    ·rwa [getD_set_ne true hjk]at F
   ·rcases hT with hT|⟨_,hw⟩
    ·exact .inl hT
    refine g.imp id λg k u=>?_;by_cases hjk:j=k
    ·exfalso;have:=hw k u;rw[←hjk,MV r x]at this;cases this
    ·rw[getD_set_ne false hjk];exact g k u
   ·rw[Array.setIfInBounds_comm _ _ hji];exact E.2.2
theorem AV {S T:World->Prop}{C:List Nat}{i m:Nat}{oi:Oper}{v:Value}{listed:Array Bool}{a:Act}{w:World}(hi:ops[i]?=some oi)(hs:Region.noSelect ops=true)(hf:Region.free .any ops listed i=true)
 (hr:i∈Region.ready .any ops listed) (hQ:∀c a w,Q (.panic c) (a.put oi.dst v) w->Q (.panic c) a w) (hiC:C.contains i=false)
 (hT:(∀w,T w)\/((∀w,S w->T w)/\∀k∈C,xw ops k i=true)) (hn:(∀w,T w)\/∀k∈C,listed.getD k false=false) (hy:YieldsIf P ops T oi v a) (hS:TS S C listed w)
 (h:anyS P ops Q S C m (listed.setIfInBounds i true) (a.put oi.dst v) w):anyS P ops Q S C (m+1) listed a w:=
 Jw hi (Region.noSelect_spec hs) hQ (λk b e=>by subst e;rw[yD.2 b]at hiC;cases hiC) hT m listed a w (Region.free_spec hi hf) hr hn hy hS h
theorem OB {S:World->Prop}{C:List Nat}{rs:List Nat}{m:Nat}{listed:Array Bool}{a:Act}{w:World}(hr:Region.ready .any ops listed=rs)(hne:rs≠[])
 (h:∀i∈rs,wpOp P ops Q i (λa' w'=>TS S C (listed.setIfInBounds i true) w'/\anyS P ops Q S C m (listed.setIfInBounds i true) a' w') a w):anyS P ops Q S C (m+1) listed a w:=
 ⟨λb=>absurd (hr▸b) hne,hr▸h⟩
theorem SI {S:World->Prop}{C:List Nat}{listed:Array Bool}{a:Act}{w:World}(hr:Region.ready .any ops listed=[])(h:Q .normal a w):∀m,anyS P ops Q S C m listed a w
 | 0=>⟨hr,h⟩
 | _+1=>⟨λ_=>h,by rw[hr];simp⟩
theorem UU {S:World->Prop}{C:List Nat}{id:Nat}{a:Act}{w:World}(hm:P.follows .mixedOrders=true)
 (h:anyS P ops Q S C ops.size (Array.replicate ops.size false) a {w with drawn:=w.drawn+1}):(Code.region id ops true).wp P Q a w:=
 wp_region_any hm (Uc _ _ _ _ h)
end Go.Vc
namespace Go.Vc
open Go
def Gx (P:Program):Op->Bool
 | .load _ _=>false
 | .lookup .. => false
 | .typeAssert .. => false
 | .convert s _ _=>match P.underlying s with
  | some (.slice _)=>false
  | _=>true
 | .call c=>match c.callee,c.argTypes.toList with
  | .builtin .len,[t]=>match P.underlying t with
   | some (.map _ _)=>false
   | some _=>true
   | none=>false
  | .builtin .cap,_=>true
  | .builtin .max,_=>true
  | .builtin .min,_=>true
  | _,_=>false
 | o=>sS o
theorem CG {op:BinOp}{k:IntKind}{x y:Int}{K:Value->Prop}(h:pM op k x y K):∃v,K v/\pM op k x y (· = v):=by
 cases op<;>simp only[pM,Ar,Nz,Nn]at h ⊢
 all_goals first
  | exact⟨_,h,rfl⟩
  | exact⟨_,h.2,h.1,rfl⟩
theorem H4 {op:BinOp}{b:Bool}{K:Value->Prop}(h:na op b K):∃v,K v/\na op b (· = v):=by
 cases op<;>simp only[na]at h ⊢ <;> first|exact h.elim|exact⟨_,h,rfl⟩
theorem Nr {P:Program}{op:BinOp}{t:Nat}{x y:Value}{K:Value->Prop}(h:lV P op t x y K):∃v,K v/\lV P op t x y (· = v):=by
 unfold lV at h ⊢;split at h
 ·obtain⟨v,a,b⟩:=H4 h;exact⟨v,a,by simp only[*]⟩
 ·obtain⟨v,a,b⟩:=H4 h;exact⟨v,a,by simp only[*]⟩
 ·obtain⟨v,a,b⟩:=H4 h;exact⟨v,a,by simp only[*]⟩
 ·obtain⟨d,h⟩:=h;obtain⟨v,a,b⟩:=H4 h;exact⟨v,a,by simp only[*];trivial⟩
 ·exact h.elim
theorem LV {P:Program}{op:BinOp}{t:Nat}{x y:Value}{K:Value->Prop}(h:lW P op t x y K):∃v,K v/\lW P op t x y (· = v):=by
 unfold lW at h ⊢;split at h
 ·split at h
  ·obtain⟨v,a,b⟩:=CG h;exact⟨v,a,by simpa[*]using b⟩
  ·rename_i hne;cases op<;>simp only at h
   all_goals try exact h.elim
   ·obtain⟨v,a,b⟩:=CG h;exact⟨v,a,by simpa[hne]using b⟩
   ·obtain⟨v,a,b⟩:=CG h;exact⟨v,a,by simpa[hne]using b⟩
 ·split at h
  ·obtain⟨v,a,b⟩:=H4 h;exact⟨v,a,by simp only[*]⟩
  ·exact h.elim
 ·cases op<;>simp only at h ⊢ <;> first|exact h.elim|exact⟨_,h,rfl⟩
 ·exact h.elim
theorem J0 {P:Program}{op:BinOp}{t:Nat}{xs ys:List Value}{K:Value->Prop}(h:nL P op t xs ys K):∃v,K v/\nL P op t xs ys (· = v):=by
 unfold nL at h ⊢;split at h
 case h_3=>exact h.elim
 all_goals
  rename_i hu;rw[Wu]at h;obtain⟨e,h⟩:=h;split at h
  case h_2=>exact h.elim
  rename_i b hb;obtain⟨v,d,a⟩:=H4 h;exact⟨v,d,by simp only[hu,Wu,hb];exact⟨e,a⟩⟩
theorem JH {P:Program}{op:BinOp}{t:Nat}{y:Operand}{vx vy:Value}{K:Value->Prop}(h:wM P op t y vx vy K):∃v,K v/\wM P op t y vx vy (· = v):=by
 unfold wM at h ⊢;cases hn:wE y
 ·rw[hn]at h;simp only[cond_false]at h ⊢;split at h
  ·exact J0 h
  ·exact LV h
 ·rw[hn]at h;exact Nr h
theorem uX {o:Option Value}{K:Value->Prop}(h:wv o K):∃v,K v/\wv o (· = v):=by
 obtain⟨v,rfl,a⟩:=Wr h;exact⟨v,a,rfl⟩
theorem JF {P:Program}{t off:Nat}{cs:List Value}{K:Value->Prop}(h:uy P t cs off K):∃v,K v/\uy P t cs off (· = v):=by
 unfold uy at h ⊢;split at h
 case h_2=>exact h.elim
 rename_i d ti hu hi;cases hd:Uq d
 ·rw[hd]at h;obtain⟨v,b,a⟩:=uX h;exact⟨v,b,by simpa[hd]using a⟩
 ·rw[hd]at h;exact⟨_,h,by simp⟩
theorem SJ {P:Program}{t:Nat}{ps:List (Nat×Value)}{K:Value->Prop}(h:nc P t ps K):∃v,K v/\nc P t ps (· = v):=by
 unfold nc at h ⊢;split at h
 ·split at h
  ·rename_i z hz;have key:∀{ps:List (Nat×Value)} {raw:Nat->Bool} {A:Prop},lD raw ps A->A/\∀B:Prop,B->lD raw ps B:=by
    intro ps raw
    induction ps with
    | nil=>intro A h;exact⟨h,λB b=>b⟩
    | cons x ps ih=>
     intro A h;simp only[lD]at h ⊢;cases hr:raw x.1
     ·rw[hr]at h;exact ih h
     ·rw[hr]at h;simp only[cond_true]at h ⊢;exact⟨(ih h.2).1,λB b=>⟨h.1,(ih h.2).2 B b⟩⟩
   obtain⟨h,a⟩:=key h;split at h
   ·rename_i cs hf;rw[Wu]at h;refine⟨_,h.2,?_⟩;simp only[*];refine a _ ?_;rw[Wu]
    first|exact⟨h.1,trivial⟩|exact⟨rfl,trivial⟩
   ·exact h.elim
  ·exact h.elim
 ·split at h
  ·split at h
   ·refine⟨_,h,?_⟩;simp only[*]
   ·exact h.elim
  ·exact h.elim
 ·exact h.elim
theorem Ly {P:Program}{t:Nat}{x:Value}{lo hi mx:Option Value}{K:Value->Prop}(h:nI P t x lo hi mx K):∃v,K v/\nI P t x lo hi mx (· = v):=by
 unfold nI at h ⊢;split at h
 case h_2=>exact h.elim
 rename_i e a n c hu;split at h
 case h_2=>exact h.elim
 rename_i ti hi';simp only at h ⊢;split at h
 case h_2=>exact h.elim
 rename_i l hh m hlo hhi hmx;obtain⟨i,j,d,g,b⟩:=h;refine⟨_,b,?_⟩;simp only[hu,hi',hlo,hhi,hmx];exact⟨i,j,d,g,rfl⟩
theorem BJ:∀{vs:List Value} {v:Value} {b:Bool} {K:Value->Prop},px b v vs K->∃z,K z/\px b v vs (· = z)
 | [],v,b,K,h=>⟨v,by simpa[px]using h,by simp[px]⟩
 | u::vs,v,b,K,h=>by
  cases v<;>cases u<;>simp only[px]at h ⊢ <;> try exact h.elim
  exact BJ h
theorem R3 {P:Program}{o:Op}(hp:Gx P o=true){ρ:Env}{h:Hp}{K:Value->Prop}(hk:qK P o ρ h K):∃v,K v/\∀h',qK P o ρ h' (· = v):=by
 unfold qK at hk;split at hk
 case h_1 x=>obtain⟨v,a,e⟩:=uX hk;exact⟨v,a,λ_=>e⟩
 case h_2 x=>obtain⟨v,a,e⟩:=uX hk;exact⟨v,a,λ_=>e⟩
 case h_3 c x y=>
  obtain⟨v,A,hk⟩:=Wr hk;split at hk
  ·obtain⟨u,a,e⟩:=uX hk;exact⟨u,a,λ_=>by simpa only[qK,A,wv]using e⟩
  ·obtain⟨u,a,e⟩:=uX hk;exact⟨u,a,λ_=>by simpa only[qK,A,wv]using e⟩
  ·exact hk.elim
 case h_4=>simp[Gx]at hp
 case h_5 x=>
  obtain⟨v,A,hk⟩:=Wr hk;split at hk
  ·obtain⟨D,rfl,r⟩:=hk;exact⟨_,r,λ_=>by simp only[qK,A,wv];exact⟨D,rfl,rfl⟩⟩
  ·exact⟨_,hk,λ_=>by simp only[qK,A,wv]⟩
  ·exact hk.elim
 case h_6 op t x y yt=>
  obtain⟨j,g,hk⟩:=Wr hk;obtain⟨N,G,C⟩:=Wr hk;obtain⟨v,a,e⟩:=JH C;exact⟨v,a,λ_=>by simpa only[qK,g,G,wv]using e⟩
 case h_7 op t x=>
  obtain⟨j,g,hk⟩:=Wr hk;split at hk
  ·exact⟨_,hk,λ_=>by simp only[qK,g,wv]⟩
  ·exact⟨_,hk,λ_=>by simp only[qK,g,wv,Ar]⟩
  ·exact hk.elim
 case h_8 s d x=>
  obtain⟨j,g,hk⟩:=Wr hk;split at hk
  ·rename_i a e;exact⟨_,hk,λ_=>by simp only[qK,g,wv,a,e,Ar]⟩
  ·rename_i a e;exact⟨_,hk,λ_=>by simp only[qK,g,wv,a,e]⟩
  ·rename_i a e;simp[Gx,a]at hp
  ·exact hk.elim
 case h_9 s x f=>
  obtain⟨j,g,hk⟩:=Wr hk;obtain⟨F,J,E,z,hk⟩:=GH hk;split at hk
  ·rw[Wu]at hk;exact⟨_,hk.2,λ_=>by simp only[qK,g,wv,nA,E,z,Wu];exact⟨hk.1,trivial⟩⟩
  ·exact hk.elim
 case h_10 s x f=>
  obtain⟨j,g,hk⟩:=Wr hk;obtain⟨F,J,E,z,hk⟩:=GH hk;split at hk
  ·obtain⟨v,a,e⟩:=JF hk;exact⟨v,a,λ_=>by simpa only[qK,g,wv,nA,E,z]using e⟩
  ·exact hk.elim
 case h_11 t x i=>
  obtain⟨j,g,hk⟩:=Wr hk;obtain⟨L,B,hk⟩:=Wr hk;split at hk
  ·have w:=(by assumption:P.underlying t=some _);rw[Wu]at hk;obtain⟨a,D,rfl,e,p,r⟩:=hk;exact⟨_,r,λ_=>by simp only[qK,g,B,wv,w,Wu];exact⟨a,D,rfl,e,p,rfl⟩⟩
  ·have w:=(by assumption:P.underlying t=some _);rw[Wu]at hk;obtain⟨a,e,p,r⟩:=hk;exact⟨_,r,λ_=>by simp only[qK,g,B,wv,w,Wu];exact⟨a,e,p,rfl⟩⟩
  ·exact hk.elim
 case h_12 t x i=>
  obtain⟨j,g,hk⟩:=Wr hk;obtain⟨L,B,hk⟩:=Wr hk;split at hk
  ·have w:=(by assumption:P.underlying t=some _);obtain⟨b,a,e,r⟩:=hk;exact⟨_,r,λ_=>by simp only[qK,g,B,wv,w];exact⟨b,a,e,rfl⟩⟩
  ·exact hk.elim
 case h_13=>simp[Gx]at hp
 case h_14 t i=>
  obtain⟨j,g,hk⟩:=Wr hk;split at hk
  ·obtain⟨v,a,e⟩:=uX hk;exact⟨v,a,λ_=>by simpa only[qK,g,wv]using e⟩
  ·exact hk.elim
 case h_15 fn x y=>
  split at hk
  ·rename_i va vb a e;exact⟨_,hk,λ_=>by simp only[qK,a,e]⟩
  ·exact hk.elim
 case h_16 t ps=>
  split at hk
  ·rename_i vs a;obtain⟨v,e,p⟩:=SJ hk;exact⟨v,e,λ_=>by simpa only[qK,a]using p⟩
  ·exact hk.elim
 case h_17 t x lo B mx=>
  obtain⟨j,g,hk⟩:=Wr hk;split at hk
  ·rename_i l h m a e p;obtain⟨v,H,M⟩:=Ly hk;exact⟨v,H,λ_=>by simpa only[qK,g,wv,a,e,p]using M⟩
  ·exact hk.elim
 case h_18 t x=>
  obtain⟨j,g,hk⟩:=Wr hk;rw[Wu]at hk;exact⟨_,hk.2,λ_=>by simp only[qK,g,wv,Wu];exact⟨hk.1,trivial⟩⟩
 case h_19=>simp[Gx]at hp
 case h_20 c=>
  split at hk
  ·rename_i x t hc ha ht;unfold lX at hk;split at hk
   ·exact⟨_,hk,λ_=>by simp only[qK,hc,ha,ht,lX, *]⟩
   ·exact⟨_,hk,λ_=>by simp only[qK,hc,ha,ht,lX, *]⟩
   ·exact⟨_,hk,λ_=>by simp only[qK,hc,ha,ht,lX, *]⟩
   ·rename_i w;simp only[Gx,hc,ht,w]at hp;cases hp
   ·exact hk.elim
  ·rename_i hc ha ht;split at hk
   ·exact⟨_,hk,λ_=>by simp only[qK,hc,ha,ht, *]⟩
   ·exact hk.elim
  ·rename_i hc ha;obtain⟨v,a,e⟩:=BJ hk;exact⟨v,a,λ_=>by simpa only[qK,hc,ha]using e⟩
  ·rename_i hc ha;obtain⟨v,a,e⟩:=BJ hk;exact⟨v,a,λ_=>by simpa only[qK,hc,ha]using e⟩
  ·exact hk.elim
 ·exact hk.elim
def gG (S:aP)(c:CK)(a:Addr)(K:c.T->Prop):Prop:=∃x,(∀h,S h->cell h a=some (c.v x))/\K x
def su (S:aP):List CK->Addr->Nat->(List Value->Prop)->Prop
 | [],_,_,K=>K []
 | c::cs,a,i,K=>gG S c (a.add i) λx=>su S cs a (i+1) λvs=>K (c.v x::vs)
def Pg (S:aP)(k:IntKind)(c:CK)(m:Option Nat)(n:Int)(K:Option c.T->Prop):Prop:=∃l,(∀h,S h->ji h m k c l)/\K (bU l n)
def SY (S:aP)(k:IntKind)(c:CK)(m:Option Nat)(K:Int->Prop):Prop:=∃l,(∀h,S h->ji h m k c l)/\K (l.length:Int)
def qS (P:Program)(S:aP)(o:Op)(ρ:Env)(K:Value->Prop):Prop:=
 match o with
 | .load t a=>wv (ev ρ a) λv=>match v,jZ P t with
  | .pointer (some a),some (.one c)=>fR (P.info? t).isSome (gG S c a λx=>K (c.v x))
  | .pointer (some a),some (.agg cs)=>fR (P.cellsOf t==cs.length) (fR (P.info? t).isSome (su S cs a 0 λvs=>K (.agg vs.toArray)))
  | _,_=>False
 | .lookup t x i ok=>wv (ev ρ x) λvx=>wv (ev ρ i) λvi=>match P.underlying t,vx,vi with
  | some (.map kt et),.map m,.int k n=>match P.underlying kt,pw P et,P.info? et with
   | some (.int k'),some (.one c),some ti=>match ti.zero with
    | some z=>if k=k' then mR c z λz=>Pg S k c m n λo=>K (bif ok then .tuple #[c.v (o.getD z),.bool o.isSome]else c.v (o.getD z))else False
    | none=>False
   | _,_,_=>False
  | _,_,_=>False
 | .call c=>match c.callee,p8 ρ c.args.toList,c.argTypes.toList with
  | .builtin .len,some [.map m],[t]=>sf P t λk c=>SY S k c m λz=>K (.int .i64 z)
  | _,_,_=>False
 | _=>False
theorem DQ {S:aP}:∀{cs:List CK} {a:Addr} {i:Nat} {K:List Value->Prop},su S cs a i K->∃vs,K vs/\∀h,S h->nv cs a i h (· = vs)
 | [],a,i,K,hk=>⟨[],hk,λh _=>rfl⟩
 | c::cs,a,i,K,⟨x,hx,hk⟩=>by
  obtain⟨vs,hK,hall⟩:=DQ hk;refine⟨c.v x::vs,hK,λh b=>?_⟩;have m:nv cs a (i+1) h λus=>c.v x::us=c.v x::vs:=by
   have key:∀{cs:List CK} {i:Nat} {K K':List Value->Prop},(∀vs,K vs->K' vs)->nv cs a i h K->nv cs a i h K':=by
    intro cs
    induction cs with
    | nil=>intro i K K' hh hk;exact hh _ hk
    | cons c cs ih=>
     intro i K K' hh hk;simp only[nv]at hk ⊢;cases c<;>(obtain⟨y,e,hk⟩:=hk;exact⟨y,e,ih (λvs d=>hh _ d) hk⟩)
   exact key (λus g=>by rw[g]) (hall h b)
  simp only[nv];have j:=hx h b;cases c<;>exact⟨x,j,m⟩
theorem MM {P:Program}{t:Nat}{K:IntKind->CK->Prop}(h:sf P t K):∃kt et k c,P.underlying t=some (.map kt et)/\P.underlying kt=some (.int k)/\pw P et=some (.one c)/\K k c:=by
 unfold sf at h;split at h
 ·split at h
  ·exact⟨_,_,_,_,by assumption,by assumption,by assumption,h⟩
  ·exact h.elim
 ·exact h.elim
theorem Rn {P:Program}{S:aP}{o:Op}{ρ:Env}{K:Value->Prop}(hk:qS P S o ρ K):∃v,K v/\∀h,S h->qK P o ρ h (· = v):=by
 unfold qS at hk;split at hk
 ·obtain⟨N,r,hk⟩:=Wr hk;split at hk
  ·rename_i ad c hs;rw[Wu]at hk;obtain⟨u,x,C,b⟩:=hk;refine⟨_,b,λh d=>?_⟩;simp only[qK,r,wv,hs,Wu];refine⟨u,?_⟩;have s:=C h d;cases c<;>exact⟨x,s,rfl⟩
  ·rename_i ad cs hs;rw[Wu,Wu]at hk;obtain⟨u,F,hk⟩:=hk;obtain⟨vs,b,g⟩:=DQ hk;refine⟨_,b,λh d=>?_⟩;simp only[qK,r,wv,hs,Wu];refine⟨u,F,?_⟩;have key:∀{cs:List CK} {i:Nat} {K K':List Value->Prop},(∀vs,K vs->K' vs)->nv cs ad i h K->nv cs ad i h K':=by
    intro cs
    induction cs with
    | nil=>intro i K K' hh hk;exact hh _ hk
    | cons c cs ih=>
     intro i K K' hh hk;simp only[nv]at hk ⊢;cases c<;>(obtain⟨y,J,hk⟩:=hk;exact⟨y,J,ih (λvs D=>hh _ D) hk⟩)
   exact key (λus p=>by rw[p]) (g h d)
  ·exact hk.elim
 ·obtain⟨R,C,j⟩:=Wr hk;obtain⟨Q,E,a⟩:=Wr j;clear hk j;split at a
  case h_2=>exact a.elim
  rename_i L G m k n p;split at a
  case h_2=>exact a.elim
  rename_i k' c ti hkk hs hti;split at a
  case h_2=>exact a.elim
  rename_i z hz;split at a
  case isFalse=>exact a.elim
  rename_i e;subst e;obtain⟨M,rfl,l,w,b⟩:=VM a;refine⟨_,b,λh d=>?_⟩;simp only[qK,C,E,wv,ye,p,hkk,hs,hti,hz,zS];have H:=w h d;rw[Pb];exact⟨l,H,rfl⟩
 ·split at hk
  ·rename_i m t s r ht;obtain⟨L,G,k,c,p,B,A,l,w,b⟩:=MM hk;refine⟨_,b,λh d=>?_⟩;simp only[qK,s,r,ht,lX,p,B,A];exact⟨l,w h d,rfl⟩
  ·exact hk.elim
 ·exact hk.elim
structure iq (ops:Array Oper) (listed:Array Bool) (D:List Nat):Prop where
 size:listed.size=ops.size
 at_:∀j,j<ops.size->listed[j]?=some (D.contains j)
 lt:∀j∈D,j<ops.size
theorem iq.getD {ops:Array Oper}{listed:Array Bool}{D:List Nat}(h:iq ops listed D){j:Nat}(hj:j<ops.size)(b:Bool):listed.getD j b=D.contains j:=by
 rw[sg,h.at_ j hj];rfl
theorem iq.mQ {ops:Array Oper}{listed:Array Bool}{D:List Nat}(h:iq ops listed D)(j:Nat):listed.getD j false=D.contains j:=by
 rcases kE j ops.size with hj|hj
 ·exact h.getD hj false
 ·rw[sg,Array.getElem?_eq_none (by rw[h.size];exact hj)]
  symm
  simp only[Option.getD_none,r8,decide_eq_false_iff_not];exact λa=>by have:=h.lt j a;omega
theorem iq.start (ops:Array Oper):iq ops (Array.replicate ops.size false) []:=
 ⟨by simp,λj a=>by simp[a],λj a=>by simp at a⟩
theorem iq.cons {ops:Array Oper}{listed:Array Bool}{D:List Nat}(h:iq ops listed D){i:Nat}(hi:i<ops.size):iq ops (listed.setIfInBounds i true) (i::D):=by
 refine⟨by simp[h.size],λj a=>?_,λj a=>?_⟩
 ·by_cases hij:i=j
  ·subst hij;simp[h.size,a]
  ·rw[yg hij,h.at_ j a];have:(j==i)=false:=by simpa using λe=>hij e.symm
   simp only[List.contains_cons,this,xY]
 ·rcases zV.1 a with rfl|h'
  ·exact hi
  ·exact h.lt j h'
def mK (ops:Array Oper)(D:List Nat)(i:Nat):Bool:=match ops[i]? with
 | none=>false
 | some o=>!D.contains i&&o.after.toList.all λe=>!Region.binds .any e||D.contains e.on
def Cn (ops:Array Oper)(D:List Nat)(i:Nat):Bool:=match ops[i]? with
 | none=>false
 | some oi=>(List.range ops.size).all λj=>Nat.beq j i||(D.contains j||match ops[j]? with
  | some oj=>oj.after.toList.any (λe=>Region.binds .any e&&Nat.beq e.on i)||oi.apart ops oj
  | none=>true)
theorem Cw {ops:Array Oper}{D:List Nat}{i:Nat}(h:mK ops D i=true):i<ops.size:=by
 unfold mK at h;split at h
 ·cases h
 ·rename_i o ho;exact(zz.1 ho).1
theorem GV {ops:Array Oper}{listed:Array Bool}{D:List Nat}(h:iq ops listed D)(i:Nat):i∈Region.ready .any ops listed↔mK ops D i=true:=by
 rw[mem_ready];unfold mK;cases ho:ops[i]? with
 | none=>simp
 | some o=>
  have d:i<ops.size:=(zz.1 ho).1;simp only[h.getD d,Option.some.injEq,exists_eq_left',zF,mq,ke,nG];constructor
  ·rintro⟨h1,h2⟩;refine⟨h1,λe b=>?_⟩;cases a:Region.binds .any e
   ·exact .inl rfl
   ·right;have:=h2 e (by simpa using b) a
    rwa [h.mQ]at this
  ·rintro⟨h1,h2⟩;refine⟨h1,λe b a=>?_⟩;have:=h2 e (by simpa using b);rw[a]at this;rw[h.mQ];simpa using this
theorem HL {ops:Array Oper}{listed:Array Bool}{D:List Nat}(h:iq ops listed D){i:Nat}(hf:Cn ops D i=true):Region.free .any ops listed i=true:=by
 unfold Cn at hf;unfold Region.free;cases ho:ops[i]? with
 | none=>rw[ho]at hf;cases hf
 | some oi=>
  rw[ho]at hf;simp only[ke,zd]at hf ⊢;intro j hj;have:=hf j hj;rw[h.getD hj];simp only[nG]at this ⊢;rcases this with h1|h1|h1
  ·exact .inl (.inl (by simpa using jQ h1))
  ·exact .inl (.inr h1)
  ·right;split at h1
   ·rename_i oj hoj;simp only[hoj,nG]at h1 ⊢;rcases h1 with h1|h1
    ·left;rw[kf]at h1;obtain⟨e,b,a⟩:=h1;simp only[zF]at a;rw[Array.any_eq_true'];exact⟨e,by simpa using b,by simp[a.1,jQ a.2]⟩
    ·exact .inr h1
   ·rename_i hoj;simp[hoj]
inductive SH where
 | done
 | take (i:Nat) (r:SH)
 | split (c:Nat) (t f:SH)
 | all (l:List (Nat×SH))
def SH.tk:List Nat->SH->SH
 |[],s=>s
 |i::l,s=>.take i (SH.tk l s)
def Sx (sm:Bool)(S:aP)(h:Hp)(X:Prop):Prop:=match sm with
 | true=>S h/\X
 | false=>X
def shut (C D:List Nat):Bool:=C.any λk=>D.contains k
def ua (f:Nat->SH->Prop):List (Nat×SH)->Prop
 | []=>True
 | [x]=>f x.1 x.2
 | x::y::l=>f x.1 x.2/\ua f (y::l)
def Ui (P:Program)(N:Nat)(ops:Array Oper)(sm:Bool)(C:List Nat)(S:aP)(K:Env->Hp->Prop):Nat->Nat->SH->List Nat->Env->Hp->Prop
 | 0,_,_,_,_,_=>False
 | n+1,_,.done,D,ρ,h=>fR ((List.range ops.size).all λj=>D.contains j) (K ρ h)
 | n+1,m+1,.take i r,D,ρ,h=>match ops[i]? with
  | some o=>fR (mK ops D i&&(Cn ops D i&&(qt N o.dst && !C.contains i)))
   (bif tO ops o ρ then Ui P N ops sm C S K n m r (i::D) (ρ.im o.dst undef) h
    else fR (GE ops o ρ) (bif Gx P o.op then qK P o.op ρ h λv=>Ui P N ops sm C S K n m r (i::D) (ρ.im o.dst v) h
     else fR (sm&&((C.all λk=>xw ops k i) && !shut C D)) (qS P S o.op ρ λv=>Ui P N ops sm C S K n m r (i::D) (ρ.im o.dst v) h)))
  | none=>False
 | n+1,m,.split c t f,D,ρ,h=>Up ρ (.tmp c) λb=>If b (Ui P N ops sm C S K n m t D (ρ.put c (.bool true)) h) (Ui P N ops sm C S K n m f D (ρ.put c (.bool false)) h)
 | n+1,m+1,.all l,D,ρ,h=>fR ((!l.isEmpty&&l.all λx=>Nat.blt x.1 ops.size)&&((List.range ops.size).all λj=>mK ops D j==l.any λx=>Nat.beq x.1 j))
  (ua (λi r=>match ops[i]? with
   | some o=>fR (qt N o.dst) (bif tO ops o ρ then Sx (sm && !shut C (i::D)) S h (Ui P N ops sm C S K n m r (i::D) (ρ.im o.dst undef) h)
    else fR (GE ops o ρ) (si P o.op o.type ρ h λv h'=>Sx (sm && !shut C (i::D)) S h' (Ui P N ops sm C S K n m r (i::D) (ρ.im o.dst v) h')))
   | none=>False) l)
 | _,_,_,_,_,_=>False
def dY (h:Hp)(body:(Hp->Prop)->Prop):Prop:=∃S:Hp->Prop,S h/\body S
theorem EY {f:Nat->SH->Prop}:∀{l:List (Nat×SH)},ua f l->∀x∈l,f x.1 x.2
 | [],_,x,hx=>by simp at hx
 | [y],h,x,hx=>by simp at hx;subst hx;exact h
 | y::z::l,h,x,hx=>by
  rcases zV.1 hx with rfl|hx
  ·exact h.1
  ·exact EY h.2 x hx
theorem wS {ds:List Nat}{ρ ρ':Env}{ops:Array Oper}{i:Nat}{o:Oper}(ho:ops[i]?=some o){v:Value}
 (k:∀j,(ops.toList.filterMap (·.dst)).contains j=false->∀u,(ρ.im o.dst v) j=some u->ρ' j=some u):∀j,(ops.toList.filterMap (·.dst)).contains j=false->∀u,ρ j=some u->ρ' j=some u:=by
 intro j hj u hu;refine k j hj u ?_;cases hd:o.dst with
 | none=>exact hu
 | some d=>
  simp only[Env.im,Env.put];cases hb:Nat.beq j d
  ·exact hu
  ·have e:j=d:=jQ hb;subst e;exfalso;simp only[r8,decide_eq_false_iff_not,wy,not_exists,not_and]at hj;refine hj o ?_ hd;have:=yr ho;simpa using this
def TD (S:aP)(C D:List Nat)(h:Hp):Prop:=S h\/shut C D=true
theorem TD.ts {S:aP}{C D:List Nat}{ops:Array Oper}{listed:Array Bool}{w:World}(hD:iq ops listed D)(h:TD S C D w.heap):TS (λw=>S w.heap) C listed w:=by
 refine h.imp id λa=>?_;unfold shut at a;rw[kf]at a;obtain⟨k,b,d⟩:=a;exact⟨k,b,by rw[hD.mQ];exact d⟩
theorem R5 {C D:List Nat}{ops:Array Oper}{listed:Array Bool}(hD:iq ops listed D)(h:shut C D=false):∀k∈C,listed.getD k false=false:=by
 intro k hk;unfold shut at h;rw[mg]at h;rw[hD.mQ];simpa using h k hk
theorem M7 {C D:List Nat}{i:Nat}(h:shut C D=true):shut C (i::D)=true:=by
 unfold shut at *;rw[kf]at *;obtain⟨k,a,b⟩:=h;refine⟨k,a,?_⟩;rw[yD]at *;exact mC _ b
theorem Es {sm:Bool}{S:aP}{C D:List Nat}{h:Hp}{X:Prop}(hs:sm=false->∀h,S h)(hx:Sx (sm && !shut C D) S h X):TD S C D h/\X:=by
 cases hc:shut C D
 ·rw[hc]at hx;simp only[wD,u6]at hx;cases sm
  ·exact⟨.inl (hs rfl h),hx⟩
  ·exact⟨.inl hx.1,hx.2⟩
 ·rw[hc]at hx;simp only[Bool.not_true,tH]at hx;exact⟨.inr hc,hx⟩
theorem Z2 {P:Program}{N:Nat}{ops:Array Oper}{sm:Bool}{C:List Nat}{S:aP}{K:Env->Hp->Prop}{Qn:Act->World->Prop}(hsel:Region.noSelect ops=true)(hsm:sm=false->∀h,S h):∀(n m:Nat) {sh:SH} {D:List Nat} {ρ:Env} {a:Act} {w:World} {listed:Array Bool},
 Ui P N ops sm C S K n m sh D ρ w.heap->Fits N ρ a->iq ops listed D->TD S C D w.heap->(∀ρ' a' w',Fits N ρ' a'->Xd w w'->VP ops.toList ρ ρ'->K ρ' w'.heap->Qn a' w') →
 anyS P ops (λe a w=>match e with | .normal=>Qn a w|_=>False) (λw=>S w.heap) C m listed a w
 | 0,m,sh,D,ρ,a,w,listed,h,hf,hD,hS,hK=>(by simp only[Ui]at h)
 | n+1,m,.done,D,ρ,a,w,listed,h,hf,hD,hS,hK=>by
  have h':fR ((List.range ops.size).all λj=>D.contains j) (K ρ w.heap):=by cases m<;>exact h
  rw[Wu]at h';refine SI ?_ (hK ρ a w hf (.refl _) (λ_ _ _ h=>h) h'.2) m;rw[List.eq_nil_iff_forall_not_mem];intro j X;have B:=(GV hD j).1 X;have:=ke.1 h'.1 j (zd.2 (Cw B));unfold mK at B;split at B
  ·cases B
  ·rw[this]at B;simp at B
 | n+1,0,.take i r,D,ρ,a,w,listed,h,hf,hD,hS,hK=>(by simp only[Ui]at h)
 | n+1,m+1,.take i r,D,ρ,a,w,listed,h,hf,hD,hS,hK=>by
  simp only[Ui]at h;split at h
  case h_2=>exact h.elim
  rename_i o ho;rw[Wu]at h;obtain⟨Y,h⟩:=h;simp only[zF,mq]at Y;obtain⟨ac,W,s,R⟩:=Y;have H:=Cw ac;have z:i∈Region.ready .any ops listed:=(GV hD i).2 ac;have p:TD S C (i::D) w.heap:=hS.imp id M7;cases hg:tO ops o ρ
  ·rw[hg]at h;simp only[cond_false]at h;rw[Wu]at h;obtain⟨M,h⟩:=h;have hw:=Zn hf M;cases hp:Gx P o.op
   ·rw[hp]at h;simp only[cond_false]at h;rw[Wu]at h;obtain⟨U,h⟩:=h;simp only[zF,mq,ke]at U;obtain⟨v,J,F⟩:=Rn h;refine AV (T:=λw=>S w.heap) ho hsel (HL hD W) z (λ_ _ _ h=>h) R (.inr ⟨λ_ h=>h,U.2.1⟩) (.inr (R5 hD U.2.2)) (v:=v) (.inl ⟨hw,λw' p=>?_⟩) (hS.ts hD) ?_
    ·obtain⟨u,B,rfl⟩:=GO hf.ev o (F w'.heap p);exact B
    ·exact Z2 hsel hsm n m J (hf.put s v) (hD.cons H) p λρ' a' w' g G E d=>hK ρ' a' w' g G (wS (ds:=[]) ho E) d
   ·rw[hp]at h;simp only[cond_true]at h;obtain⟨v,J,F⟩:=R3 hp h;refine AV (T:=λ_=>True) ho hsel (HL hD W) z (λ_ _ _ h=>h) R (.inl λ_=>trivial) (.inl λ_=>trivial) (v:=v) (.inl ⟨hw,λw' _=>?_⟩) (hS.ts hD) ?_
    ·obtain⟨u,B,rfl⟩:=GO hf.ev o (F w'.heap);exact B
    ·exact Z2 hsel hsm n m J (hf.put s v) (hD.cons H) p λρ' a' w' g G E d=>hK ρ' a' w' g G (wS (ds:=[]) ho E) d
  ·rw[hg]at h;simp only[cond_true]at h;refine AV (T:=λ_=>True) ho hsel (HL hD W) z (λ_ _ _ h=>h) R (.inl λ_=>trivial) (.inl λ_=>trivial) (v:=undef) (.inr ⟨KQ hf hg,rfl⟩) (hS.ts hD) ?_;exact Z2 hsel hsm n m h (hf.put s undef) (hD.cons H) p λρ' a' w' g G E d=>hK ρ' a' w' g G (wS (ds:=[]) ho E) d
 | n+1,m,.split c t f,D,ρ,a,w,listed,h,hf,hD,hS,hK=>by
  have h':Up ρ (.tmp c) λb=>If b (Ui P N ops sm C S K n m t D (ρ.put c (.bool true)) w.heap) (Ui P N ops sm C S K n m f D (ρ.put c (.bool false)) w.heap):=by cases m<;>exact h
  obtain⟨b,hb,Z⟩:=Kz h';have A:=λe=>Z.t e;have h2:=λe=>Z.f e;have V:ρ c=some (.bool b):=hb;have kk:∀(b':Bool),b=b'->∀ρ',VP ops.toList (ρ.put c (.bool b')) ρ'->VP ops.toList ρ ρ':=by
   intro b' e ρ' k i H u hu;refine k i H u ?_;simp only[Env.put];cases hic:Nat.beq i c
   ·exact hu
   ·have e2:i=c:=jQ hic;subst e2;rw[V]at hu;simp only[cond_true];rw[←e];exact hu
  cases b
  ·exact Z2 hsel hsm n m (h2 rfl) (hf.lit V rfl) hD hS λρ' a' w' g G E d=>hK ρ' a' w' g G (kk false rfl ρ' E) d
  ·exact Z2 hsel hsm n m (A rfl) (hf.lit V rfl) hD hS λρ' a' w' g G E d=>hK ρ' a' w' g G (kk true rfl ρ' E) d
 | n+1,0,.all l,D,ρ,a,w,listed,h,hf,hD,hS,hK=>(by simp only[Ui]at h)
 | n+1,m+1,.all l,D,ρ,a,w,listed,h,hf,hD,hS,hK=>by
  simp only[Ui]at h;rw[Wu]at h;obtain⟨Y,h⟩:=h;simp only[zF,mq,ke,zd,zT]at Y;obtain⟨⟨hne,hlt⟩,ad⟩:=Y;have aa:∀j,j∈Region.ready .any ops listed->∃r,(j,r)∈l:=by
   intro j X;have B:=(GV hD j).1 X;have:=ad j (Cw B);rw[B]at this;have:=kf.1 this.symm;obtain⟨x,hx,hb⟩:=this;have e:x.1=j:=jQ hb;exact⟨x.2,by rw[←e];exact hx⟩
  refine OB (rs:=Region.ready .any ops listed) rfl ?_ λj X=>?_
  ·intro hnil
   match l,hne with
   | x::l',_=>
    have hx:=Nat.blt_eq.mp (hlt x aA);have:=ad x.1 hx;have ab:(x::l').any (λy=>Nat.beq y.1 x.1)=true:=kf.2 ⟨x,by simp,by simp⟩;rw[ab]at this;have:=(GV hD x.1).2 this;rw[hnil]at this;simp at this
  ·obtain⟨r,B⟩:=aa j X;have A:=EY h (j,r) B;simp only at A;split at A
   case h_2=>exact A.elim
   rename_i o ho;have H:j<ops.size:=(zz.1 ho).1;rw[Wu]at A;obtain⟨s,A⟩:=A;unfold wpOp;simp only[ho];cases hg:tO ops o ρ
   ·rw[hg]at A;simp only[cond_false]at A;rw[Wu]at A;obtain⟨M,A⟩:=A;rw[zC (Zn hf M)];refine .inl (QV.upon (UK hf.ev o A) λv w' G J=>?_);obtain⟨p,J⟩:=Es hsm J;exact⟨p.ts (hD.cons H),Z2 hsel hsm n m J (hf.put s v) (hD.cons H) p λρ' a' Q g L E d=>hK ρ' a' Q g (G.trans L) (wS (ds:=[]) ho E) d⟩
   ·rw[hg]at A;simp only[cond_true]at A;rw[KQ hf hg];simp only[ze,j8];obtain⟨p,J⟩:=Es hsm A;exact⟨p.ts (hD.cons H),Z2 hsel hsm n m J (hf.put s undef) (hD.cons H) p λρ' a' Q g L E d=>hK ρ' a' Q g L (wS (ds:=[]) ho E) d⟩
def yk (P:Program)(N:Nat)(sm:Bool)(C:List Nat)(sh:SH)(ops:Array Oper)(ρ:Env)(h:Hp)(K:Env->Hp->Prop):Prop:=
 match sm with
 | true=>dY h λS=>Ui P N ops true C S K 400 ops.size sh [] ρ h
 | false=>Ui P N ops false C (λ_=>True) K 400 ops.size sh [] ρ h
theorem Ur {P:Program}{N id:Nat}{ops:Array Oper}{sm:Bool}{C:List Nat}{sh:SH}{K:Env->Hp->Prop}{ρ:Env}{a:Act}{w:World}{Q:Exit->Act->World->Prop}
 (hm:P.follows .mixedOrders=true) (hsel:Region.noSelect ops=true) (h:yk P N sm C sh ops ρ w.heap K)
 (hf:Fits N ρ a) (hK:∀ρ' a' w',Fits N ρ' a'->Xd w w'->VP ops.toList ρ ρ'->K ρ' w'.heap->Q .normal a' w'):(Code.region id ops true).wp P Q a w:=by
 refine wp_mono (Q:=λe a w=>match e with | .normal=>Q .normal a w|_=>False) ?_ (λe a w j=>by cases e<;>first|exact j|exact j.elim)
 have hd:Xd w {w with drawn:=w.drawn+1}:=⟨rfl,rfl,rfl,zD _⟩;cases sm
 ·exact UU (S:=λw=>True) hm (Z2 (S:=λ_=>True) (w:={w with drawn:=w.drawn+1}) (Qn:=Q .normal) hsel (λ_ _=>trivial) 400 ops.size h hf (iq.start ops) (.inl trivial) λρ' a' w' b g i d=>hK ρ' a' w' b (hd.trans g) i d)
 ·obtain⟨S,m,h⟩:=h;exact UU hm (Z2 (S:=S) (w:={w with drawn:=w.drawn+1}) (Qn:=Q .normal) hsel (λe=>by cases e) 400 ops.size h hf (iq.start ops) (.inl m) λρ' a' w' b g i d=>hK ρ' a' w' b (hd.trans g) i d)
abbrev Js:=List (Nat×SK)
def ma (js:Js):List CK:=eT (js.map (·.2))
def sR (ρ:Env):Js->Option (List Value)
 | []=>some []
 | (i,.one _)::js=>match ρ i,sR ρ js with|some v,some vs=>some (v::vs)|_,_=>none
 | (i,.agg cs)::js=>match ρ i,sR ρ js with
  | some (.agg a),some vs=>bif a.size==cs.length then some (a.toList++vs)else none
  | _,_=>none
def rq (js:Js)(ρ:Env)(J:eR (ma js))(h:Hp):Prop:=match sR ρ js with
 | some vs=>rD (ma js) J vs h
 | none=>False
def iu:Env->Js->List Value->Env
 | ρ,[],_=>ρ
 | ρ,(i,.one _)::js,v::vs=>iu (ρ.put i v) js vs
 | ρ,(i,.one _)::js,[]=>iu ρ js []
 | ρ,(i,.agg cs)::js,vs=>iu (ρ.put i (.agg (vs.take cs.length).toArray)) js (vs.drop cs.length)
def Jn (ks:List CK)(K:eR ks)(body:eR ks->Prop):Prop:=∃J:eR ks,eR.le ks J K/\body J
theorem eR.le_refl:∀(ks:List CK) (R:eR ks),eR.le ks R R
 | [],_=>λ_ h=>h
 | _::cs,_=>λ_=>eR.le_refl cs _
theorem Jn.intro {ks:List CK}{K:eR ks}{body:eR ks->Prop}(h:body K):Jn ks K body:=⟨K,eR.le_refl ks K,h⟩
def mu (ds:List Nat)(i:Nat):Bool:=ds.contains i
def KZ (ds:List Nat)(ρ ρ':Env):Prop:=∀i,ds.contains i=false->∀v,ρ i=some v->ρ' i=some v
theorem KZ.trans {d1 d2:List Nat}{a b c:Env}(h:KZ d1 a b)(k:KZ d2 b c):KZ (d1++d2) a c:=by
 intro i hi v hv;simp only[r8,zK,decide_eq_false_iff_not,not_or]at hi;exact k i (by simpa using hi.2) v (h i (by simpa using hi.1) v hv)
theorem KZ.mono {d1 d2:List Nat}{a b:Env}(h:KZ d1 a b)(hs:∀i,i∈d1->i∈d2):KZ d2 a b:=by
 intro i hi v hv;refine h i ?_ v hv;simp only[r8,decide_eq_false_iff_not]at hi ⊢;exact λd=>hi (hs i d)
theorem KZ.refl (ds:List Nat)(a:Env):KZ ds a a:=λ_ _ _ h=>h
theorem Ky (ds:List Nat):∀(js:Js) (ρ:Env) (vs:List Value),(js.all λs=>mu ds s.1)=true->KZ ds ρ (iu ρ js vs)
 | [],ρ,vs,_=>by simp only[iu];exact .refl _ _
 | (i,.one c)::js,ρ,[],h=>by
  simp only[vj,zF]at h;simp only[iu];exact Ky ds js ρ [] h.2
 | (i,.one c)::js,ρ,v::vs,h=>by
  simp only[vj,zF]at h;simp only[iu];intro j hj u hu;refine Ky ds js _ vs h.2 j hj u ?_;simp only[Env.put];cases hb:Nat.beq j i
  ·exact hu
  ·have e:j=i:=jQ hb;subst e;simp only[mu]at h;rw[hj]at h;cases h.1
 | (i,.agg cs)::js,ρ,vs,h=>by
  simp only[vj,zF]at h;simp only[iu];intro j hj u hu;refine Ky ds js _ _ h.2 j hj u ?_;simp only[Env.put];cases hb:Nat.beq j i
  ·exact hu
  ·have e:j=i:=jQ hb;subst e;simp only[mu]at h;rw[hj]at h;cases h.1
theorem Kn {N:Nat}:∀(js:Js) {ρ ρ':Env} {a:Act} {vs:List Value},Fits N ρ a->Fits N ρ' a->sR ρ' js=some vs->Fits N (iu ρ js vs) a
 | [],ρ,ρ',a,vs,h,_,_=>h
 | (i,.one c)::js,ρ,ρ',a,vs,h,h',hv=>by
  simp only[sR]at hv;split at hv
  ·rename_i v vs' h1 h2;cases hv;simp only[iu];refine Kn js ⟨h.defers,h.size,λj u hu=>?_⟩ h' h2;simp only[Env.put]at hu;cases hb:Nat.beq j i
   ·rw[hb]at hu;exact h.at_ j u hu
   ·have e:j=i:=jQ hb;subst e;rw[hb]at hu;simp only[cond_true,Option.some.injEq]at hu;subst hu;exact h'.at_ j _ h1
  ·cases hv
 | (i,.agg cs)::js,ρ,ρ',a,vs,h,h',hv=>by
  simp only[sR]at hv;split at hv
  ·rename_i ar vs' h1 h2;cases hs:(ar.size==cs.length)
   ·rw[hs]at hv;cases hv
   ·rw[hs]at hv;simp only[cond_true,Option.some.injEq]at hv;subst hv;have b:ar.toList.length=cs.length:=by simpa using hs
    simp only[iu];rw[←b,List.take_left,List.drop_left];refine Kn js ⟨h.defers,h.size,λj u hu=>?_⟩ h' h2;simp only[Env.put]at hu;cases hb:Nat.beq j i
    ·rw[hb]at hu;exact h.at_ j u hu
    ·have e:j=i:=jQ hb;subst e;rw[hb]at hu;simp only[cond_true,Option.some.injEq]at hu;subst hu;simpa using h'.at_ j _ h1
  ·cases hv
theorem U0 {js:Js}{ρ:Env}{J:eR (ma js)}{h:Hp}(hj:rq js ρ J h):∃vs,sR ρ js=some vs/\Sat (ma js) J vs h:=by
 unfold rq at hj;split at hj
 ·exact⟨_,by assumption,U3 hj⟩
 ·exact hj.elim
theorem VQ {N:Nat}{ds:List Nat}{ρ ρ':Env}{a:Act}(h:Fits N ρ' a)(k:KZ ds ρ ρ'):Fits N (ρ.dX ds) a:=by
 refine h.weaken λi v b=>?_;simp only[Env.dX]at b;cases hc:ds.contains i
 ·rw[hc]at b;exact k i hc v b
 ·rw[hc]at b;cases b
theorem UI (ds:List Nat)(ρ:Env):KZ ds ρ (ρ.dX ds):=by
 intro i hi v hv;simp only[Env.dX,hi];exact hv
def yJ:Op->Bool
 | .pick .. => true
 | _=>false
def kx (os:List Oper):Bool:=os.all λo=>sS o.op||yJ o.op
theorem VN {P:Program}{N:Nat}{ops:Array Oper}{Q:Act->Prop}{w:World}:∀(n:Nat) {hs:List RI} {os:List Oper} {tail:List Oper} {ρ:Env} {a:Act} {K:Env->Hp->Prop},
 eI P N ops n hs os ρ w.heap K->kx os=true->Fits N ρ a->(∀ρ' a',Fits N ρ' a'->VP os ρ ρ'->K ρ' w.heap->wpStill P ops w Q tail a')->wpStill P ops w Q (os++tail) a
 | 0,_,_,_,_,_,_,h,_,_,_=>(by simp only[eI]at h)
 | n+1,[],[],tail,ρ,a,K,h,hq,hf,hK=>by
  simp only[eI]at h;exact hK ρ a hf (λ_ _ _ h=>h) h
 | n+1,[],o::os,tail,ρ,a,K,h,hq,hf,hK=>(by simp only[eI]at h)
 | n+1,.op::hs,[],tail,ρ,a,K,h,hq,hf,hK=>(by simp only[eI]at h)
 | n+1,.it ki c::hs,[],tail,ρ,a,K,h,hq,hf,hK=>(by simp only[eI]at h)
 | n+1,.it ki c::hs,o::os,tail,ρ,a,K,h,hq,hf,hK=>by
  simp only[eI]at h;rw[Wu]at h;simp only[kx,vj,zF,nG]at hq;have h2:=h.2;unfold yf at h2;split at h2
  ·rename_i heq;rw[heq]at hq;simp[sS,yJ]at hq
  ·rename_i heq;rw[heq]at hq;simp[sS,yJ]at hq
  ·exact h2.elim
 | n+1,.op::hs,o::os,tail,ρ,a,K,h,hq,hf,hK=>by
  simp only[eI]at h;rw[Wu]at h;obtain⟨C,h⟩:=h;simp only[zF]at C;have U:=Zn hf C.1;simp only[kx,vj,zF,nG]at hq;have S:sS o.op=true:=by
   rcases hq.1 with h1|h1
   ·exact h1
   ·unfold yJ at h1;split at h1
    ·rename_i heq;rw[heq];rfl
    ·cases h1
  unfold si at h;rw[S]at h;obtain⟨v,hr,B⟩:=GO hf.ev o h;simp only[lu,wpStill,U,zS,Oper.still,hr,Oper.stillUpon];exact⟨trivial,VN n B (by simpa[kx]using hq.2) (hf.put C.2 v) λρ' a' g F u=>hK ρ' a' g F.cons u⟩
 | n+1,.cW and m inner::hs,os,tail,ρ,a,K,h,hq,hf,hK=>by
  simp only[eI]at h;split at h
  case h_2=>exact h.elim
  rename_i pk rest hdrop;split at h
  case h_2=>exact h.elim
  rename_i c x y d hop hd;split at h
  case h_2=>exact h.elim
  rename_i b hb;rw[Wu]at h;obtain⟨C,J,hJ,h⟩:=h;simp only[zF]at C;obtain⟨hdN,E,M,hcc,A⟩:=C;have hos:os++tail=os.take m++(pk::rest++tail):=by
   rw[←hdrop,←jL,oc]
  have W:kx (os.take m)=true:=by
   rw[kx,ke]at hq ⊢;exact λo ho=>hq o (vn ho)
  have Y:kx rest=true:=by
   rw[kx,ke]at hq ⊢;exact λo ho=>hq o (sC (i:=m) (by rw[hdrop];exact mC _ ho))
  rw[hos];have j:∀(r b':Bool) (z:Operand) a',b=b'->(bif b' then x else y)=z->Fits N (ρ.dX ((os.take m).filterMap (·.dst))) a'->J r w.heap->Region.wanted pk (yielded ops a'.tmps)=true →
   a'.eval (.tmp c)=.bool b'->a'.eval z=.bool r->wpStill P ops w Q (pk::rest++tail) a':=by
   intro r b' z a' e ez g D U s hez;have G:(execOp a'.eval pk).run P w=.ok (.value (.bool r)) w:=by
    obtain⟨dst,op,ty,pos,aft,R⟩:=pk;simp only at hop;subst hop;subst ez;cases b'<;>simp at hez<;>simp[execOp,s,asBool,hez]
   simp only[lu,wpStill,U,zS,Oper.still,G,Oper.stillUpon];have V:=g.put (d:=some d) hdN (.bool r);rw[hd];exact⟨trivial,VN n (hJ _ _ D) Y V λρ' X L F u=>hK ρ' X L (VP.cW hd hdrop F) u⟩
  have run:∀(b':Bool) (z:Operand),b=b'->(bif b' then x else y)=z →
   eI P N ops n inner (os.take m) (ρ.put c (.bool b')) w.heap (λρ' h'=>fR (GE ops pk ρ'&&sk ρ' c b') (Up ρ' z λr=>J r h'))->wpStill P ops w Q (os.take m++(pk::rest++tail)) a:=by
   intro b' z e ez hseg;refine VN n hseg W (hf.lit hb e) λρ' a' g F B=>?_;rw[Wu]at B;simp only[zF]at B;obtain⟨⟨hg,Z⟩,B⟩:=B;obtain⟨r,hr,D⟩:=Kz B;exact j r b' z a' e ez (g.u7 hb e F) D (Zn g hg) (g.ev _ _ (UO Z)) (g.ev _ _ hr)
  have p:∀(b':Bool),b=b'->b' = !and->J (!and) w.heap->wpStill P ops w Q (os.take m++(pk::rest++tail)) a:=by
   intro b' e eb D;subst eb;refine CX A (hf.lit hb e) λa' g=>?_;have H:Fits N (ρ.dX ((os.take m).filterMap (·.dst))) a':=g.u7 (ρ':=(ρ.put c (.bool (!and))).dX ((os.take m).filterMap (·.dst))) hb e (λi hi v hv=>by simp only[Env.dX,hi];exact hv);have s:=g.ev (.tmp c) _ (UO hcc);refine j (!and) (!and) (bif (!and)then x else y) a' e rfl H D (Zn H M) s ?_;refine AE ?_ _ (λv=>rfl);cases and<;>exact E
  cases and
  ·simp only[cond_false]at h;cases b
   ·exact run false y rfl rfl (h.f rfl)
   ·exact p true rfl rfl (h.t rfl)
  ·simp only[cond_true]at h;cases b
   ·exact p false rfl rfl (h.f rfl)
   ·exact run true x rfl rfl (h.t rfl)
inductive RH where
 | seq (hs:List RI)
 | quiet (hs:List RI)
 | tail (n:Nat) (hs1 hs2:List RI)
 | held (sm:Bool) (C:List Nat) (sh:SH)
 | gR (sm:Bool) (C:List Nat) (js:Js) (sh:SH)
def uY (ops:Array Oper):List Nat:=ops.toList.filterMap (·.dst)
def mD (P:Program)(N:Nat)(r:RH)(ops:Array Oper)(draw:Bool)(ρ:Env)(h:Hp)(K:Env->Hp->Prop):Prop:=
 match r,draw with
 | .seq hs,false=>eI P N ops 400 hs ops.toList ρ h K
 | .quiet hs,true=>fR (P.follows .mixedOrders&&(Region.lexB .any ops&&kx ops.toList)) (eI P N ops 400 hs ops.toList ρ h K)
 | .tail n hs1 hs2,true=>fR (P.follows .mixedOrders&&(Region.lexTailB .any ops n&&kx (ops.toList.take n)))
  (eI P N ops 400 hs1 (ops.toList.take n) ρ h λρ' h'=>eI P N ops 400 hs2 (ops.toList.drop n) ρ' h' K)
 | .held sm C sh,true=>fR (P.follows .mixedOrders&&Region.noSelect ops) (yk P N sm C sh ops ρ h K)
 | .gR sm C js sh,true=>fR (P.follows .mixedOrders&&(Region.noSelect ops&&js.all λs=>mu (uY ops) s.1))
  (Jn (ma js) (lam (ma js) λvs h'=>K (iu (ρ.dX (uY ops)) js vs) h') λJ=>yk P N sm C sh ops ρ h λρ' h'=>rq js ρ' J h')
 | _,_=>False
theorem Fj {P:Program}{N id:Nat}{r:RH}{ops:Array Oper}{draw:Bool}{ρ:Env}{a:Act}{w:World}{K:Env->Hp->Prop}{Q:Exit->Act->World->Prop}
 (h:mD P N r ops draw ρ w.heap K) (hf:Fits N ρ a) (hK:∀ρ' a' w',Fits N ρ' a'->Xd w w'->VP ops.toList ρ ρ'->K ρ' w'.heap->Q .normal a' w'):(Code.region id ops draw).wp P Q a w:=by
 unfold mD at h;split at h
 ·rename_i G;refine wp_region_list ?_;have:=KB (Q:=Q) (tail:=[]) 400 h hf λρ' a' w' d p j e=>hK ρ' a' w' d p j e;simpa using this
 ·rename_i G;rw[Wu]at h;simp only[zF]at h;obtain⟨⟨m,A,E⟩,h⟩:=h;refine wp_region_still m A ?_;have:=VN (w:={w with drawn:=w.drawn+1}) (Q:=λa'=>Q .normal a' {w with drawn:=w.drawn+1}) (tail:=[]) 400 h E hf λρ' a' d j e=>hK ρ' a' _ d ⟨rfl,rfl,rfl,zD _⟩ j e;simpa using this
 ·rename_i n hs1 hs2;rw[Wu]at h;simp only[zF]at h;obtain⟨⟨m,A,E⟩,h⟩:=h;obtain⟨l,rfl⟩:∃l:List Oper,ops=l.toArray:=⟨ops.toList,by simp⟩;refine wp_region_still_tail n m A ?_;have:=VN (w:={w with drawn:=w.drawn+1}) (ops:=l.toArray) (Q:=λa'=>wpList P l.toArray Q (l.drop n) a' {w with drawn:=w.drawn+1}) (tail:=[]) 400 h (by simpa using E) hf (λρ' a' d j e=>by
   have:=KB (Q:=Q) (tail:=[]) (w:={w with drawn:=w.drawn+1}) 400 e d λy x B s p F D=>hK y x B s (Xd.trans (b:={w with drawn:=w.drawn+1}) ⟨rfl,rfl,rfl,zD _⟩ p) (λi g v C=>?_) D
   ·simpa[wpStill]using this
   ·rw[show l.toArray.toList=l.take n++l.drop n by simp,vV]at g;simp only[r8,zK,decide_eq_false_iff_not,not_or]at g;exact F i (by simpa using g.2) v (j i (by simpa using g.1) v C))
  simpa using this
 ·rename_i sm sh;rw[Wu]at h;simp only[zF]at h;exact Ur h.1.1 h.1.2 h.2 hf hK
 ·rename_i sm js sh;rw[Wu]at h;simp only[zF]at h;obtain⟨⟨m,u,H⟩,J,L,h⟩:=h;refine Ur m u h hf λρ' a' w' d p j e=>?_;obtain⟨vs,C,G⟩:=U0 e;have z:=VT (G.mono L);refine hK _ a' w' (Kn js (VQ d j) d C) p ?_ z;exact((UI (uY ops) ρ).trans (Ky (uY ops) js (ρ.dX (uY ops)) vs H)).mono λi g=>by
   simp only[zK]at g;rcases g with h|h<;>exact h
 ·exact h.elim
def fJ:Code->List Nat
 | .region _ ops _=>uY ops
 | .seq a b=>fJ a++fJ b
 | .cond _ a b=>fJ a++fJ b
 | .block _ b=>fJ b
 | .loop b=>fJ b
 | .scope b=>fJ b
 | _=>[]
def Gy:(ks:List CK)->eR ks->oL ks->(Nat->Prop)->eR ks
 | [],I,μ,p=>λh=>I h/\p (μ h)
 | c::cs,I,μ,p=>λx=>Gy cs (I x) (μ x) p
def XW (ks:List CK)(start:eR ks->Prop)(round:eR ks->eR ks):Prop:=
 ∃(I:eR ks) (μ:oL ks),start I/\∀m:Nat,eR.le ks (Gy ks I μ (· = m)) (round (Gy ks I μ (· < m)))
inductive Hn where
 | leaf
 | cQ (r:RH)
 | seq (a b:Hn)
 | kA (js:Js) (a b:Hn)
 | cond (a b:Hn)
 | block (b:Hn)
 | loop (js:Js) (b:Hn)
 | scope (b:Hn)
def RI.ops:Nat->List RI
 | 0=>[]
 | n+1=>.op::RI.ops n
abbrev Hn.l:Hn:=.leaf
abbrev Hn.q (a b:Hn):Hn:=.seq a b
abbrev Hn.c (a b:Hn):Hn:=.cond a b
abbrev Hn.k (a:Hn):Hn:=.block a
def Hn.o (n:Nat):Hn:=.cQ (.seq (RI.ops n))
abbrev Hn.o1:Hn:=.o 1
abbrev Hn.o2:Hn:=.o 2
abbrev Hn.aJ:Hn:=.c (.q .o2 .l) .l
abbrev Hn.aK:Hn:=.c (.q .o1 .l) .l
abbrev Hn.aL:Hn:=.q .o2 .l
abbrev Hn.aM:Hn:=.q .o1 .l
abbrev Hn.o3:Hn:=.o 3
abbrev Hn.o4:Hn:=.o 4
abbrev Hn.o5:Hn:=.o 5
abbrev Hn.o6:Hn:=.o 6
abbrev Hn.o7:Hn:=.o 7
abbrev Hn.o8:Hn:=.o 8
abbrev Hn.o9:Hn:=.o 9
abbrev Hn.fP:Hn:=.o 10
def Hn.oq (n:Nat):Hn:=.cQ (.quiet (RI.ops n))
def uv (next:Env->Hp->Prop)(Q:Exit->Env->Hp->Prop):Exit->Env->Hp->Prop
 | .normal,ρ,h=>next ρ h
 | e,ρ,h=>Q e ρ h
def vF (id:Nat)(Q:Exit->Env->Hp->Prop):Exit->Env->Hp->Prop
 | .exit i,ρ,h=>match Nat.beq i id with
  | true=>Q .normal ρ h
  | false=>Q (.exit i) ρ h
 | e,ρ,h=>Q e ρ h
def TJ (Q:Exit->Env->Hp->Prop):Exit->Env->Hp->Prop
 | .goto _,_,_=>False
 | e,ρ,h=>Q e ρ h
def iD (P:Program)(N:Nat):Code->Hn->(Exit->Env->Hp->Prop)->Env->Hp->Prop
 | .skip,_,Q,ρ,h=>Q .normal ρ h
 | .ret,_,Q,ρ,h=>Q .ret ρ h
 | .exit id,_,Q,ρ,h=>Q (.exit id) ρ h
 | .region _ ops d,.cQ r,Q,ρ,h=>mD P N r ops d ρ h λρ' h'=>Q .normal ρ' h'
 | .seq a b,.seq x y,Q,ρ,h=>iD P N a x (uv (λρ' h'=>iD P N b y Q ρ' h') Q) ρ h
 | .seq a b,.kA js x y,Q,ρ,h=>fR (js.all λs=>mu (fJ a) s.1)
  (Jn (ma js) (lam (ma js) λvs h'=>iD P N b y Q (iu (ρ.dX (fJ a)) js vs) h') λJ=>iD P N a x (uv (λρ' h'=>rq js ρ' J h') Q) ρ h)
 | .cond c a b,.cond x y,Q,ρ,h=>Up ρ c λt=>If t (iD P N a x Q ρ h) (iD P N b y Q ρ h)
 | .block id b,.block x,Q,ρ,h=>iD P N b x (vF id Q) ρ h
 | .scope b,.scope x,Q,ρ,h=>iD P N b x (TJ Q) ρ h
 | .label _,_,Q,ρ,h=>Q .normal ρ h
 | .loop b,.loop js x,Q,ρ,h=>fR (js.all λs=>mu (fJ b) s.1)
  (XW (ma js) (λI=>rq js ρ I h) λJ=>lam (ma js) λvs h'=>iD P N b x (uv (λρ' h''=>rq js ρ' J h'') Q) (iu (ρ.dX (fJ b)) js vs) h')
 | _,_,_,_,_=>False
theorem HQ:∀{ks:List CK} {I:eR ks} {μ:oL ks} {p:Nat->Prop} {vs:List Value} {h:Hp},Sat ks (Gy ks I μ p) vs h->∃n,p n/\Sat ks (Gy ks I μ (· = n)) vs h
 | [],I,μ,p,[],h,hs=>⟨μ h,hs.2,hs.1,rfl⟩
 | c::cs,I,μ,p,v::vs,h,⟨x,e,hs⟩=>by
  obtain⟨n,hp,hn⟩:=HQ (I:=I x) (μ:=μ x) hs;exact⟨n,hp,x,e,hn⟩
 | [],I,μ,p,_::_,h,hs=>hs.elim
 | _::_,I,μ,p,[],h,hs=>hs.elim
theorem UY:∀{ks:List CK} {I:eR ks} (μ:oL ks) {vs:List Value} {h:Hp},Sat ks I vs h->∃n,Sat ks (Gy ks I μ (· = n)) vs h
 | [],I,μ,[],h,hs=>⟨μ h,hs,rfl⟩
 | c::cs,I,μ,v::vs,h,⟨x,e,hs⟩=>by
  obtain⟨n,hn⟩:=UY (I:=I x) (μ x) hs;exact⟨n,x,e,hn⟩
 | [],I,μ,_::_,h,hs=>hs.elim
 | _::_,I,μ,[],h,hs=>hs.elim
theorem Ch {p:Nat->Prop}(h:∃n,p n):∃n,p n/\∀m,p m->n<=m:=by
 obtain⟨n,d⟩:=h
 induction n using Nat.strongRecOn with
 | _ n ih=>
  by_cases hm:∃m,m<n/\p m
  ·obtain⟨m,a,b⟩:=hm;exact ih m a b
  ·exact⟨n,d,λm b=>Nat.le_of_not_lt λa=>hm ⟨m,a,b⟩⟩
open Classical in
noncomputable def uJ (p:Nat->Prop):Nat:=if h:∃n,p n then(Ch h).choose else 0
theorem G6 {p:Nat->Prop}(h:∃n,p n):p (uJ p):=by
 unfold uJ;rw[dif_pos h];exact(Ch h).choose_spec.1
theorem IA {p:Nat->Prop}{n:Nat}(h:p n):uJ p<=n:=by
 unfold uJ;rw[dif_pos ⟨n,h⟩];exact(Ch ⟨n,h⟩).choose_spec.2 n h
theorem NP {P:Program}{c:Code}{Q:Exit->Act->World->Prop}{a:Act}{w:World}(I:Nat->Act->World->Prop)(h0:∃n,I n a w)
 (round:∀n a w,I n a w->c.wp P (Exit.then (λa' w'=>∃m,m<n/\I m a' w') Q) a w):(Code.loop c).wp P Q a w:=by
 refine wp_loop (λa w=>∃n,I n a w) (λa w=>uJ λn=>I n a w) h0 λa w g=>?_;refine wp_mono (round _ a w (G6 g)) λe a' w' d=>?_;cases e<;>try exact d
 obtain⟨m,i,b⟩:=d;exact⟨⟨m,b⟩,Ah (IA b) i⟩
theorem Qu {P:Program}{N:Nat}:∀(c:Code) {x:Hn} {Q:Exit->Env->Hp->Prop} {Q':Exit->Act->World->Prop} {ρ:Env} {a:Act} {w:World},
 iD P N c x Q ρ w.heap->Fits N ρ a->(∀e ρ' a' w',Fits N ρ' a'->Xd w w'->KZ (fJ c) ρ ρ'->Q e ρ' w'.heap->Q' e a' w')->c.wp P Q' a w
 | .skip,x,Q,Q',ρ,a,w,h,hf,hq=>by
  have h':Q .normal ρ w.heap:=by cases x<;>exact h
  exact wp_skip (hq _ ρ a w hf (.refl _) (.refl _ _) h')
 | .ret,x,Q,Q',ρ,a,w,h,hf,hq=>by
  have h':Q .ret ρ w.heap:=by cases x<;>exact h
  exact wp_ret (hq _ ρ a w hf (.refl _) (.refl _ _) h')
 | .exit id,x,Q,Q',ρ,a,w,h,hf,hq=>by
  have h':Q (.exit id) ρ w.heap:=by cases x<;>exact h
  exact wp_exit (hq _ ρ a w hf (.refl _) (.refl _ _) h')
 | .region id ops d,x,Q,Q',ρ,a,w,h,hf,hq=>by
  cases x<;>simp only[iD]at h
  exact Fj h hf λρ' a' w' b p r g=>hq _ ρ' a' w' b p r g
 | .seq c1 c2,x,Q,Q',ρ,a,w,h,hf,hq=>by
  cases x<;>simp only[iD]at h
  case seq x y=>
   refine wp_seq (Qu c1 h hf λe ρ' a' w' b p r g=>?_);cases e
   case normal=>exact Qu c2 g b λe ρ'' A z j s F E=>hq e ρ'' A z j (p.trans s) (r.trans F) E
   all_goals exact hq _ ρ' a' w' b p (r.mono λi u=>kr _ u) g
  case kA js x y=>
   rw[Wu]at h;obtain⟨C,J,Z,h⟩:=h;refine wp_seq (Qu c1 h hf λe ρ' a' w' b p r g=>?_);cases e
   case normal=>
    obtain⟨vs,M,G⟩:=U0 g;have D:=VT (G.mono Z);have R:=Kn js (VQ b r) b M;refine Qu c2 D R λe ρ'' A z j s F E=>hq e ρ'' A z j (p.trans s) ?_ E;have k1:=(UI (fJ c1) ρ).trans (Ky (fJ c1) js (ρ.dX (fJ c1)) vs C);exact(k1.trans F).mono λi u=>by
     simp only[fJ,zK]at u ⊢;rcases u with(h|h)|h
     ·exact Or.inl h
     ·exact Or.inl h
     ·exact Or.inr h
   all_goals exact hq _ ρ' a' w' b p (r.mono λi u=>kr _ u) g
 | .cond c c1 c2,x,Q,Q',ρ,a,w,h,hf,hq=>by
  cases x<;>simp only[iD]at h
  obtain⟨t,V,h⟩:=Kz h;refine wp_cond_split (hf.ev _ _ V) (λe=>?_) (λe=>?_)
  ·exact Qu c1 (h.t e) hf λe ρ' a' w' b p r g=>hq e ρ' a' w' b p (r.mono λi u=>kr _ u) g
  ·exact Qu c2 (h.f e) hf λe ρ' a' w' b p r g=>hq e ρ' a' w' b p (r.mono λi u=>nS _ u) g
 | .block id c1,x,Q,Q',ρ,a,w,h,hf,hq=>by
  cases x<;>simp only[iD]at h
  refine wp_block (Qu c1 h hf λe ρ' a' w' b p r g=>?_);cases e
  case exit i=>
   simp only[vF]at g;simp only[Exit.inBlock];split at g
   ·rename_i e;have U:i=id:=jQ e;rw[zC U];exact hq _ ρ' a' w' b p r g
   ·rename_i e;have U:i≠id:=λh=>by subst h;simp at e
    rw[zB U];exact hq _ ρ' a' w' b p r g
  all_goals exact hq _ ρ' a' w' b p r g
 | .loop c1,x,Q,Q',ρ,a,w,h,hf,hq=>by
  cases x<;>simp only[iD]at h
  rename_i js x;rw[Wu]at h;obtain⟨C,I,μ,G,X⟩:=h;refine NP (λn a' w'=>∃vs,Fits N (iu (ρ.dX (fJ c1)) js vs) a'/\Xd w w'/\Sat (ma js) (Gy (ma js) I μ (· = n)) vs w'.heap) ?_ ?_
  ·obtain⟨vs,M,G⟩:=U0 G;obtain⟨n,L⟩:=UY μ G;exact⟨n,vs,Kn js (hf.weaken (xh _ _)) hf M,.refl _,L⟩
  ·rintro n a' w' ⟨vs,b,p,L⟩;have:=VT (L.mono (X n));have W:=(UI (fJ c1) ρ).trans (Ky (fJ c1) js (ρ.dX (fJ c1)) vs C);refine Qu c1 this b λe ρ'' A z j s r g=>?_;have B:KZ (fJ c1) ρ ρ'':=(W.trans r).mono λi u=>by
    simp only[zK]at u;rcases u with(h|h)|h<;>exact h
   cases e
   case normal=>
    obtain⟨S,K,D⟩:=U0 g;obtain⟨m,Y,H⟩:=HQ D;exact⟨m,Y,S,Kn js (VQ j B) j K,p.trans s,H⟩
   all_goals exact hq _ ρ'' A z j (p.trans s) B g
 | .scope c1,x,Q,Q',ρ,a,w,h,hf,hq=>by
  cases x<;>simp only[iD]at h
  refine wp_scope_straight (Qu c1 h hf λe ρ' a' w' b p r g=>?_);cases e
  case goto l=>exact g.elim
  all_goals exact hq _ ρ' a' w' b p r g
 | .label l,x,Q,Q',ρ,a,w,h,hf,hq=>by
  have h':Q .normal ρ w.heap:=by cases x<;>exact h
  exact wp_label (hq _ ρ a w hf (.refl _) (.refl _ _) h')
 | .rangeFunc ..,x,Q,Q',ρ,a,w,h,hf,hq=>(by cases x<;>simp only[iD]at h)
 | .goto ..,x,Q,Q',ρ,a,w,h,hf,hq=>(by cases x<;>simp only[iD]at h)
 | .refuse ..,x,Q,Q',ρ,a,w,h,hf,hq=>(by cases x<;>simp only[iD]at h)
def pC (P:Program)(r:ResultVar)(s:SK)(ρ:Env)(h:Hp)(K:List Value->Prop):Prop:=
 match r,s with
 | .tmp t,.one _=>wv (ρ t) λv=>K [v]
 | .tmp t,.agg cs=>wv (ρ t) λv=>match v with
  | .agg a=>fR (a.size==cs.length) (K a.toList)
  | _=>False
 | .cell a t,.one c=>wv (ρ a) λv=>match v,jZ P t with
  | .pointer (some ad),some (.one _)=>xO c ad h λx=>K [c.v x]
  | _,_=>False
 | .cell a t,.agg cs=>wv (ρ a) λv=>match v,jZ P t with
  | .pointer (some ad),some (.agg _)=>fR (P.cellsOf t==cs.length&&(P.info? t).isSome) (nv cs ad 0 h λvs=>K vs)
  | _,_=>False
def lC (P:Program):List ResultVar->List SK->Env->Hp->(List Value->Prop)->Prop
 | [],[],_,_,K=>K []
 | r::rs,s::ss,ρ,h,K=>pC P r s ρ h λvs=>lC P rs ss ρ h λus=>K (vs++us)
 | _,_,_,_,_=>False
def oE (P:Program)(fn:Func)(rs:List SK)(R:eR (eT rs)):Exit->Env->Hp->Prop
 | .normal,ρ,h=>lC P fn.results.toList rs ρ h λvs=>rD (eT rs) R vs h
 | .ret,ρ,h=>lC P fn.results.toList rs ρ h λvs=>rD (eT rs) R vs h
 | _,_,_=>False
def Gq (vs:List Value):Env:=λi=>vs[i]?
def F7 (P:Program)(fn:Func)(x:Hn)(args:List Value)(rs:List SK)(R:eR (eT rs))(h:Hp):Prop:=
 match fn.body with
 | some c=>fR (Nat.ble args.length fn.ntmps) (iD P fn.ntmps c x (oE P fn rs R) (Gq args) h)
 | none=>False
def UW:SK->List Value->Value
 | .one _,[v]=>v
 | .one _,_=>undef
 | .agg _,vs=>.agg vs.toArray
def ue (tmps:Array Value):ResultVar->Sem Value
 | .tmp t=>pure (tmps.getD t undef)
 | .cell b t=>do loadVar t (←asAddr (tmps.getD b undef))
theorem Ln (fn:Func)(tmps:Array Value):results fn tmps=(do
 let vs ←fn.results.mapM (ue tmps)
 pure (if h:vs.size=1 then vs[0]else .tuple vs)):=by
 unfold results
 congr 1
theorem Se {P:Program}{r:ResultVar}{s:SK}{ρ:Env}{K:List Value->Prop}{a:Act}{N:Nat}{w:World}(hf:Fits N ρ a)(h:pC P r s ρ w.heap K) :
 ∃vs,vs.length=s.ks.length/\K vs/\(ue a.tmps r).run P w=.ok (UW s vs) w:=by
 unfold pC at h;split at h
 ·rename_i t c;obtain⟨v,g,e⟩:=Wr h;refine⟨[v],rfl,e,?_⟩;simp[ue,sg,hf.at_ _ _ g,UW]
 ·rename_i t cs;obtain⟨v,g,e⟩:=Wr h;split at e
  ·rename_i ar;rw[Wu]at e;refine⟨ar.toList,by simpa[SK.ks]using e.1,e.2,?_⟩;simp[ue,sg,hf.at_ _ _ g,UW]
  ·exact e.elim
 ·rename_i b t c;obtain⟨v,g,e⟩:=Wr h;split at e
  ·rename_i ad c' hs;obtain⟨d,hd,i⟩:=FX hs;obtain⟨x,u,e⟩:=B8 e;refine⟨[c.v x],rfl,e,?_⟩;simp only[ue,sg,hf.at_ _ _ g,pZ,asAddr,Sem.run_bind,Sem.run_pure,Result.andThen_ok,loadVar,KW hd,i,UW];simpa using Ax u
  ·exact e.elim
 ·rename_i b t cs;obtain⟨v,g,e⟩:=Wr h;split at e
  ·rename_i ad cs' hs;rw[Wu]at e;obtain⟨j,e⟩:=e;simp only[zF,zT]at j;obtain⟨d,hd,i⟩:=DW hs;obtain⟨vs,p,e,m⟩:=Cx (P:=P) e;refine⟨vs,p,e,?_⟩;simp only[ue,sg,hf.at_ _ _ g,pZ,asAddr,Sem.run_bind,Sem.run_pure,Result.andThen_ok,loadVar,KW hd,i,zS,QQ j.2,loadCells,j.1,m,UW];simp
  ·exact e.elim
theorem FR {P:Program}{ρ:Env}{a:Act}{N:Nat}{w:World}(hf:Fits N ρ a):∀{rv:List ResultVar} {rs:List SK} {K:List Value->Prop},lC P rv rs ρ w.heap K →
 ∃vs,K vs/\(rv.mapM (ue a.tmps)).run P w=.ok (pN rs vs) w
 | [],[],K,h=>⟨[],h,by simp[pN]⟩
 | r::rv,s::rs,K,h=>by
  obtain⟨v1,hl,hK,hr⟩:=Se hf h;obtain⟨e,b,d⟩:=FR hf hK;refine⟨v1++e,b,?_⟩;simp only[List.mapM_cons,Sem.run_bind,hr,Result.andThen_ok,d,Sem.run_pure];cases s with
  | one c=>
   match v1,hl with
   | [v],_=>simp[pN,UW]
  | agg cs=>
   simp only[SK.ks]at hl;simp only[pN,UW,←hl,List.take_left,List.drop_left]
 | [],_::_,K,h=>h.elim
 | _::_,[],K,h=>h.elim
theorem Vp {P:Program}{fn:Func}{ρ:Env}{a:Act}{N:Nat}{w:World}{rs:List SK}{K:List Value->Prop}(hf:Fits N ρ a)(h:lC P fn.results.toList rs ρ w.heap K) :
 ∃vs,K vs/\(results fn a.tmps).run P w=.ok (pack rs vs) w:=by
 obtain⟨vs,b,d⟩:=FR hf h;refine⟨vs,b,?_⟩;rw[Ln,Array.mapM_eq_mapM_toList];simp only[Sem.run_bind,Sem.run_map,d,Result.andThen_ok,Sem.run_pure,pack];split
 ·rename_i h1
  match hp:pN rs vs,h1 with
  | [v],_=>simp
 ·rename_i h1
  match hp:pN rs vs,h1 with
  | [],_=>rfl
  | [v],h1=>simp at h1
  | _::_::_,_=>rfl
theorem R0 {a b:Prop}(f:b)(e:a=b:=by kernel_rfl):a:=e.mpr f
theorem Wa {P:Program}{f:Nat}{fn:Func}{x:Hn}{args:List Value}{rs:List SK}{R:eR (eT rs)}{h:Hp}(hfn:P.funcs[f]?=some fn)(hk:F7 P fn x args rs R h):Wc P f args.toArray rs h R:=by
 intro w hw;subst hw;unfold F7 at hk;split at hk
 case h_2=>exact hk.elim
 rename_i c hb;rw[Wu]at hk;obtain⟨m,hk⟩:=hk;have s:args.length<=fn.ntmps:=xU m;refine calls_of_wp hfn hb ?_;refine Qu c hk (ρ:=Gq args) ⟨rfl,by simp;omega,λi v g=>?_⟩ λe z y u a r A j=>?_
 ·simp only[Gq]at g;have p:i<args.length:=(cX.1 g).1;rw[td (by simpa using p)];simpa using g
 ·cases e<;>simp only[oE]at j
  case normal=>
   obtain⟨vs,d,b⟩:=Vp a j;exact⟨a.defers,_,b,r,vs,rfl,U3 d⟩
  case ret=>
   obtain⟨vs,d,b⟩:=Vp a j;exact⟨a.defers,_,b,r,vs,rfl,U3 d⟩
theorem Eg {start:eR []->Prop}{round:eR []->eR []}(I:aP)(μ:Hp->Nat)(h0:start I)
 (hr:∀h,I h->round (λh'=>I h'/\μ h'<μ h) h):XW [] start round:=
 ⟨I,μ,h0,λ_ h ⟨a,b⟩=>b▸hr h a⟩
theorem Qc {a:CK}{start:eR [a]->Prop}{round:eR [a]->eR [a]}(I:a.T->Hp->Prop)(μ:a.T->Hp->Nat)(h0:start I)
 (hr:∀x h,I x h->round (λx' h'=>I x' h'/\μ x' h'<μ x h) x h):XW [a] start round:=
 ⟨I,μ,h0,λ_ x h ⟨b,d⟩=>d▸hr x h b⟩
theorem VO {a bb:CK}{start:eR [a,bb]->Prop}{round:eR [a,bb]->eR [a,bb]}(I:a.T->bb.T->Hp->Prop)(μ:a.T->bb.T->Hp->Nat)(h0:start I)
 (hr:∀x y h,I x y h->round (λx' y' h'=>I x' y' h'/\μ x' y' h'<μ x y h) x y h):XW [a,bb] start round:=
 ⟨I,μ,h0,λ_ x y h ⟨b,d⟩=>d▸hr x y h b⟩
theorem bK {a:Addr}{K:Addr->Prop}(h:K a):bV (some a) K:=⟨a,rfl,h⟩
theorem nR {k:IntKind}{a:Addr}{h:Hp}{n:Int}{K:Int->Prop}(hc:cell h a=some (.int k n))(hK:K n):gE k a h K:=⟨n,hc,hK⟩
theorem nK {a:Addr}{h:Hp}{n:Bool}{K:Bool->Prop}(hc:cell h a=some (.bool n))(hK:K n):lB a h K:=⟨n,hc,hK⟩
theorem uR {a:Addr}{h:Hp}{n:Option Addr}{K:Option Addr->Prop}(hc:cell h a=some (.pointer n))(hK:K n):fW a h K:=⟨n,hc,hK⟩
theorem Fg {a:Addr}{h:Hp}{n:Option Nat}{K:Option Nat->Prop}(hc:cell h a=some (.map n))(hK:K n):ly a h K:=⟨n,hc,hK⟩
theorem og {a:Addr}{h:Hp}{x:Option Addr}{n c:Nat}{K:Sl->Prop}(hc:cell h a=some (.slice x n c))(hK:K ⟨x,n,c⟩):ju a h K:=⟨⟨x,n,c⟩,hc,hK⟩
theorem UC {e:Int}(h1 : -9223372036854775808<=e)(h2:e<=9223372036854775807):IntKind.i64.wrap e=e:=by
 unfold IntKind.wrap;simp[IntKind.bits,IntKind.signed];omega
theorem ar {e:Int}{K:Int->Prop}(h1 : -9223372036854775808<=e)(h2:e<=9223372036854775807)(hK:K e):Ar .i64 e K:=by
 unfold Ar;rw[UC h1 h2];exact hK
theorem Rw (e:Int) : -9223372036854775808<=IntKind.i64.wrap e/\IntKind.i64.wrap e<=9223372036854775807:=by
 unfold IntKind.wrap;simp[IntKind.bits,IntKind.signed];omega
theorem nz {y:Int}{A:Prop}(h:y≠0)(hA:A):Nz y A:=⟨h,hA⟩
theorem nn {y:Int}{A:Prop}(h:0<=y)(hA:A):Nn y A:=⟨h,hA⟩
theorem ix {a:Addr}{n:Nat}{i:Int}{sz:Nat}{K:Addr->Prop}(h0:0<=i)(h1:i<(n:Int))(hK:K (a.add (i.toNat*sz))):Ix (some a) n i sz K:=⟨a,rfl,h0,h1,hK⟩
theorem cO {b:Bool}{A B:Prop}(h1:b=true->A)(h2:b=false->B):If b A B:=If.mk h1 h2
theorem cP {p:Prop}[Decidable p]{A B:Prop}(h1:p->A)(h2:¬p->B):If (decide p) A B:=
 If.mk (λh=>h1 (rO h)) (λh=>h2 (vY h))
theorem cC {b:Bool}{A B:Prop}(hb:b=true)(h:A):If b A B:=by subst hb;exact h
theorem cB {b:Bool}{A B:Prop}(hb:b=false)(h:B):If b A B:=by subst hb;exact h
theorem lF {p:Prop}[Decidable p]{A B:Prop}(hp:p)(h:A):If (decide p) A B:=cC (by simpa using hp) h
theorem fT {p:Prop}[Decidable p]{A B:Prop}(hp:¬p)(h:B):If (decide p) A B:=cB (by simpa using hp) h
theorem Ef (a:Int)(n:Nat):a.fdiv (2^n)=a/2^n:=Int.fdiv_eq_ediv_of_nonneg _ (Int.le_of_lt (Int.pow_pos aB))
theorem XX {a b:Int}(h:0<=a):a.tdiv b=a/b:=Int.tdiv_eq_ediv_of_nonneg h
theorem Qq {a b:Int}(h:0<=a):a.tmod b=a%b:=Int.tmod_eq_emod_of_nonneg h
def bY (h:Hp)(b:Nat)(cs:List Value):Prop:=∃e,h[b]?=some (.cells cs.toArray e (0,0))
theorem bY.lt {h:Hp}{b:Nat}{cs:List Value}(hb:bY h b cs):b<h.size:=by
 obtain⟨e,a⟩:=hb;exact(zz.1 a).1
theorem bY.cell {h:Hp}{b o:Nat}{cs:List Value}(hb:bY h b cs):cell h ⟨b,o,none⟩=cs[o]? := by
 obtain⟨e,a⟩:=hb;simp[Vc.cell,a]
theorem bY.nh {h:Hp}{b o:Nat}{cs:List Value}(hb:bY h b cs):nh h ⟨b,o,none⟩=false:=by
 obtain⟨e,a⟩:=hb;simp[Vc.nh,a]
theorem bY.set {h:Hp}{b o:Nat}{cs:List Value}(hb:bY h b cs)(v:Value):bY (jT h ⟨b,o,none⟩ v) b (cs.set o v):=by
 obtain⟨e,a⟩:=hb;refine⟨e,?_⟩;simp[jT,ui,a]
theorem VL {h:Hp}{a:Addr}{v:Value}{b:Nat}(hne:b≠a.block):(jT h a v)[b]?=h[b]? := by
 simp only[jT,ui];rw[zB (Ne.symm hne)]
theorem add_lit (b o n:Nat):Addr.add ⟨b,o,none⟩ n=⟨b,o+n,none⟩:=Addr.add_lit b o n
def mw (h:Hp)(b:Nat)(cs:List Value):Prop:=∃e z,h[b]?=some (.cells cs.toArray e z)
theorem bY.q {h:Hp}{b:Nat}{cs:List Value}(hb:bY h b cs):mw h b cs:=by
 obtain⟨e,a⟩:=hb;exact⟨e,_,a⟩
theorem mw.lt {h:Hp}{b:Nat}{cs:List Value}(hb:mw h b cs):b<h.size:=by
 obtain⟨e,z,a⟩:=hb;exact(zz.1 a).1
theorem mw.cell {h:Hp}{b o:Nat}{cs:List Value}(hb:mw h b cs):cell h ⟨b,o,none⟩=cs[o]? := by
 obtain⟨e,z,a⟩:=hb;simp[Vc.cell,a]
def Ext (F:Nat->Prop)(h h':Hp):Prop:=h.size<=h'.size/\∀b,b<h.size->¬F b->h'[b]?=h[b]?
def aG (h h':Hp):Prop:=Ext (λ_=>False) h h'
theorem Ext.refl (F:Nat->Prop)(h:Hp):Ext F h h:=⟨zD _,λ_ _ _=>rfl⟩
theorem Ext.trans {F:Nat->Prop}{a b c:Hp}(h:Ext F a b)(k:Ext F b c):Ext F a c:=
 ⟨zY h.1 k.1,λi d e=>(k.2 i (uG d h.1) e).trans (h.2 i d e)⟩
theorem Ext.mono {F G:Nat->Prop}{a b:Hp}(h:Ext F a b)(hs:∀i,i<a.size->F i->G i):Ext G a b:=
 ⟨h.1,λi d e=>h.2 i d λg=>e (hs i d g)⟩
theorem aG.to {F:Nat->Prop}{a b:Hp}(h:aG a b):Ext F a b:=Ext.mono h λ_ _ h=>h.elim
theorem Ext.jU {F:Nat->Prop}{a b c:Hp}(h:Ext F a b)(k:aG b c):Ext F a c:=h.trans k.to
theorem Ext.size {F:Nat->Prop}{a b:Hp}(h:Ext F a b):a.size<=b.size:=h.1
theorem Ext.push (F:Nat->Prop)(h:Hp)(o:Obj):Ext F h (h.push o):=
 ⟨by simp,λb a _=>by rw[wG,zB (wV a)]⟩
theorem Ext.eM {F:Nat->Prop}{h h':Hp}{r:Nat}(ho:QB h h' r)(hr:F r):Ext F h h':=
 ⟨Nat.le_of_eq ho.1.symm,λb _ a=>ho.2 b λe=>a (e▸hr)⟩
theorem Ext.jT {F:Nat->Prop}{h:Hp}{a:Addr}{v:Value}(hr:F a.block):Ext F h (jT h a v):=
 ⟨Nat.le_of_eq (Vl h a v).symm,λb _ d=>VL λe=>d (e▸hr)⟩
theorem Ext.at_ {F:Nat->Prop}{h h':Hp}(e:Ext F h h'){b:Nat}{o:Obj}(hb:h[b]?=some o)(hf:¬F b):h'[b]?=some o:=by
 rw[e.2 b (zz.1 hb).1 hf];exact hb
theorem Ext.bT {F:Nat->Prop}{h h':Hp}(e:Ext F h h'){b:Nat}{cs:List Value}(hb:bY h b cs)(hf:¬F b):bY h' b cs:=by
 obtain⟨t,a⟩:=hb;exact⟨t,e.at_ a hf⟩
theorem Ext.fS {F:Nat->Prop}{h h':Hp}(e:Ext F h h'){r:Nat}{k:IntKind}{c:CK}{l:List (Int×c.T)}(hb:dH h r k c l)(hf:¬F r):dH h' r k c l:=by
 obtain⟨g,b,d,a⟩:=hb;exact⟨g,b,e.at_ d hf,a⟩
theorem dH.lt {h:Hp}{r:Nat}{k:IntKind}{c:CK}{l:List (Int×c.T)}(hb:dH h r k c l):r<h.size:=by
 obtain⟨d,b,a,_⟩:=hb;exact(zz.1 a).1
theorem dH.nodup {h:Hp}{r:Nat}{k:IntKind}{c:CK}{l:List (Int×c.T)}(hb:dH h r k c l):(l.map (·.1)).Nodup:=by
 obtain⟨e,b,d,_,a,_⟩:=hb;exact a
theorem Ws {h h':Hp}{r b:Nat}{cs:List Value}(ho:QB h h' r)(hb:bY h b cs)(hne:b≠r):bY h' b cs:=by
 obtain⟨t,a⟩:=hb;exact⟨t,by rw[ho.2 b hne];exact a⟩
theorem Hs {h h':Hp}{r b:Nat}{k:IntKind}{c:CK}{l:List (Int×c.T)}(ho:QB h h' r)(hb:dH h b k c l)(hne:b≠r):dH h' b k c l:=by
 obtain⟨g,d,e,a⟩:=hb;exact⟨g,d,by rw[ho.2 b hne];exact e,a⟩
end Go.Vc
namespace Go.Bu
open Go Go.Vc
theorem Tv {a b:Nat}(ha:a<9223372036854775808)(hb:b<9223372036854775808):bits .xor .i64 (a:Int) (b:Int)=((a ^^^ b:Nat):Int):=by
 have g:a ^^^ b<2^63:=Nat.xor_lt_two_pow O O;have e:(BitVec.ofInt 64 (a:Int)).toNat=a:=by
  rw[BitVec.ofInt_natCast,BitVec.toNat_ofNat];exact uj O
 have d:(BitVec.ofInt 64 (b:Int)).toNat=b:=by
  rw[BitVec.ofInt_natCast,BitVec.toNat_ofNat];exact uj O
 show IntKind.i64.wrap ((BitVec.ofInt 64 (a:Int) ^^^ BitVec.ofInt 64 (b:Int)).toNat:Int)=_;rw[BitVec.toNat_xor,e,d,UC]<;>omega
theorem iU {a b:Nat}(ha:a<9223372036854775808)(hb:b<9223372036854775808):bits .and .i64 (a:Int) (b:Int)=((a &&& b:Nat):Int):=by
 have g:a &&& b<2^63:=Nat.and_lt_two_pow _ O;have e:(BitVec.ofInt 64 (a:Int)).toNat=a:=by
  rw[BitVec.ofInt_natCast,BitVec.toNat_ofNat];exact uj O
 have d:(BitVec.ofInt 64 (b:Int)).toNat=b:=by
  rw[BitVec.ofInt_natCast,BitVec.toNat_ofNat];exact uj O
 show IntKind.i64.wrap ((BitVec.ofInt 64 (a:Int) &&& BitVec.ofInt 64 (b:Int)).toNat:Int)=_;rw[BitVec.toNat_and,e,d,UC]<;>omega
theorem N9 (q:Nat):q ^^^ 1=ia q:=by
 apply Nat.eq_of_testBit_eq;intro i;rw[Nat.testBit_xor];unfold ia;cases i with
 | zero=>
  simp only[Nat.testBit_zero];split<;>rename_i h
  ·have:(q+1)%2=1:=by omega
   simp[h,this]
  ·have b:q%2=1:=by omega
   have:(q-1)%2=0:=by omega
   simp[b,this]
 | succ i=>
  simp only[Nat.testBit_succ];have a:(1:Nat)/2=0:=by decide
  rw[a,Nat.zero_testBit,Bool.xor_false]
  congr 1
  split<;>omega
theorem Sn (q k:Nat):(q*2^k) ^^^ (2^k)=ia q*2^k:=by
 have h:=Nat.shiftLeft_xor_distrib (a:=q) (b:=1) (i:=k);rw[N9,Nat.shiftLeft_eq,Nat.shiftLeft_eq,Nat.shiftLeft_eq,Nat.one_mul]at h;exact h.symm
theorem DG {k:Nat}(h:k<=62):2^k<=4611686018427387904:=oF (n:=2) aB h
def Keys (S:Nat->Bool)(k:Nat)(B:List (Int×Bool)):Prop:=
 (∀x v,(x,v)∈B->v=true/\∃q:Nat,x=((q*2^k:Nat):Int)/\can S k q=true)/\∀q,can S k q=true->(((q*2^k:Nat):Int),true)∈B
structure BH (U:Hp) (p n:Nat) (S:Nat->Bool) (sb:Nat) (ms:List Nat):Prop where
 hd:∃cap,bY U p [.int .i64 n,.slice (some ⟨sb,0,none⟩) ms.length cap]
 row:∃rest,bY U sb (ms.map (λm=>Value.map (some m))++rest)
 maps:∀k m,ms[k]?=some m->∃B:List (Int×Bool),dH U m .i64 .b B/\Keys S k B
 nd:(p::sb::ms).Nodup
 n1:1<=n
 n2:n<=1024
 lo:2^ms.length<=2*n
 hi:n<2^ms.length
 jr:Bounded S n
def fp (p sb:Nat)(ms:List Nat)(b:Nat):Prop:=b∈p::sb::ms
variable {U h':Hp}{p n sb:Nat}{S:Nat->Bool}{ms:List Nat}
theorem BH.len (h:BH U p n S sb ms):ms.length<=11:=by
 have:=h.lo;have:=h.n2;apply Classical.byContradiction;intro hc;have:2^12<=2^ms.length:=oF aB O;omega
theorem BH.fits (h:BH U p n S sb ms){k q:Nat}(hf:q*2^k+2^k<=n):k<ms.length:=by
 apply Classical.byContradiction;intro hc;have:2^ms.length<=2^k:=oF aB O;have:=h.hi;omega
theorem BH.LM (h:BH U p n S sb ms):cell U ⟨p,0,none⟩=some (.int .i64 n):=by
 obtain⟨cap,a⟩:=h.hd;rw[a.cell];rfl
theorem BH.nK (h:BH U p n S sb ms):∃cap,cell U ⟨p,1,none⟩=some (.slice (some ⟨sb,0,none⟩) ms.length cap):=by
 obtain⟨cap,a⟩:=h.hd;exact⟨cap,by rw[a.cell];rfl⟩
theorem BH.Lz (h:BH U p n S sb ms){k m:Nat}(hm:ms[k]?=some m):cell U ⟨sb,k,none⟩=some (.map (some m)):=by
 obtain⟨a,b⟩:=h.row;rw[b.cell,zh (by simpa using(cX.1 hm).1),zg,hm];rfl
theorem BH.get (h:BH U p n S sb ms){k:Nat}(hk:k<ms.length):∃m,ms[k]?=some m:=⟨ms[k],by simp[hk]⟩
theorem BH.bS (h:BH U p n S sb ms){F:Nat->Prop}(e:Ext F U h')(hF:∀b,fp p sb ms b->¬F b):BH h' p n S sb ms where
 hd:=by obtain⟨cap,d⟩:=h.hd;exact⟨cap,e.bT d (hF _ (by simp[fp]))⟩
 row:=by obtain⟨a,d⟩:=h.row;exact⟨a,e.bT d (hF _ (by simp[fp]))⟩
 maps:=λk m g=>by
  obtain⟨B,j,i⟩:=h.maps k m g;exact⟨B,e.fS j (hF _ (by simp[fp,zG g])),i⟩
 nd:=h.nd
 n1:=h.n1
 n2:=h.n2
 lo:=h.lo
 hi:=h.hi
 jr:=h.jr
theorem BH.bO (h:BH U p n S sb ms)(e:aG U h'):BH h' p n S sb ms:=h.bS e λ_ _=>id
theorem Nv {k:Nat}{B:List (Int×Bool)}(hK:Keys S k B)(hn:(B.map (·.1)).Nodup)(q:Nat):bU B ((q*2^k:Nat):Int)=if can S k q then some true else none:=by
 unfold bU;cases hf:B.find? λx=>x.1==((q*2^k:Nat):Int)with
 | some x=>
  have p:=sL hf;have a:=uc hf;obtain⟨e,i⟩:=x;obtain⟨m,j,g,b⟩:=hK.1 e i a;have d:e=((q*2^k:Nat):Int):=by simpa using p
  rw[d]at g;have:q*2^k=j*2^k:=by exact_mod_cast g
  have:=wT (kJ k) this;subst this;subst m;simp[b]
 | none=>
  rw[nQ]at hf;by_cases b:can S k q=true
  ·have:=hf _ (hK.2 q b);simp at this
  ·simp[b]
theorem BH.lk (h:BH U p n S sb ms){k m q:Nat}(hm:ms[k]?=some m){x:Int}(hx:x=((q*2^k:Nat):Int)){K:Option Bool->Prop}
 (hK:K (if can S k q then some true else none)):Lk .i64 .b (some m) x U K:=by
 obtain⟨B,a,d⟩:=h.maps k m hm;exact⟨B,a,by rw[hx,Nv d a.nodup];exact hK⟩
theorem IZ {k:Nat}{B:List (Int×Bool)}(hK:Keys S k B)(hn:(B.map (·.1)).Nodup)(hb:Bounded S n):B.length=many n S k:=by
 have j:(B.map (·.1)).Perm (((List.range n).filter (can S k)).map λq=>((q*2^k:Nat):Int)):=by
  rw[xX hn]
  ·intro x;simp only[zE,zI,zd];constructor
   ·rintro⟨⟨x1,x2⟩,hm,rfl⟩;obtain⟨_,q,m,d⟩:=hK.1 x1 x2 hm;refine⟨q,⟨?_,d⟩,m.symm⟩;have:=ZQ hb (ZE.1 d).1;have p:=kJ k;have r:q<=q*2^k:=Nat.le_mul_of_pos_right _ p;omega
   ·rintro⟨q,⟨_,d⟩,rfl⟩;exact⟨_,hK.2 q d,rfl⟩
  ·have g:((List.range n).filter (can S k)).Pairwise (· ≠ ·):=List.Pairwise.sublist tU List.nodup_range;refine List.Pairwise.map _ (λa b (i:a≠b) e=>i ?_) g;have:a*2^k=b*2^k:=by exact_mod_cast e
   exact wT (kJ k) this
 have:=j.length_eq;simp only[zl]at this;rw[this,many,xH]
theorem BH.lr (h:BH U p n S sb ms){k m:Nat}(hm:ms[k]?=some m){K:Int->Prop}(hK:K ((many n S k:Nat):Int)):qp .i64 .b (some m) U K:=by
 obtain⟨B,a,d⟩:=h.maps k m hm;exact⟨B,a,by rw[IZ d a.nodup h.jr];exact hK⟩
theorem BH.pB (h:BH U p n S sb ms){k m:Nat}{T:Nat->Bool}(hm:ms[k]?=some m)(ho:QB U h' m){B':List (Int×Bool)}(hB':dH h' m .i64 .b B')(hK':Keys T k B')
 (hoth:∀j q,j≠k->can T j q=can S j q) (hT:Bounded T n):BH h' p n T sb ms where
 hd:=by
  obtain⟨cap,s⟩:=h.hd;refine⟨cap,Ws ho s ?_⟩;have:=h.nd;simp only[zo,zV,not_or]at this;rintro rfl;exact this.1.2 (zG hm)
 row:=by
  obtain⟨i,s⟩:=h.row;refine⟨i,Ws ho s ?_⟩;have:=h.nd;simp only[zo,zV,not_or]at this;rintro rfl;exact this.2.1 (zG hm)
 maps:=λj A a=>by
  by_cases e:j=k
  ·subst e;rw[hm]at a;cases a;exact⟨B',hB',hK'⟩
  ·obtain⟨B,u,g⟩:=h.maps j A a;refine⟨B,Hs ho u ?_,?_⟩
   ·rintro rfl;have d:=h.nd;simp only[zo]at d;exact e ((List.getElem?_inj (cX.1 a).1 d.2.2).1 (a.trans hm.symm))
   ·refine⟨λx v z=>?_,λq y=>g.2 q (by rw[←hoth j q e];exact y)⟩;obtain⟨w,q,r,C⟩:=g.1 x v z;exact⟨w,q,r,by rw[hoth j q e];exact C⟩
 nd:=h.nd
 n1:=h.n1
 n2:=h.n2
 lo:=h.lo
 hi:=h.hi
 jr:=hT
theorem O7 (hb:Bounded S n)(k q:Nat):Bounded (del S k q) n:=λx a=>hb x (VG.1 a).1
theorem Ic (hb:Bounded S n){k q:Nat}(hf:q*2^k+2^k<=n):Bounded (ins S k q) n:=λx a=>by
 rcases VD.1 a with h|h
 ·exact hb x h
 ·have:=Qb.1 h;omega
theorem Fp {a b:Bool}(h:a=true↔b=true):a=b:=by cases a<;>cases b<;>simp_all
theorem BH.rj (h:BH U p n S sb ms){k m q:Nat}(hm:ms[k]?=some m)(hc:can S k q=true){x:Int}(hx:x=((q*2^k:Nat):Int)){K:aP}
 (hK:∀h',Ext (· ∈ ms) U h'->BH h' p n (del S k q) sb ms->K h'):lI .i64 .b (some m) x U K:=by
 obtain⟨B,C,w⟩:=h.maps k m hm;refine⟨B,C,λh' u _ s=>hK h' (Ext.eM (u m rfl) (zG hm)) ?_⟩;refine h.pB hm (u m rfl) s ⟨λy v i=>?_,λr A=>?_⟩ (λj r z=>Fp ?_) (O7 h.jr k q)
 ·simp only[cR,zI,mq,l6]at i;obtain⟨D,r,d,g⟩:=w.1 y v i.1;refine⟨D,r,d,(CB hc).2 ⟨g,λe=>i.2 ?_⟩⟩;rw[d,hx,e.2]
 ·have a:=(CB hc).1 A;simp only[cR,zI,mq,l6];refine⟨w.2 r a.1,λe=>a.2 ⟨rfl,?_⟩⟩;rw[hx]at e;have:r*2^k=q*2^k:=by exact_mod_cast e
  exact wT (kJ k) this
 ·rw[CB hc];exact⟨λh=>h.1,λh=>⟨h,λe=>z e.1⟩⟩
theorem BH.xr (h:BH U p n S sb ms){k m q:Nat}(hm:ms[k]?=some m)(hd:∀y,y/2^k=q->S y=false)(hup:¬full (ins S k q) (k+1) (q/2)=true)(hf:q*2^k+2^k<=n)
 {x:Int} (hx:x=((q*2^k:Nat):Int)) {K:aP} (hK:∀h',Ext (· ∈ ms) U h'->BH h' p n (ins S k q) sb ms->K h'):kG .i64 .b (some m) x true U K:=by
 obtain⟨B,E,w⟩:=h.maps k m hm;refine⟨m,B,rfl,E,λh' A z=>hK h' (Ext.eM A (zG hm)) ?_⟩;have s:∀y∈B,(y.1==x)=false:=by
  rintro⟨y,v⟩ d;obtain⟨_,r,a,g⟩:=w.1 y v d;simp only[l6];rintro rfl;rw[hx]at a;have:q*2^k=r*2^k:=by exact_mod_cast a
  have:=wT (kJ k) this;subst this;have u:=Ub g (KO k q);rw[hd _ (KO k q)]at u;cases u
 have i:dA B x true=B++[(x,true)]:=by
  unfold dA;rw[zB];simp only[qn,mg];intro y d;simp[s y d]
 refine h.pB hm A z ?_ (λj r C=>Fp ?_) (Ic h.jr hf)
 ·rw[i];refine⟨λy v d=>?_,λr D=>?_⟩
  ·simp only[zK,zL,Prod.mk.injEq]at d;rcases d with d|⟨rfl,rfl⟩
   ·obtain⟨F,r,a,g⟩:=w.1 y v d;exact⟨F,r,a,(xD hd hup).2 (.inl g)⟩
   ·exact⟨rfl,q,hx,(xD hd hup).2 (.inr ⟨rfl,rfl⟩)⟩
  ·rcases(xD hd hup).1 D with u|⟨_,rfl⟩
   ·exact kr _ (w.2 r u)
   ·rw[hx];exact nS _ aA
 ·rw[xD hd hup];exact⟨λh=>h.elim id λe=>(C e.1).elim,.inl⟩
end Go.Bu
namespace Go.Vc
open Go
theorem V6 {b o:Nat}:∀{vs:List Value} {h:Hp} {cs:List Value} {i:Nat} {K:aP},bY h b cs->o+i+vs.length<=cs.length →
 (∀h',QB h h' b->bY h' b (cs.take (o+i)++vs++cs.drop (o+i+vs.length))->K h')->nD ⟨b,o,none⟩ h vs i K
 | [],h,cs,i,K,hb,hl,hK=>hK h ⟨rfl,λ_ _=>rfl⟩ (by simpa using hb)
 | v::vs,h,cs,i,K,hb,hl,hK=>by
  simp only[zX]at hl;refine⟨?_,?_,?_⟩
  ·rw[add_lit,hb.cell,cU O];rfl
  ·rw[add_lit];exact hb.nh
  ·rw[add_lit];have hb':=hb.set (o:=o+i) v;refine V6 hb' aE λh' d a=>hK h' ?_ ?_
   ·exact⟨d.1.trans (Vl _ _ _),λc g=>(d.2 c g).trans (VL g)⟩
   ·have e:(cs.set (o+i) v).take (o+(i+1))++vs++(cs.set (o+i) v).drop (o+(i+1)+vs.length)=cs.take (o+i)++v::vs++cs.drop (o+i+(v::vs).length):=by
     rw[List.drop_set_of_lt O,show o+(i+1)=(o+i)+1 by omega,kN,List.take_set_of_le O,zM O];simp only[xS,jL,List.singleton_append,lu,tW,zX]
     congr 4
     omega
    rw[e]at a;exact a
def Own (Q:Nat->Prop)(h:Hp)(s:Sl)(sz:Nat)(xs:List Value):Prop:=
 xs.length=s.len*sz/\(s.a=none/\s.len=0/\s.cap=0\/∃b cs,Q b/\s.a=some ⟨b,0,none⟩/\bY h b cs/\s.len<=s.cap/\cs.length=s.cap*sz/\cs.take xs.length=xs)
def U9 (s:Sl)(b:Nat):Prop:=∃o,s.a=some ⟨b,o,none⟩
theorem Own.nil (Q:Nat->Prop)(h:Hp)(sz:Nat):Own Q h ⟨none,0,0⟩ sz []:=⟨by simp,.inl ⟨rfl,rfl,rfl⟩⟩
theorem Own.bS {Q F:Nat->Prop}{h h':Hp}{s:Sl}{sz:Nat}{xs:List Value}(ho:Own Q h s sz xs)(e:Ext F h h')(hF:∀b,Q b->b<h.size->¬F b):Own Q h' s sz xs:=by
 refine⟨ho.1,ho.2.imp id ?_⟩;rintro⟨b,cs,hq,ha,hb,r⟩;exact⟨b,cs,hq,ha,e.bT hb (hF b hq hb.lt),r⟩
theorem Own.bO {Q:Nat->Prop}{h h':Hp}{s:Sl}{sz:Nat}{xs:List Value}(ho:Own Q h s sz xs)(e:aG h h'):Own Q h' s sz xs:=ho.bS e λ_ _ _ h=>h
theorem Own.mono {Q Q':Nat->Prop}{h:Hp}{s:Sl}{sz:Nat}{xs:List Value}(ho:Own Q h s sz xs)(hq:∀b,b<h.size->Q b->Q' b):Own Q' h s sz xs:=by
 refine⟨ho.1,ho.2.imp id ?_⟩;rintro⟨b,cs,hQ,ha,hb,r⟩;exact⟨b,cs,hq b hb.lt hQ,ha,hb,r⟩
theorem Own.jj {Q:Nat->Prop}{h:Hp}{s:Sl}{sz:Nat}{xs:List Value}(ho:Own Q h s sz xs){b:Nat}(hb:U9 s b):Q b/\b<h.size:=by
 obtain⟨o,a⟩:=hb;rcases ho.2 with⟨ha,_⟩|⟨b',cs,hq,ha,hk,_⟩
 ·rw[ha]at a;cases a
 ·rw[ha]at a;cases a;exact⟨hq,hk.lt⟩
theorem Own.rd {Q:Nat->Prop}{h:Hp}{s:Sl}{sz:Nat}{xs:List Value}(ho:Own Q h s sz xs):Rd h s.a xs:=by
 rcases ho.2 with⟨ha,hl,_⟩|⟨b,cs,_,ha,hb,_,_,ht⟩
 ·rw[ha];have:=ho.1;rw[hl]at this;simp at this;exact this
 ·rw[ha];intro j v hv;rw[add_lit,hb.cell,zH];rw[←ht,zk]at hv;split at hv
  ·exact hv
  ·cases hv
theorem Own.cell {Q:Nat->Prop}{h:Hp}{s:Sl}{sz:Nat}{xs:List Value}(ho:Own Q h s sz xs){j:Nat}{v:Value}(hv:xs[j]?=some v):∃b,s.a=some ⟨b,0,none⟩/\Vc.cell h ⟨b,j,none⟩=some v:=by
 rcases ho.2 with⟨ha,hl,_⟩|⟨b,cs,_,ha,hb,_,_,ht⟩
 ·have:=ho.1;rw[hl]at this;simp at this;subst this;simp at hv
 ·refine⟨b,ha,?_⟩;rw[hb.cell];rw[←ht,zk]at hv;split at hv
  ·exact hv
  ·cases hv
theorem Own.app {Q:Nat->Prop}{h:Hp}{s x:Sl}{sz bytes e:Nat}{zs xs ys:List Value}{K:Sl->Hp->Prop}(ho:Own Q h s sz xs)(hq:∀b,h.size<=b->Q b)(hz:zs.length=sz)
 (hy:ys.length=x.len*sz) (hr:Rd h x.a ys) (h1:∀v∈ys,dO v=true) (hb:(s.len+x.len)*bytes<=2^46) (hc:s.len+x.len<=2^62)
 (hx:0<x.len) (hK:∀s' h',s'.len=s.len+x.len->Ext (U9 s) h h'->Own Q h' s' sz (xs++ys)->s'.a≠none->K s' h'):App s sz bytes e zs x h K:=by
 refine⟨xs,ys,ho.1,hy,ho.rd,hr,h1,hb,hc,λg=>?_,λp c i=>?_⟩
 ·rcases ho.2 with⟨ha,hl,hcap⟩|⟨b,cs,hQ,ha,hk,hle,hcl,ht⟩
  ·omega
  ·rw[ha];simp only;rw[add_lit];have r:(s.len+x.len)*sz<=s.cap*sz:=kS _ g;rw[zm]at r;have d:=ho.1;refine V6 hk O λh' j m=>hK _ h' rfl (Ext.eM j ⟨0,ha⟩) ⟨?_,.inr ⟨b,_,hQ,rfl,m,g,?_,?_⟩⟩ aA
   ·simp[d,hy,zm]
   ·simp;omega
   ·rw[zO,d];rw[zH,j9,←d];rw[ht,po aA,mW aA]
 ·refine hK _ _ rfl (Ext.push _ _ _) ⟨by simp[ho.1,hy,zm],.inr ⟨h.size,xs++ys++(List.replicate (c-(s.len+x.len)) zs).flatten,hq _ (zD _),rfl,⟨e,by simp⟩,i,?_,?_⟩⟩ aA
  ·simp only[zO,xq,uH,xd,ho.1,hy,hz,←zm]
   congr 1;omega
  ·rw[po aA,mW aA]
theorem SN {h:Hp}{v:Value}{e:Nat}:Rd (h.push (.cells #[v] e (0,0))) (some ⟨h.size,0,none⟩) [v]:=by
 intro j u hu;rw[add_lit];cases j with
 | zero=>simp at hu;subst hu;simp[Vc.cell]
 | succ j=>simp at hu
theorem bY.N4 {h:Hp}{b o:Nat}{cs:List Value}(hb:bY h b cs){v:Value}(ho:o<cs.length){K:aP}(hK:∀h',QB h h' b->bY h' b (cs.set o v)->K h'):dU (Addr.add ⟨b,0,none⟩ o) v h K:=by
 rw[add_lit,zH];refine⟨?_,hb.nh,hK _ ⟨Vl _ _ _,λc a=>VL a⟩ (hb.set v)⟩;rw[hb.cell,cU ho];rfl
theorem bY.push (h:Hp)(cs:List Value)(e:Nat):bY (h.push (.cells cs.toArray e (0,0))) h.size cs:=⟨e,by simp⟩
theorem dH.push (h:Hp)(k:IntKind)(c:CK):dH (h.push (.map #[] 0)) h.size k c []:=⟨#[],0,by simp,by simp,by simp,by simp,by simp⟩
theorem Ext.only {F:Nat->Prop}{a b c:Hp}{r:Nat}(e:Ext F a b)(ho:QB b c r)(hr:F r\/a.size<=r):Ext F a c:=
 ⟨by rw[ho.1];exact e.1,λi g d=>by
  rw[ho.2 i ?_];exact e.2 i g d;rintro rfl;rcases hr with h|h
  ·exact d h
  ·omega⟩
theorem Ext.fresh {a b c:Hp}{F:Nat->Prop}(e:aG a b)(k:Ext F b c)(hF:∀i,F i->a.size<=i):aG a c:=
 ⟨zY e.1 k.1,λi d _=>(k.2 i (uG d e.1) λg=>by have:=hF i g;omega).trans (e.2 i d id)⟩
theorem Own.st {Q:Nat->Prop}{h:Hp}{s:Sl}{sz:Nat}{xs:List Value}(ho:Own Q h s sz xs){j:Nat}(hj:j<xs.length){v:Value}{K:aP}{a:Addr}(ha:∀b,s.a=some ⟨b,0,none⟩->a=⟨b,j,none⟩)
 (hK:∀h',Ext (U9 s) h h'->Own Q h' s sz (xs.set j v)->K h'):dU a v h K:=by
 rcases ho.2 with⟨h1,hl,_⟩|⟨b,cs,hq,hsa,hb,hle,hcl,ht⟩
 ·have:=ho.1;rw[hl]at this;simp at this;subst this;simp at hj
 ·rw[ha b hsa];have d:j<cs.length:=by
   have:(cs.take xs.length).length=xs.length:=by rw[ht]
   rw[za]at this;omega
  refine⟨by rw[hb.cell,cU d];rfl,hb.nh,hK _ (Ext.jT (F:=U9 s) ⟨0,hsa⟩) ⟨by simp[ho.1],.inr ⟨b,_,hq,hsa,hb.set v,hle,by simp[hcl],?_⟩⟩⟩;rw[ns,List.take_set,ht]
end Go.Vc