/- Texts joined. -/
import Init
import Derived.WalkKit
import Derived.WalkLawsBesides
import Derived.WalkSpells
import Derived.ChangeKeysEq
import Derived.StillTail
import Derived.OrdersHeld
import Derived.Scope
set_option linter.unusedVariables false
set_option linter.unusedSimpArgs false
abbrev zA:=@if_neg
abbrev zB:=@if_pos
abbrev zC:=@List.mem_map
abbrev zD:=@Nat.le_refl
abbrev zE:=@List.mem_of_getElem?
abbrev zF:=@Bool.and_eq_true
abbrev zG:=@Nat.zero_add
abbrev zH:=@List.mem_filter
abbrev zI:=@Nat.le_trans
abbrev zJ:=@List.map_cons
abbrev zK:=@List.length_append
abbrev zL:=@List.getD_eq_getElem?_getD
abbrev zM:=@List.getElem?_set_self
abbrev zN:=@List.getElem?_of_mem
abbrev zO:=@List.length_take
abbrev zP:=@List.length_cons
abbrev zQ:=@List.mem_cons
abbrev zR:=@List.mem_append
abbrev zS:=@if_true
abbrev zT:=@decide_eq_true_eq
abbrev zU:=@List.mem_range
abbrev zV:=@List.mem_singleton
abbrev zW:=@decide_eq_true
abbrev zX:=@List.getElem?_take
abbrev zY:=@List.getElem?_eq_none
abbrev zZ:=@beq_iff_eq
abbrev za:=@List.length_map
abbrev zb:=@Bool.false_eq_true
abbrev zc:=@List.getElem_mem
abbrev zd:=@List.getElem?_append_left
abbrev ze:=@List.getElem?_map
abbrev zf:=@Option.map_some
abbrev zg:=@List.take_add_one
abbrev zh:=@decide_eq_false
abbrev zi:=@List.getElem?_set_ne
abbrev zj:=@List.sum_cons
abbrev zk:=@Int.eq_ofNat_of_zero_le
abbrev zl:=@Nat.add_mul
abbrev zm:=@List.map_map
abbrev zn:=@List.take_length
abbrev zo:=@List.getElem?_append_right
abbrev zp:=@List.getElem?_drop
abbrev zq:=@List.nodup_cons
abbrev zr:=@List.map_append
abbrev zt:=@Nat.add_zero
abbrev zu:=@List.length_drop
abbrev zw:=@List.map_congr_left
abbrev zy:=@if_false
abbrev zz:=@List.ext_getElem?
abbrev j7:=@List.range_succ
abbrev j9:=@List.any_eq_true
abbrev j8:=@List.append_nil
abbrev km:=@List.append_assoc
abbrev kj:=@List.pairwise_iff_getElem
abbrev kN:=@List.all_eq_true
abbrev kM:=@List.mem_cons_of_mem
abbrev kL:=@Nat.mul_le_mul
abbrev lb:=@Nat.two_pow_pos
abbrev lf:=@List.mem_cons_self
abbrev lg:=@List.foldl_cons
abbrev lN:=@Nat.mul_le_mul_right
abbrev lC:=@Nat.eq_of_beq_eq_true
abbrev lQ:=@List.cons_append
abbrev l8:=@Nat.lt_or_ge
abbrev ma:=@List.length_nil
abbrev mF:=@Array.getElem?_eq_some_iff
abbrev mK:=@List.mem_of_mem_take
abbrev mM:=@List.pairwise_cons
abbrev mS:=@List.flatMap_cons
abbrev mN:=@List.foldl_append
abbrev mL:=@Bool.eq_false_iff
abbrev nk:=@List.getElem?_replicate
abbrev mW:=@Nat.pow_succ
abbrev ni:=@Bool.not_eq_true'
abbrev np:=@List.any_eq_false
abbrev mZ:=@List.take_append_drop
abbrev mV:=@List.take_of_length_le
abbrev nh:=@List.length_filter_le
abbrev m8:=@beq_eq_false_iff_ne
abbrev nL:=@Bool.eq_iff_iff
abbrev nI:=@List.mem_append_left
abbrev nA:=@Nat.zero_lt_one
abbrev oc:=@List.getElem?_set
abbrev oy:=@Nat.mul_one
abbrev og:=@List.nodup_append
abbrev nT:=@List.filter_eq_self
abbrev ot:=@Bool.or_eq_true
abbrev n4:=@List.find?_eq_none
abbrev nR:=@List.getElem?_range
abbrev od:=@List.set_set
abbrev oM:=@Nat.pow_le_pow_right
abbrev oO:=@List.findIdx?_eq_some_iff_getElem
abbrev oP:=@List.length_set
abbrev oK:=@List.length_range
abbrev oY:=@List.map_nil
abbrev pS:=@List.pairwise_append
abbrev pN:=@Option.getD_some
abbrev pL:=@List.mem_append_right
abbrev pU:=@List.nil_append
abbrev qb:=@List.take_append_of_le_length
abbrev pR:=@List.sum_append
abbrev pA:=@Nat.sub_self
abbrev pE:=@of_decide_eq_true
abbrev ql:=@Int.le_refl
abbrev qx:=@Nat.lt_trichotomy
abbrev qC:=@Option.isSome_iff_exists
abbrev qi:=@List.mem_of_mem_drop
abbrev qg:=@Nat.min_eq_left
abbrev qw:=@List.drop_eq_getElem_cons
abbrev qn:=@Nat.add_assoc
abbrev qo:=@List.length_pos_iff
abbrev qR:=@List.countP_cons
abbrev rF:=@Option.map_eq_some_iff
abbrev qU:=@List.filter_cons
abbrev rm:=@Bool.not_eq_true
abbrev qD:=@List.pairwise_map
abbrev rq:=@Option.map_eq_none_iff
abbrev qX:=@List.mem_flatMap
abbrev qJ:=@List.nodup_nil
abbrev rU:=@Nat.le_of_lt
abbrev rO:=@List.filter_sublist
abbrev sE:=@List.getElem_map
abbrev sg:=@Array.getD_eq_getD_getElem?
abbrev sj:=@List.contains_eq_mem
abbrev sA:=@Bool.and_false
abbrev si:=@List.set_cons_succ
abbrev sx:=@List.take_succ_cons
abbrev rW:=@of_decide_eq_false
abbrev tF:=@Nat.div_div_eq_div_mul
abbrev s8:=@List.getElem?_modify
abbrev tC:=@Nat.zero_mul
abbrev tT:=@List.contains_iff_mem
abbrev uq:=@Bool.and_true
abbrev sI:=@List.find?_some
abbrev tZ:=@List.mem_of_find?_eq_some
abbrev tf:=@Option.toList_some
abbrev sM:=@List.map_replicate
abbrev tH:=@Bool.false_and
abbrev ue:=@List.map_set
abbrev uo:=@List.filter_cons_of_neg
abbrev tj:=@List.filter_cons_of_pos
abbrev uw:=@List.length_singleton
abbrev sS:=@true_and
abbrev vK:=@Nat.mod_lt
abbrev uV:=@List.countP_append
abbrev uZ:=@List.find?_cons
abbrev vM:=@List.all_cons
abbrev vf:=@List.findIdx?_eq_none_iff
abbrev uU:=@List.flatten_cons
abbrev uG:=@Nat.mod_eq_of_lt
abbrev vB:=@Nat.mul_eq_zero
abbrev uN:=@List.getElem_of_mem
abbrev uL:=@List.filterMap_append
abbrev vF:=@List.mem_filterMap
abbrev vL:=@Nat.lt_of_lt_of_le
abbrev vA:=@List.length_flatten
abbrev vJ:=@List.sum_replicate_nat
abbrev uX:=@Bool.decide_and
abbrev vt:=@List.countP_le_length
abbrev vE:=@List.count_append
abbrev vq:=@List.count_le_length
abbrev uI:=@List.filter_append
abbrev vI:=@Bool.true_and
abbrev ve:=@List.getElem?_cons_zero
abbrev wz:=@List.findIdx?_cons
abbrev wj:=@List.map_id
abbrev xj:=@Nat.mul_assoc
abbrev w8:=@Nat.ne_of_lt
abbrev vV:=@Array.length_toList
abbrev xq:=@Nat.eq_of_mul_eq_mul_right
abbrev wL:=@List.perm_ext_iff_of_nodup
abbrev xf:=@List.nodup_range
abbrev wq:=@List.countP_eq_length_filter
abbrev wk:=@Nat.eq_zero_or_pos
abbrev wh:=@List.replicate_succ
abbrev xr:=@List.takeWhile_cons
abbrev vR:=@List.mem_or_eq_of_mem_set
abbrev wy:=@List.count_eq_zero
abbrev xN:=@Nat.div_mul_le_self
abbrev Ad:=@List.map_eq_nil_iff
abbrev Ag:=@Array.getElem?_toList
abbrev xY:=@Array.getElem?_setIfInBounds_ne
abbrev ye:=@List.mem_map_of_mem
abbrev yI:=@List.mem_replicate
abbrev yZ:=@Array.getElem?_push
abbrev zx:=@List.filter_congr
abbrev yC:=@Option.bind_some
abbrev ym:=@Bool.false_or
abbrev yw:=@Bool.not_false
abbrev yn:=@Array.getElem?_modify
abbrev Ap:=@List.getElem?_cons_succ
abbrev xX:=@List.set_append_right
abbrev Ai:=@List.count_replicate
abbrev yj:=@List.take_take
abbrev yF:=@List.take_left'
abbrev yb:=@List.drop_succ_cons
abbrev xK:=@List.dropLast_eq_take
abbrev zv:=@List.range_succ_eq_map
abbrev xR:=@List.take_zero
abbrev yX:=@List.length_eq_zero_iff
abbrev x8:=@List.findIdx?_eq_some_iff_findIdx_eq
abbrev y5:=@List.size_toArray
abbrev DB:=@Nat.mul_div_cancel
abbrev Aw:=@List.countP_congr
abbrev Av:=@Nat.le_mul_of_pos_right
abbrev AY:=@Array.mem_of_getElem?
abbrev Cp:=@Array.toList_modify
abbrev DI:=@Array.toList_eraseIdxIfInBounds
abbrev DD:=@List.replicate_succ'
abbrev Dl:=@List.flatten_append
abbrev Cn:=@List.filter_filter
abbrev AK:=@List.filterMap_cons
abbrev BW:=@Array.getElem?_append_left
abbrev Bp:=@List.length_dropLast
abbrev DV:=@List.eq_nil_of_length_eq_zero
abbrev AJ:=@Nat.add_sub_cancel_left
abbrev C2:=@List.flatMap_append
abbrev DO:=@List.take_sublist
abbrev Bz:=@List.dropWhile_cons
abbrev C0:=@List.drop_sublist
abbrev Bg:=@List.find?_isSome
abbrev Dz:=@List.eq_of_mem_replicate
abbrev Ck:=@List.takeWhile_append_dropWhile
abbrev CA:=@List.takeWhile_cons_of_neg
abbrev AA:=@List.drop_eq_nil_of_le
abbrev C9:=@Nat.add_sub_cancel
abbrev CQ:=@List.zip_cons_cons
abbrev BV:=@List.getElem?_zipWith
abbrev Ax:=@List.nodup_iff_count
abbrev CL:=@List.count_pos_iff
abbrev A3:=@List.count_singleton_self
theorem cQ {α:Type _}{l:List α}{i:Nat}{a:α}:l[i]?=some a↔∃h:i<l.length,l[i]=a:=List.getElem?_eq_some_iff
theorem cM {α:Type _}{l:List α}{i:Nat}(h:i<l.length):l[i]?=some l[i]:=List.getElem?_eq_getElem h
theorem dC (n:Nat):(n:Int).toNat=n:=Int.toNat_natCast n
theorem O{p:Prop}(h:p:=by omega):p:=h
theorem aA{p:Prop}(h:p:=by simp):p:=h
theorem aB{p:Prop}(h:p:=by decide):p:=h
theorem aC{p:Prop}(h:p:=by simp only;omega):p:=h
theorem aD{p:Prop}(h:p:=by first|omega | (simp only;omega)):p:=h
theorem aE{p:Prop}(h:p:=by simp;omega):p:=h
abbrev aW(b:Nat):Option Go.Addr:=some ⟨b,0,none⟩
namespace Go.Ar
structure bW where
 size:Nat
 aF:Nat
 batch:Nat
 deriving DecidableEq
def bW.n (c:bW):Nat:=c.aF*256/c.size
def bW.tail (c:bW):Nat:=c.aF*256-c.n*c.size
def Uv (x y z:Int):Bool:=decide (8<=x)&&(decide (x<=512)&&(decide (x%8=0)&&(decide (1<=y)&&(decide (y<=4)&&(decide (x<=y*256)&&(decide (1<=z)&&decide (z<=32)))))))
def bW.ok (c:bW):Prop:=8<=c.size/\c.size<=512/\c.size%8=0/\1<=c.aF/\c.aF<=4/\c.size<=c.aF*256/\1<=c.batch/\c.batch<=32
theorem Hv (x y z:Int):Uv x y z=true↔8<=x/\x<=512/\x%8=0/\1<=y/\y<=4/\x<=y*256/\1<=z/\z<=32:=by simp[Uv]
theorem UA (c:bW):Uv c.size c.aF c.batch=true↔c.ok:=by
 rw[Hv];unfold bW.ok;omega
def ZW (t:Int×Int×Int):bW:=⟨t.1.toNat,t.2.1.toNat,t.2.2.toNat⟩
theorem yk {x y z:Int}(h:Uv x y z=true):∃c:bW,c.ok/\ZW (x,y,z)=c/\x=c.size/\y=c.aF/\z=c.batch:=by
 rw[Hv]at h;refine⟨ZW (x,y,z),?_,rfl,?_,?_,?_⟩<;>simp only[ZW,bW.ok]<;>omega
def uQ:List (Int×Int×Int)->Bool
 | x::y::l=>decide (x.1<y.1)&&uQ (y::l)
 | _=>true
def Qi (xs:List (Int×Int×Int)):Bool:=decide (1<=xs.length)&&(decide (xs.length<=40)&&(xs.all (λt=>Uv t.1 t.2.1 t.2.2)&&uQ xs))
theorem bW.ok.ns {c:bW}(h:c.ok):1<=c.n:=by
 unfold bW.ok at h;exact(Nat.one_le_div_iff O).2 h.2.2.2.2.2.1
theorem bW.ok.jQ {c:bW}(h:c.ok):c.n<=128:=by
 unfold bW.ok at h;unfold bW.n;have:c.aF*256/c.size<=1024/8:=Nat.div_le_div O O O;omega
theorem bW.rK (c:bW):c.n*c.size<=c.aF*256:=xN _ _
structure cH where
 st:Nat
 tk:List Bool
 deriving DecidableEq
def cH.many (s:cH):Nat:=s.tk.count true
def idx (c:bW)(s:cH)(x:Int):Option Nat:=if x<((s.st*256:Nat):Int)\/((s.st*256+s.tk.length*c.size:Nat):Int)<=x then none else some ((x-((s.st*256:Nat):Int)).toNat/c.size)
def at_ (c:bW)(s:cH)(i:Nat):Nat:=s.st*256+i*c.size
def obj (c:bW)(s:cH)(x:Int):Option Nat:=match idx c s x with
 | some i=>if x=((at_ c s i:Nat):Int)then some i else none
 | none=>none
theorem V1 {c:bW}{s:cH}{x:Int}{i:Nat}(hc:0<c.size):idx c s x=some i↔((at_ c s i:Nat):Int)<=x/\x<((at_ c s (i+1):Nat):Int)/\i<s.tk.length:=by
 unfold idx at_;constructor
 ·intro h;split at h
  ·cases h
  ·rename_i hn;cases h;obtain⟨y,rfl⟩:=zk (show 0<=x by omega);have e:((y:Int)-((s.st*256:Nat):Int)).toNat=y-s.st*256:=by omega
   rw[e];have g:(y-s.st*256)/c.size*c.size<=y-s.st*256:=xN _ _;have b:=Nat.lt_div_mul_add (a:=y-s.st*256) hc;have d:(y-s.st*256)/c.size<s.tk.length:=(Nat.div_lt_iff_lt_mul hc).2 O;rw[zl];omega
 ·rintro⟨g,b,d⟩;obtain⟨y,rfl⟩:=zk (show 0<=x by omega);have j:(i+1)*c.size<=s.tk.length*c.size:=lN _ d;rw[zA O];have e:((y:Int)-((s.st*256:Nat):Int)).toNat=y-s.st*256:=by omega
  rw[e]
  congr 1
  rw[zl]at b;refine Nat.div_eq_of_lt_le ?_ ?_
  ·omega
  ·rw[zl];omega
theorem UO {c:bW}{s:cH}{x:Int}{i:Nat}(hc:0<c.size):obj c s x=some i↔x=((at_ c s i:Nat):Int)/\i<s.tk.length:=by
 unfold obj;constructor
 ·intro h;split at h
  ·rename_i j hj;split at h
   ·cases h;rename_i he;exact⟨he,((V1 hc).1 hj).2.2⟩
   ·cases h
  ·cases h
 ·rintro⟨rfl,hi⟩;have:idx c s ((at_ c s i:Nat):Int)=some i:=(V1 hc).2 ⟨ql _,by unfold at_;rw[zl];omega,hi⟩;rw[this];simp
def low (s:cH):Option Nat:=s.tk.findIdx? (· == false)
def cH.put (s:cH)(i:Nat)(v:Bool):cH:={s with tk:=s.tk.set i v}
def lj (c:bW)(ss:List cH)(x:Int):Option Nat:=ss.findIdx? λs=>(idx c s x).isSome
def eI (c:bW)(ss:List cH)(x:Int):Option Bool:=match lj c ss x with
 | some k=>match ss[k]? with
  | some s=>(obj c s x).map λi=>s.tk.getD i false
  | none=>none
 | none=>none
def xI (x y:cH):Bool:=decide (x.many>y.many)||(x.many==y.many&&decide (x.st<y.st))
def Zv (ss:List cH):Nat->Option Nat
 | 0=>none
 | k+1=>match ss[k]? with
  | some x=>if x.many<x.tk.length then(match Zv ss k with
   | some j=>match ss[j]? with
    | some y=>if xI x y then some k else some j
    | none=>some k
   | none=>some k)else Zv ss k
  | none=>Zv ss k
def m9 (ss:List cH):Option Nat:=Zv ss ss.length
def ji (c:bW)(ss:List cH):Option (Nat×List cH):=match m9 ss with
 | some k=>match ss[k]? with
  | some s=>match low s with
   | some i=>some (at_ c s i,ss.set k (s.put i true))
   | none=>none
  | none=>none
 | none=>none
def Q8 (c:bW):Nat->List cH->List Nat×List cH
 | 0,ss=>([],ss)
 | m+1,ss=>match ji c ss with
  | some (x,ss')=>let r:=Q8 c m ss';(x::r.1,r.2)
  | none=>([],ss)
def iS (c:bW)(ss:List cH)(xs:List Int):Int:=
 if xs.any (λx=>(eI c ss x).isNone)then 8 else if xs.any (λx=>eI c ss x==some false) || !decide xs.Nodup then 9 else 0
def fM (c:bW)(ss:List cH)(x:Int):List cH:=match lj c ss x with
 | some k=>match ss[k]? with
  | some s=>match obj c s x with
   | some i=>ss.set k (s.put i false)
   | none=>ss
  | none=>ss
 | none=>ss
def cK (ss:List cH):List cH:=ss.filter λs=>s.many != 0
def Z7 (ss:List cH):List Nat:=(ss.filter λs=>s.many==0).map (·.st)
def rz (c:bW)(ss:List cH)(x:Int):Option Nat:=match lj c ss x with
 | some k=>match ss[k]? with
  | some s=>(idx c s x).map (at_ c s)
  | none=>none
 | none=>none
def iy (c:bW)(ss:List cH)(st:Nat):List cH:=ss.takeWhile (λs=>s.st<st)++⟨st,List.replicate c.n false⟩::ss.dropWhile (λs=>s.st<st)
def GW (c:bW)(ss:List cH)(x:Nat):Int:=if ss.any (λs=>max s.st x-min s.st x<c.aF)then 9 else 0
def Kt (ss:List cH):Nat:=(ss.map λs=>s.tk.length-s.many).sum
structure fQ where
 low:Nat
 bs:List (List Int)
 deriving DecidableEq
def fY {α:Type}(l:List α)(a b:Nat)(v:α):List α:=l.mapIdx λi x=>if a<=i/\i<b then v else x
theorem Qj {α:Type}(l:List α)(a b:Nat)(v:α):(fY l a b v).length=l.length:=by simp[fY]
theorem Hm {α:Type}(l:List α)(a b:Nat)(v:α)(i:Nat):(fY l a b v)[i]?=(l[i]?).map λx=>if a<=i/\i<b then v else x:=by
 simp[fY,List.getElem?_mapIdx]
theorem PJ {α:Type}{l:List α}{a b:Nat}{v:α}(h1:a<=b)(h2:b<=l.length):fY l a b v=l.take a++List.replicate (b-a) v++l.drop b:=by
 apply zz;intro i;rw[Hm];rcases l8 i a with h|h
 ·rw[km,zd aE,zX,zB h];have:l[i]?=some l[i]:=cM O;rw[this];simp;omega
 rcases l8 i b with h'|h'
 ·rw[km,zo aE,zd aE];have:l[i]?=some l[i]:=cM O;rw[this];simp[nk,h,h'];omega
 ·rw[zo aE];have e:i-(l.take a++List.replicate (b-a) v).length=i-b:=by simp;omega
  rw[e,zp,show b+(i-b)=i by omega];cases l[i]?<;>simp;omega
def gA (l:List Nat)(a b v:Nat):Nat:=((l.drop a).take (b-a)).count v
end Go.Ar
namespace Go.Bu
def full (S:Nat->Bool)(k q:Nat):Bool:=(List.range (2^k)).all λi=>S (q*2^k+i)
def can (S:Nat->Bool)(k q:Nat):Bool:=full S k q && !full S (k+1) (q/2)
theorem Hj {k q i:Nat}(hi:i<2^k):(q*2^k+i)/2^k=q:=by
 rw[Nat.add_comm,Nat.add_mul_div_right _ _ (lb k),Nat.div_eq_of_lt hi,zG]
theorem GQ {k q p:Nat}(h:p/2^k=q):p=q*2^k+p%2^k:=by
 rw[←h,Nat.mul_comm];exact(Nat.div_add_mod p (2^k)).symm
theorem Qb {k q p:Nat}:p/2^k=q↔q*2^k<=p/\p<q*2^k+2^k:=by
 have a:=lb k;constructor
 ·intro h;have:=GQ h;have b:=vK p a;omega
 ·rintro⟨h1,h2⟩;have:p=q*2^k+(p-q*2^k):=by omega
  rw[this];exact Hj O
theorem YP {S:Nat->Bool}{k q:Nat}:full S k q=true↔∀p,p/2^k=q->S p=true:=by
 simp only[full,kN,zU];constructor
 ·intro h p hp;have:=h (p%2^k) (vK _ (lb k))
  rwa [←GQ hp]at this
 ·intro h i hi;exact h _ (Hj hi)
theorem ZM {S:Nat->Bool}{k q:Nat}:can S k q=true↔full S k q=true/\¬full S (k+1) (q/2)=true:=by
 simp[can]
theorem tD {p k j:Nat}(h:k<=j):p/2^j=p/2^k/2^(j-k):=by
 rw[tF,←Nat.pow_add]
 congr 2;omega
theorem JO {S:Nat->Bool}{k j q:Nat}(h:k<=j)(hf:full S j (q/2^(j-k))=true):full S k q=true:=by
 rw[YP]at hf ⊢;intro p hp;exact hf p (by rw[tD h,hp])
theorem Ip {q k j:Nat}(h:k<j):q/2/2^(j-(k+1))=q/2^(j-k):=by
 rw[tF]
 congr 1
 rw[←Nat.pow_succ']
 congr 1;omega
theorem QU {S:Nat->Bool}{k j q r p:Nat}(hk:can S k q=true)(hj:full S j r=true)(hp:p/2^k=q)(hr:p/2^j=r)(h:k<j):False:=by
 rw[ZM]at hk;refine hk.2 (JO (j:=j) O ?_);rw[Ip h,←hp,←tD (rU h),hr];exact hj
theorem Gq {S:Nat->Bool}{k j q r p:Nat}(hk:can S k q=true)(hj:can S j r=true)(hp:p/2^k=q)(hr:p/2^j=r):k=j/\q=r:=by
 rcases qx k j with h|h|h
 ·exact(QU hk (ZM.1 hj).1 hp hr h).elim
 ·subst h;exact⟨rfl,hp.symm.trans hr⟩
 ·exact(QU hj (ZM.1 hk).1 hr hp h).elim
def Bounded (S:Nat->Bool)(n:Nat):Prop:=∀p,S p=true->p<n
theorem ZQ {S:Nat->Bool}{n k q:Nat}(hb:Bounded S n)(h:full S k q=true):q*2^k+2^k<=n:=by
 rw[YP]at h;have a:=lb k;have:=hb _ (h (q*2^k+(2^k-1)) (Hj O));omega
theorem M3 {S:Nat->Bool}{p:Nat}:full S 0 p=S p:=by simp[full]
theorem VS {S:Nat->Bool}{n p:Nat}(hb:Bounded S n)(hp:S p=true):∃k,can S k (p/2^k)=true:=by
 apply Classical.byContradiction;intro hno;have all:∀k,full S k (p/2^k)=true:=by
  intro k
  induction k with
  | zero=>simpa[M3]using hp
  | succ k ih=>
   apply Classical.byContradiction;intro hn;refine hno ⟨k,ZM.2 ⟨ih,?_⟩⟩;rw[tF,←mW];exact hn
 have:=ZQ hb (all n);have:=@Nat.lt_two_pow_self n;omega
theorem KV {S:Nat->Bool}{k q p:Nat}(h:can S k q=true)(hp:p/2^k=q):S p=true:=YP.1 (ZM.1 h).1 p hp
def del (S:Nat->Bool)(k q:Nat):Nat->Bool:=λp=>S p && !(p/2^k==q)
def ins (S:Nat->Bool)(k q:Nat):Nat->Bool:=λp=>S p||p/2^k==q
theorem VJ {S:Nat->Bool}{k q p:Nat}:del S k q p=true↔S p=true/\p/2^k≠q:=by simp[del]
theorem VH {S:Nat->Bool}{k q p:Nat}:ins S k q p=true↔S p=true\/p/2^k=q:=by simp[ins]
theorem Ky (k q:Nat):(q*2^k)/2^k=q:=DB _ (lb k)
theorem D0 {S:Nat->Bool}{k q j r:Nat}(hc:can S k q=true):can (del S k q) j r=true↔can S j r=true/\¬(j=k/\r=q):=by
 constructor
 ·intro h;obtain⟨i,s⟩:=ZM.1 h;rw[YP]at i;have u:full S j r=true:=YP.2 λp b=>(VJ.1 (i p b)).1;refine⟨ZM.2 ⟨u,λg=>s (YP.2 λp b=>?_)⟩,?_⟩
  ·refine VJ.2 ⟨YP.1 g p b,λd=>?_⟩;rcases l8 k (j+1)with m|m
   ·exact QU hc g d b m
   ·-- the greater Zw lies in the block
    have a:=Ky j r;have w:=(VJ.1 (i _ a)).2;apply w;rw[tD (show j+1<=k by omega)];have e:r*2^j/2^(j+1)=r/2:=by
     rw[mW,←tF,a]
    rw[e,←b,←tD (show j+1<=k by omega),d]
  ·rintro⟨rfl,rfl⟩;exact(VJ.1 (i _ (Ky _ _))).2 (Ky _ _)
 ·rintro⟨h,hne⟩;obtain⟨i,s⟩:=ZM.1 h;refine ZM.2 ⟨YP.2 λp b=>VJ.2 ⟨YP.1 i p b,λd=>hne ?_⟩,λg=>s (YP.2 λp b=>(VJ.1 (YP.1 g p b)).1)⟩;obtain⟨m,x⟩:=Gq h hc b d;exact⟨m,x⟩
theorem yE {S:Nat->Bool}{k q j r:Nat}(hd:∀p,p/2^k=q->S p=false)(hup:¬full (ins S k q) (k+1) (q/2)=true) :
 can (ins S k q) j r=true↔can S j r=true\/(j=k/\r=q):=by
 have g:can (ins S k q) k q=true:=ZM.2 ⟨YP.2 λp d=>VH.2 (.inr d),hup⟩;constructor
 ·intro h;by_cases he:j=k/\r=q
  ·exact .inr he
  left;obtain⟨i,m⟩:=ZM.1 h;refine ZM.2 ⟨YP.2 λp d=>?_,λa=>m (YP.2 λp d=>VH.2 (.inl (YP.1 a p d)))⟩;rcases VH.1 (YP.1 i p d)with h1|h1
  ·exact h1
  ·exact(he (Gq h g d h1)).elim
 ·rintro(h|⟨rfl,rfl⟩)
  ·obtain⟨i,m⟩:=ZM.1 h;refine ZM.2 ⟨YP.2 λp d=>VH.2 (.inl (YP.1 i p d)),λa=>m (YP.2 λp d=>?_)⟩;rcases VH.1 (YP.1 a p d)with h1|h1
   ·exact h1
   ·rcases l8 k (j+1)with h2|h2
    ·refine(hup (JO (j:=j+1) O ?_)).elim;have e:q/2^(j+1-k)=r/2:=by rw[←h1,←tD (show k<=j+1 by omega),d]
     rw[Ip h2,e];exact a
    ·have b:=Ky j r;have s:=YP.1 i _ b;have e:r*2^j/2^(j+1)=r/2:=by
      rw[mW,←tF,b]
     have:r*2^j/2^k=q:=by
      rw[tD h2,e,←d,←tD h2,h1]
     rw[hd _ this]at s;cases s
  ·exact g
def il (q:Nat):Nat:=if q%2=0 then q+1 else q-1
theorem J0 (q:Nat):il q/2=q/2:=by unfold il;split<;>omega
theorem MZ (q:Nat):il q≠q:=by unfold il;split<;>omega
theorem WkN {q r:Nat}(h:r/2=q/2):r=q\/r=il q:=by unfold il;split<;>omega
theorem HE {k q p:Nat}:p/2^(k+1)=q/2↔p/2^k=q\/p/2^k=il q:=by
 rw[mW,←tF];constructor
 ·intro h;exact WkN h
 ·rintro(h|h)<;>rw[h]
  exact J0 q
theorem WmM {T:Nat->Bool}{k q:Nat}(hd:∀p,p/2^k=q->T p=false)(hm:¬can T k (il q)=true):¬full (ins T k q) (k+1) (q/2)=true:=by
 intro hup;have a:full T k (il q)=true:=YP.2 λp b=>by
  rcases VH.1 (YP.1 hup p (HE.2 (.inr b)))with h|h
  ·exact h
  ·exact(MZ q (b.symm.trans h)).elim
 have:full T (k+1) (il q/2)=true:=Classical.byContradiction λh=>hm (ZM.2 ⟨a,h⟩);rw[J0]at this;have d:=YP.1 this (q*2^k) (HE.2 (.inl (Ky k q)));rw[hd _ (Ky k q)]at d;cases d
def dJ (S:Nat->Bool)(a b:Nat):Nat->Bool:=λp=>S p||(decide (a<=p)&&decide (p<b))
def take (S:Nat->Bool)(a b:Nat):Nat->Bool:=λp=>S p && !(decide (a<=p)&&decide (p<b))
theorem Kj {S:Nat->Bool}{a b p:Nat}:dJ S a b p=true↔S p=true\/(a<=p/\p<b):=by simp[dJ]
theorem Kg {S:Nat->Bool}{a b p:Nat}:take S a b p=true↔S p=true/\¬(a<=p/\p<b):=by
 simp[take];intro _;omega
theorem ux {S T:Nat->Bool}(h:∀p,S p=true↔T p=true):S=T:=by
 funext p
 have:=h p;cases hs:S p<;>cases ht:T p<;>simp_all
theorem Rc (S:Nat->Bool)(k q:Nat):ins S k q=dJ S (q*2^k) (q*2^k+2^k):=
 ux λp=>by rw[VH,Kj,Qb]
theorem WhC {S:Nat->Bool}{a b c:Nat}(h1:a<=b)(h2:b<=c):dJ (dJ S a b) b c=dJ S a c:=
 ux λp=>by simp only[Kj];cases S p<;>simp<;>omega
theorem M4 (S:Nat->Bool)(a:Nat):dJ S a a=S:=ux λp=>by simp only[Kj];cases S p<;>simp<;>omega
theorem PR (S:Nat->Bool)(a:Nat):take S a a=S:=ux λp=>by simp only[Kg];cases S p<;>simp<;>omega
def iR (n:Nat)(S:Nat->Bool):Nat:=(List.range n).countP S
theorem OR (k m:Nat)(f:Nat->Bool):(List.range (m*2^k)).countP (λp=>f (p/2^k))=2^k*(List.range m).countP f:=by
 induction m with
 | zero=>simp
 | succ m ih=>
  rw[Nat.succ_mul,List.range_add,uV,ih,List.countP_map,j7,uV];have:((List.range (2^k)).countP ((λp=>f (p/2^k))∘λx=>m*2^k+x))=2^k*(if f m then 1 else 0):=by
   have e:∀x∈List.range (2^k),((λp=>f (p/2^k))∘λx=>m*2^k+x) x=f m:=by
    intro x a;simp only[Function.comp];rw[Hj (zU.1 a)]
   rw[Aw (q:=λ_=>f m) (λx a=>by rw[e x a])];cases f m<;>simp
  rw[this,Nat.mul_add];simp only[qR,List.countP_nil,zG]
theorem L1 {n m:Nat}{S:Nat->Bool}(h:n<=m)(hb:∀p,S p=true->p<n):(List.range m).countP S=(List.range n).countP S:=by
 obtain⟨d,rfl⟩:=Nat.exists_eq_add_of_le h;rw[List.range_add,uV,List.countP_map];have:(List.range d).countP (S∘λx=>n+x)=0:=by
  rw[List.countP_eq_zero];intro x _ hx;have:n+x<n:=hb _ hx;omega
 omega
def many (n:Nat)(S:Nat->Bool)(k:Nat):Nat:=(List.range n).countP (can S k)
def kT (n:Nat)(S:Nat->Bool):Nat->Nat
 | 0=>0
 | k+1=>kT n S k+many n S k*2^k
theorem im {α:Type}(l:List α)(f g h:α->Bool)(e:∀x∈l,(f x).toNat+(g x).toNat=(h x).toNat):l.countP f+l.countP g=l.countP h:=by
 induction l with
 | nil=>rfl
 | cons x l ih=>
  have a:=e x aA;have:=ih λy b=>e y (by simp[b]);simp only[qR];cases hf:f x<;>cases hg:g x<;>cases hh:h x<;>simp[hf,hg,hh]at a ⊢ <;> omega
def rY (S:Nat->Bool)(K p:Nat):Bool:=(List.range K).any λk=>can S k (p/2^k)
theorem Gn {n:Nat}{S:Nat->Bool}(hb:Bounded S n):∀K,kT n S K=(List.range n).countP (rY S K)
 | 0=>by
  simp only[kT]
  symm
  rw[List.countP_eq_zero];simp[rY]
 | K+1=>by
  rw[kT,Gn hb K];have hm:many n S K*2^K=(List.range n).countP (λp=>can S K (p/2^K)):=by
   have a:=OR K n (can S K);have b:n<=n*2^K:=Av _ (lb K);rw[L1 b (λp d=>hb p (KV d rfl))]at a;rw[a,Nat.mul_comm];rfl
  rw[hm];apply im;intro p _;have e:rY S (K+1) p=(rY S K p||can S K (p/2^K)):=by
   simp[rY,j7,List.any_append]
  rw[e];cases a:rY S K p<;>cases b:can S K (p/2^K)<;>simp
  simp only[rY,j9,zU]at a;obtain⟨k,i,g⟩:=a;have:=Gq g b rfl rfl;omega
theorem Rk {n K:Nat}{S:Nat->Bool}(hb:Bounded S n)(hK:n<2^K):kT n S K=iR n S:=by
 rw[Gn hb];apply Aw;intro p _;simp only[rY,j9,zU];constructor
 ·rintro⟨k,_,a⟩;exact KV a rfl
 ·intro hp;obtain⟨k,a⟩:=VS hb hp;refine⟨k,?_,a⟩;have:=ZQ hb (ZM.1 a).1;apply Classical.byContradiction;intro hk;have:2^K<=2^k:=oM O O;omega
end Go.Bu
namespace Go.Vc
open Go
abbrev Hp:=Array Obj
abbrev _root_.aN:=Int->Hp->Prop
abbrev _root_.aO:=Bool->Hp->Prop
abbrev _root_.aP:=Hp->Prop
structure Sl where
 a:Option Addr
 len:Nat
 cap:Nat
structure Fv where
 f:Nat
 first:Array Value
 captured:Array Value
inductive CK where
 | i (k:IntKind)|b|p|s|m|str|fn|raw|ag (n:Nat)|ad
 deriving DecidableEq
abbrev _root_.bN:CK:=.i .i64
@[reducible] def jH:Nat->Type
 | 0=>Unit
 | 1=>Int
 | n+2=>Int×jH (n+1)
def jH.vs:(n:Nat)->jH n->List Value
 | 0,_=>[]
 | 1,x=>[.int .i64 x]
 | n+2,x=>.int .i64 x.1::jH.vs (n+1) x.2
@[reducible] def CK.T:CK->Type
 | .i _=>Int
 | .b=>Bool
 | .p=>Option Addr
 | .s=>Sl
 | .m=>Option Nat
 | .str=>ByteArray
 | .fn=>Fv
 | .raw=>Value
 | .ag n=>jH n
 | .ad=>Addr
def CK.v:(c:CK)->c.T->Value
 | .i k,y=>.int k y
 | .b,x=>.bool x
 | .p,y=>.pointer y
 | .s,y=>.slice y.a y.len y.cap
 | .m,y=>.map y
 | .str,x=>.string x
 | .fn,x=>.func (.func x.f) x.first x.captured
 | .raw,y=>y
 | .ag n,y=>.agg (jH.vs n y).toArray
 | .ad,y=>.pointer (some y)
inductive SK where
 | one (c:CK)
 | agg (cs:List CK)
def SK.ks:SK->List CK
 | .one c=>[c]
 | .agg cs=>cs
def iJ:List SK->List CK
 | []=>[]
 | s::ss=>s.ks++iJ ss
@[reducible] def eP:List CK->Type
 | []=>Hp->Prop
 | c::cs=>c.T->eP cs
@[reducible] def pe:List CK->Type
 | []=>Hp->Nat
 | c::cs=>c.T->pe cs
def Sat:(ks:List CK)->eP ks->List Value->Hp->Prop
 | [],R,[],h=>R h
 | c::cs,R,v::vs,h=>∃x:c.T,v=c.v x/\Sat cs (R x) vs h
 | _,_,_,_=>False
def eP.le:(ks:List CK)->eP ks->eP ks->Prop
 | [],R,R'=>∀h,R h->R' h
 | c::cs,R,R'=>∀x:c.T,eP.le cs (R x) (R' x)
def lam:(ks:List CK)->(List Value->Hp->Prop)->eP ks
 | [],K=>K []
 | c::cs,K=>λx=>lam cs λvs=>K (c.v x::vs)
def wH:(n:Nat)->List Value->(jH n->Prop)->Prop
 | 0,[],K=>K ()
 | 1,[.int .i64 x],K=>K x
 | n+2,.int .i64 x::vs,K=>wH (n+1) vs λy=>K (x,y)
 | _,_,_=>False
theorem FH:∀{n:Nat} {vs:List Value} {K:jH n->Prop},wH n vs K->∃x,vs=jH.vs n x/\K x:=by
 intro n vs K h;unfold wH at h;split at h
 ·exact⟨(),rfl,h⟩
 ·exact⟨_,rfl,h⟩
 ·obtain⟨y,rfl,a⟩:=FH h;exact⟨_,rfl,a⟩
 ·exact h.elim
def pq:(c:CK)->Value->(c.T->Prop)->Prop
 | .i k,.int k' n,K=>if k=k' then K n else False
 | .b,.bool x,K=>K x
 | .p,.pointer a,K=>K a
 | .s,.slice a l c,K=>K ⟨a,l,c⟩
 | .m,.map r,K=>K r
 | .str,.string s,K=>K s
 | .fn,.func (.func f) x y,K=>K ⟨f,x,y⟩
 | .raw,v,K=>K v
 | .ag n,.agg cs,K=>wH n cs.toList K
 | .ad,.pointer (some a),K=>K a
 | _,_,_=>False
def wP:(ks:List CK)->eP ks->List Value->Hp->Prop
 | [],R,[],h=>R h
 | c::cs,R,v::vs,h=>pq c v λx=>wP cs (R x) vs h
 | _,_,_,_=>False
theorem Ux {c:CK}{v:Value}{K:c.T->Prop}(h:pq c v K):∃x,v=c.v x/\K x:=by
 cases c<;>cases v<;>simp only[pq]at h<;>try exact h.elim
 case i.int k k' n=>split at h<;>first|exact h.elim | (rename_i e;subst e;exact⟨n,rfl,h⟩)
 case fn.func f x y=>cases f<;>simp only[pq]at h<;>first|exact h.elim|exact⟨⟨_,x,y⟩,rfl,h⟩
 case b.bool x=>exact⟨x,rfl,h⟩
 case p.pointer a=>exact⟨a,rfl,h⟩
 case s.slice a l c=>exact⟨⟨a,l,c⟩,rfl,h⟩
 case m.map r=>exact⟨r,rfl,h⟩
 case str.string s=>exact⟨s,rfl,h⟩
 case ad.pointer p=>cases p<;>simp only[pq]at h<;>first|exact h.elim|exact⟨_,rfl,h⟩
 case ag.agg n cs=>obtain⟨x,e,d⟩:=FH h;exact⟨x,by simp only[CK.v,←e],d⟩
 all_goals exact⟨_,rfl,h⟩
theorem IC:∀(n:Nat) (x:jH n) (K:jH n->Prop),wH n (jH.vs n x) K=K x
 | 0,_,_=>rfl
 | 1,_,_=>rfl
 | n+2,x,K=>IC (n+1) x.2 _
theorem Nr (c:CK)(x:c.T)(K:c.T->Prop):pq c (c.v x) K=K x:=by
 cases c<;>simp[pq,CK.v]
 exact iff_of_eq (IC _ _ _)
theorem yA:∀{ks:List CK} {R:eP ks} {vs:List Value} {h:Hp},wP ks R vs h->Sat ks R vs h
 | [],_,[],_,h=>h
 | _::_,_,_::_,_,h=>by
  obtain⟨x,e,hx⟩:=Ux h;exact⟨x,e,yA hx⟩
 | [],_,_::_,_,h=>h.elim
 | _::_,_,[],_,h=>h.elim
theorem Sat.mono:∀{ks:List CK} {R R':eP ks},eP.le ks R R'->∀{vs:List Value} {h:Hp},Sat ks R vs h->Sat ks R' vs h
 | [],_,_,hl,[],_,h=>hl _ h
 | _::_,_,_,hl,_::_,_,⟨x,e,h⟩=>⟨x,e,Sat.mono (hl x) h⟩
 | [],_,_,_,_::_,_,h=>h.elim
 | _::_,_,_,_,[],_,h=>h.elim
theorem U4:∀{ks:List CK} {K:List Value->Hp->Prop} {vs:List Value} {h:Hp},Sat ks (lam ks K) vs h->K vs h
 | [],_,[],_,h=>h
 | _::_,K,v::vs,h,hs=>by
  obtain⟨x,rfl,h'⟩:=hs;exact U4 (K:=λvs=>K (CK.v _ x::vs)) h'
 | [],_,_::_,_,h=>h.elim
 | _::_,_,[],_,h=>h.elim
abbrev Env:=Nat->Option Value
def Env.put (ρ:Env)(d:Nat)(v:Value):Env:=λi=>bif Nat.beq i d then some v else ρ i
def Env.iQ (ρ:Env):Option Nat->Value->Env
 | some d,v=>ρ.put d v
 | none,_=>ρ
def Env.fA (ρ:Env)(ds:List Nat):Env:=λi=>bif ds.contains i then none else ρ i
def ev (ρ:Env):Operand->Option Value
 | .tmp t=>ρ t
 | .const v=>some v
 | .global g=>some (.pointer (some ⟨g,0,none⟩))
 | .func f=>some (.func (.func f) #[] #[])
def wv (o:Option Value)(K:Value->Prop):Prop:=match o with|some v=>K v|none=>False
def qL (ρ:Env):List Operand->Option (List Value)
 | []=>some []
 | o::os=>match ev ρ o,qL ρ os with|some v,some vs=>some (v::vs)|_,_=>none
def cell (h:Hp)(a:Addr):Option Value:=
 match h[a.block]? with
 | some (.cells c _ _)=>if a.spot.isSome then none else c[a.off]?
 | _=>none
def oI (h:Hp)(a:Addr):Bool:=
 match h[a.block]? with
 | some (.cells _ _ (lo,hi))=>lo<=a.off&&a.off<hi
 | _=>false
def kx (h:Hp)(a:Addr)(v:Value):Hp:=
 h.modify a.block fun
  | .cells c elem frozen=>.cells (if a.spot.isSome then c else c.setIfInBounds a.off v) elem frozen
  | o=>o
def fJ (k:IntKind)(a:Addr)(h:Hp)(K:Int->Prop):Prop:=∃n,cell h a=some (.int k n)/\K n
def ko (a:Addr)(h:Hp)(K:Bool->Prop):Prop:=∃n,cell h a=some (.bool n)/\K n
def fW (a:Addr)(h:Hp)(K:Option Addr->Prop):Prop:=∃n,cell h a=some (.pointer n)/\K n
def jn (a:Addr)(h:Hp)(K:Sl->Prop):Prop:=∃n:Sl,cell h a=some (.slice n.a n.len n.cap)/\K n
def mQ (a:Addr)(h:Hp)(K:Option Nat->Prop):Prop:=∃n,cell h a=some (.map n)/\K n
def vZ (a:Addr)(h:Hp)(K:ByteArray->Prop):Prop:=∃n,cell h a=some (.string n)/\K n
def Bm (a:Addr)(h:Hp)(K:Fv->Prop):Prop:=∃n:Fv,cell h a=some (.func (.func n.f) n.first n.captured)/\K n
def wZ (a:Addr)(h:Hp)(K:Value->Prop):Prop:=∃n,cell h a=some n/\K n
def LW (n:Nat)(a:Addr)(h:Hp)(K:jH n->Prop):Prop:=∃x,cell h a=some (CK.v (.ag n) x)/\K x
def BB (a:Addr)(h:Hp)(K:Addr->Prop):Prop:=∃x,cell h a=some (.pointer (some x))/\K x
def yd:(c:CK)->Addr->Hp->(c.T->Prop)->Prop
 | .i k,a,h,K=>fJ k a h K
 | .b,a,h,K=>ko a h K
 | .p,a,h,K=>fW a h K
 | .s,a,h,K=>jn a h K
 | .m,a,h,K=>mQ a h K
 | .str,a,h,K=>vZ a h K
 | .fn,a,h,K=>Bm a h K
 | .raw,a,h,K=>wZ a h K
 | .ag n,a,h,K=>LW n a h K
 | .ad,a,h,K=>BB a h K
def oo:List CK->Addr->Nat->Hp->(List Value->Prop)->Prop
 | [],_,_,_,K=>K []
 | c::cs,a,i,h,K=>yd c (a.add i) h λx=>oo cs a (i+1) h λvs=>K (c.v x::vs)
def kI (v:Value)(t:TypeId)(vs zs:List Value)(b:Bool):Prop:=match b with
 | true=>v=.iface t (.agg vs.toArray)
 | false=>vs=zs/\(v=.nilIface\/∃t' u,v=.iface t' u/\t'≠t)
def xm (v:Value)(t:TypeId)(zs:List Value):List CK->List Value->(List Value->Bool->Prop)->Prop
 | [],acc,K=>∃b:Bool,kI v t acc zs b/\K acc b
 | c::cs,acc,K=>∃x:c.T,xm v t zs cs (acc++[c.v x]) K
theorem xm.out {v:Value}{t:TypeId}{zs:List Value}:∀{cs:List CK} {acc:List Value} {K:List Value->Bool->Prop},xm v t zs cs acc K->∃vs b,kI v t vs zs b/\K vs b
 | [],acc,K,⟨b,h1,h2⟩=>⟨acc,b,h1,h2⟩
 | c::cs,acc,K,⟨x,h⟩=>xm.out h
def jN (v:Value):Prop:=v=.nilIface\/∃t u,v=.iface t u
def lM:Value->Bool
 | .nilIface=>true
 | _=>false
def O1 (v:Value)(A:Prop):Prop:=match v with
 | .agg _=>False
 | .tuple _=>False
 | _=>A
def Ak:List Value->Prop->Prop
 | [],A=>A
 | v::vs,A=>O1 v (Ak vs A)
def bS (p:Option Addr)(K:Addr->Prop):Prop:=∃a,p=some a/\K a
def Ar (k:IntKind)(e:Int)(K:Int->Prop):Prop:=K (k.wrap e)
def Nz (y:Int)(A:Prop):Prop:=y≠0/\A
def Nn (y:Int)(A:Prop):Prop:=0<=y/\A
def Ix (base:Option Addr)(len:Nat)(i:Int)(sz:Nat)(K:Addr->Prop):Prop:=∃a,base=some a/\0<=i/\i<(len:Int)/\K (a.add (i.toNat*sz))
def oF (a:Addr)(len:Nat)(i:Int)(sz:Nat)(K:Addr->Prop):Prop:=0<=i/\i<(len:Int)/\K (a.add (i.toNat*sz))
def D6 (s:ByteArray)(i:Int)(K:Int->Prop):Prop:=∃b,0<=i/\s[i.toNat]?=some b/\K (b.toNat:Int)
def If (b:Bool)(A B:Prop):Prop:=match b with
 | true=>A
 | false=>B
theorem If.t {b:Bool}{A B:Prop}(h:If b A B)(e:b=true):A:=by subst e;exact h
theorem If.f {b:Bool}{A B:Prop}(h:If b A B)(e:b=false):B:=by subst e;exact h
theorem If.mk {b:Bool}{A B:Prop}(h1:b=true->A)(h2:b=false->B):If b A B:=by cases b;exact h2 rfl;exact h1 rfl
def Nw (o:Obj)(h:Hp)(K:Addr->Hp->Prop):Prop:=K ⟨h.size,0,none⟩ (h.push o)
def dG (a:Addr)(v:Value)(h:Hp)(K:aP):Prop:=(cell h a).isSome=true/\oI h a=false/\K (kx h a v)
def qm (a:Addr)(h:Hp):List Value->Nat->(Hp->Prop)->Prop
 | [],_,K=>K h
 | v::vs,i,K=>dG (a.add i) v h λh'=>qm a h' vs (i+1) K
def eX (s:Sl)(sz:Nat)(lo hi mx:Int)(K:Sl->Prop):Prop:=
 0<=lo/\lo<=hi/\hi<=mx/\mx<=(s.cap:Int)/\K ⟨if mx.toNat=lo.toNat then s.a else s.a.map (·.add (lo.toNat*sz)),hi.toNat-lo.toNat,mx.toNat-lo.toNat⟩
def dL (h:Hp)(r:Nat)(k:IntKind)(c:CK)(l:List (Int×c.T)):Prop:=
 ∃es clk,h[r]?=some (.map es clk)/\es.toList.map (λe=>(e.key,e.val))=l.map (λx=>(Value.int k x.1,c.v x.2)) ∧
  (l.map (·.1)).Nodup/\(es.toList.map (·.born)).Pairwise (· < ·)/\∀e∈es.toList,e.born<clk
def jK (h:Hp)(m:Option Nat)(k:IntKind)(c:CK)(l:List (Int×c.T)):Prop:=
 match m with
 | none=>l=[]
 | some r=>dL h r k c l
def bV {α:Type}(l:List (Int×α))(n:Int):Option α:=(l.find? λx=>x.1==n).map (·.2)
def dF {α:Type}(l:List (Int×α))(n:Int)(v:α):List (Int×α):=
 if l.any (λx=>x.1==n)then l.map (λx=>if x.1==n then(n,v)else x)else l++[(n,v)]
def cT {α:Type}(l:List (Int×α))(n:Int):List (Int×α):=l.filter λx=>!(x.1==n)
def QC (h h':Hp)(r:Nat):Prop:=h'.size=h.size/\∀b,b≠r->h'[b]?=h[b]?
def Lk (k:IntKind)(c:CK)(m:Option Nat)(n:Int)(h:Hp)(K:Option c.T->Prop):Prop:=∃l,jK h m k c l/\K (bV l n)
def oB (k:IntKind)(c:CK)(m:Option Nat)(h:Hp)(K:Int->Prop):Prop:=∃l,jK h m k c l/\K (l.length:Int)
def kR (k:IntKind)(c:CK)(m:Option Nat)(n:Int)(x:c.T)(h:Hp)(K:aP):Prop:=
 ∃r l,m=some r/\dL h r k c l/\∀h',QC h h' r->dL h' r k c (dF l n x)->K h'
def mh (k:IntKind)(c:CK)(m:Option Nat)(n:Int)(h:Hp)(K:aP):Prop:=
 ∃l,jK h m k c l/\∀h',(∀r,m=some r->QC h h' r)->(m=none->h'=h)->jK h' m k c (cT l n)->K h'
def It (h:Hp)(r:Nat)(k:IntKind)(c:CK)(m:Option Nat)(l todo:List (Int×c.T))(cur:Option (Int×c.T)):Prop:=
 match m with
 | none=>l=[]/\todo=[]/\cur=none/\∃s q y,h[r]?=some (.mapIter none s q y)
 | some b=>∃es clk seen,h[r]?=some (.mapIter (some b) clk seen clk)/\h[b]?=some (.map es clk)/\es.toList.map (λe=>(e.key,e.val))=l.map (λx=>(Value.int k x.1,c.v x.2)) ∧
  (l.map (·.1)).Nodup/\(es.toList.map (·.born)).Pairwise (· < ·)/\(∀e∈es.toList,e.born<clk) ∧
  (es.toList.filter λe=>!seen.contains e.born).map (λe=>(e.key,e.val))=todo.map (λx=>(Value.int k x.1,c.v x.2)) ∧
  (∀x,cur=some x->∃e∈es.toList,seen.back?=some e.born/\e.key=.int k x.1/\e.val=c.v x.2)
def sr (k:IntKind)(c:CK)(m:Option Nat)(h:Hp)(K:Addr->Hp->Prop):Prop:=
 ∃l,jK h m k c l/\∀h',h'.size=h.size+1->(∀b,b<h.size->h'[b]?=h[b]?)->It h' h.size k c m l l none->K ⟨h.size,0,none⟩ h'
def rQ (k:IntKind)(c:CK)(a:Addr)(h:Hp)(A:Prop)(B:Int->c.T->Hp->Prop):Prop:=
 a.off=0/\∃m l todo cur,It h a.block k c m l todo cur/\(todo=[]->A) ∧
  ∀n x,(n,x)∈todo->∀h',QC h h' a.block->It h' a.block k c m l (todo.filter λy=>!(y.1==n)) (some (n,x))->B n x h'
def rX (k:IntKind)(c:CK)(a:Addr)(h:Hp)(K:Int->c.T->Prop):Prop:=
 a.off=0/\∃m l todo n x,It h a.block k c m l todo (some (n,x))/\K n x
def dN:Value->Bool
 | .agg _=>false
 | .tuple _=>false
 | _=>true
def Rd (h:Hp)(a:Option Addr)(xs:List Value):Prop:=
 match a with
 | none=>xs=[]
 | some a=>∀j v,xs[j]?=some v->cell h (a.add j)=some v
def Ei (s:Sl)(h:Hp)(K:ByteArray->Prop):Prop:=∃bs:List Int,bs.length=s.len/\Rd h s.a (bs.map (.int .u8))/\K ⟨(bs.map λn=>UInt8.ofNat n.toNat).toArray⟩
def App (s:Sl)(sz bytes:Nat)(e:Nat)(zs:List Value)(x:Sl)(h:Hp)(K:Sl->Hp->Prop):Prop:=
 ∃xs ys,xs.length=s.len*sz/\ys.length=x.len*sz/\Rd h s.a xs/\Rd h x.a ys/\(∀v∈ys,dN v=true)/\(s.len+x.len)*bytes<=2^46/\s.len+x.len<=2^62 ∧
  (s.len+x.len<=s.cap->match s.a with
   | some a=>qm (a.add (s.len*sz)) h ys 0 λh'=>K ⟨s.a,s.len+x.len,s.cap⟩ h'
   | none=>K ⟨none,s.len+x.len,s.cap⟩ h) ∧
  (¬s.len+x.len<=s.cap->∀c,s.len+x.len<=c->Nw (.cells (xs++ys++(List.replicate (c-(s.len+x.len)) zs).flatten).toArray e) h λa h'=>K ⟨some a,s.len+x.len,c⟩ h')
def qZ (s:Sl)(sz bytes:Nat)(e:Nat)(zs:List Value)(n:Int)(h:Hp)(K:Sl->Hp->Prop):Prop:=
 0<=n/\∃xs,xs.length=s.len*sz/\Rd h s.a xs/\(∀v∈zs,dN v=true)/\(s.len+n.toNat)*bytes<=2^46/\s.len+n.toNat<=2^62/\(n.toNat:Int)*bytes<=2^46 ∧
  (s.len+n.toNat<=s.cap->match s.a with
   | some a=>qm (a.add (s.len*sz)) h (List.replicate n.toNat zs).flatten 0 λh'=>K ⟨s.a,s.len+n.toNat,s.cap⟩ h'
   | none=>K ⟨none,s.len+n.toNat,s.cap⟩ h) ∧
  (¬s.len+n.toNat<=s.cap->∀c,s.len+n.toNat<=c->Nw (.cells (xs++(List.replicate n.toNat zs).flatten++(List.replicate (c-(s.len+n.toNat)) zs).flatten).toArray e) h λa h'=>K ⟨some a,s.len+n.toNat,c⟩ h')
def sU (d:Sl)(sz:Nat)(s:Sl)(h:Hp)(K:aN):Prop:=
 ∃xs,xs.length=min s.len d.len*sz/\Rd h s.a xs/\(∀v∈xs,dN v=true)/\match d.a with
  | some a=>qm a h xs 0 λh'=>K ((min s.len d.len:Nat):Int) h'
  | none=>K ((min s.len d.len:Nat):Int) h
def Bj (s:Sl)(zs:List Value)(h:Hp)(K:aP):Prop:=
 (∀v∈zs,dN v=true)/\match s.a with
  | some a=>qm a h (List.replicate s.len zs).flatten 0 K
  | none=>K h
def Mk (n c:Int)(bytes:Nat)(e:Nat)(zs:List Value)(h:Hp)(K:Sl->Hp->Prop):Prop:=
 0<=n/\n<=c/\(bytes:Int)*c<=2^46/\c<2^62/\Nw (.cells (List.replicate c.toNat zs).flatten.toArray e) h λa h'=>K ⟨some a,n.toNat,c.toNat⟩ h'
def ZP (w w':World):Prop:=w'.os=w.os/\w'.tape=w.tape/\w'.output=w.output/\w.heap.size<=w'.heap.size
def qp:List SK->List Value->List Value
 | [],_=>[]
 | .one _::ss,v::vs=>v::qp ss vs
 | .one _::ss,[]=>undef::qp ss []
 | .agg cs::ss,vs=>.agg (vs.take cs.length).toArray::qp ss (vs.drop cs.length)
def pack (rs:List SK)(vs:List Value):Value:=
 match qp rs vs with
 | [v]=>v
 | l=>.tuple l.toArray
def We (P:Program)(f:Nat)(args:Array Value)(rs:List SK)(h:Hp)(R:eP (iJ rs)):Prop:=
 ∀w:World,w.heap=h->Calls P f args w λe w'=>ZP w w'/\∃vs,e=.returned (pack rs vs)/\Sat (iJ rs) R vs w'.heap
def A7 (P:Program)(v:Value)(name:String)(args:List Value)(rs:List SK)(h:Hp)(R:eP (iJ rs)):Prop:=
 ∃t u f,v=.iface t u/\(∀w,(method (P.types.size+Made.depth) t u name).run P w=.ok (f,u) w)/\(∀xs w,(callFunc f xs).run P w=.ok (.enter f xs) w)/\We P f (u::args).toArray rs h R
def IF (P:Program)(fv:Fv)(args:List Value)(rs:List SK)(h:Hp)(R:eP (iJ rs)):Prop:=
 We P fv.f (fv.first++args.toArray++fv.captured) rs h R
abbrev SK.I:SK:=.one bN
abbrev _root_.Go.Value.I (x:Int):Value:=.int .i64 x
def JB:TypeDesc->Option CK
 | .bool=>some .b
 | .int k=>some (.i k)
 | .string=>some .str
 | .pointer _=>some .p
 | .slice _=>some .s
 | .map _ _=>some .m
 | .func _ _ _=>some .fn
 | .interface _=>some .raw
 | _=>none
mutual
def C5 (P:Program):Nat->TypeId->Option (List CK)
 | 0,_=>none
 | n+1,t=>
  match P.underlying t with
  | some (.struct fs)=>Fu P n fs.toList
  | some (.array m e)=>(C5 P n e).map λl=>(List.replicate m l).flatten
  | some d=>(JB d).map λc=>[c]
  | none=>none
def Fu (P:Program):Nat->List Field->Option (List CK)
 | 0,_=>none
 | _+1,[]=>some []
 | n+1,f::fs=>match C5 P n f.type,Fu P n fs with
  | some a,some b=>some (a++b)
  | _,_=>none
end
def ekD:SK->SK
 | .agg cs=>bif cs.all (· == .i .i64)then .one (.ag cs.length)else .agg cs
 | s=>s
def Uh:TypeDesc->Bool
 | .struct _ | .array _ _=>true
 | _=>false
def kE (P:Program)(t:TypeId):Option SK:=
 match P.underlying t with
 | some d=>bif Uh d then(C5 P 24 t).map .agg else(JB d).map .one
 | none=>none
def pH (P:Program)(t:TypeId):Option SK:=(kE P t).map ekD
def gN (b:Bool)(A:Prop):Prop:=match b with|true=>A|false=>False
theorem WH {b:Bool}{A:Prop}:gN b A↔b=true/\A:=by cases b<;>simp[gN]
def qt (op:BinOp)(k:IntKind)(x y:Int)(K:Value->Prop):Prop:=
 match op with
 | .add=>Ar k (x+y) λz=>K (.int k z)
 | .sub=>Ar k (x-y) λz=>K (.int k z)
 | .mul=>Ar k (x*y) λz=>K (.int k z)
 | .quo=>Nz y (Ar k (x.tdiv y) λz=>K (.int k z))
 | .rem=>Nz y (K (.int k (x.tmod y)))
 | .and=>K (.int k (bits .and k x y))
 | .or=>K (.int k (bits .or k x y))
 | .xor=>K (.int k (bits .xor k x y))
 | .andNot=>K (.int k (bits .andNot k x y))
 | .shl=>Nn y (Ar k (x*2^(min y.toNat k.bits)) λz=>K (.int k z))
 | .shr=>Nn y (K (.int k (x.fdiv (2^(min y.toNat k.bits)))))
 | .eql=>K (.bool (x==y))
 | .neq=>K (.bool (x != y))
 | .lss=>K (.bool (decide (x<y)))
 | .leq=>K (.bool (decide (x<=y)))
 | .gtr=>K (.bool (decide (x>y)))
 | .geq=>K (.bool (decide (x≥y)))
def nD (op:BinOp)(b:Bool)(K:Value->Prop):Prop:=
 match op with
 | .eql=>K (.bool b)
 | .neq=>K (.bool (!b))
 | _=>False
def mg (P:Program)(op:BinOp)(t:TypeId)(x y:Value)(K:Value->Prop):Prop:=
 match P.underlying t,x,y with
 | some (.pointer _),.pointer p,.pointer none=>nD op p.isNone K
 | some (.slice _),.slice p _ _,.slice none 0 0=>nD op p.isNone K
 | some (.map _ _),.map p,.map none=>nD op p.isNone K
 | some (.interface _),x,.nilIface=>jN x/\nD op (lM x) K
 | _,_,_=>False
def mE (P:Program)(op:BinOp)(t:TypeId)(x y:Value)(K:Value->Prop):Prop:=
 match x,y with
 | .int k a,.int k' b=>if k=k' then qt op k a b K else(match op with | .shl=>qt .shl k a b K | .shr=>qt .shr k a b K|_=>False)
 | .bool a,.bool b=>match P.underlying t with
  | some .bool=>nD op (a==b) K
  | _=>False
 | .string a,.string b=>match op with
  | .eql=>K (.bool (a.toList==b.toList))
  | .neq=>K (.bool (!(a.toList==b.toList)))
  | _=>False
 | _,_=>False
def oZ (P:Program)(xs ys:List Value):List Field->Option Bool
 | []=>some true
 | f::fs=>bif f.name == "_" then none else
  match P.underlying f.type,xs[f.offset]?,ys[f.offset]?,oZ P xs ys fs with
  | some (.int _),some (.int k a),some (.int k' b),some r=>if k=k' then some ((a==b)&&r)else none
  | some .bool,some (.bool a),some (.bool b),some r=>some ((a==b)&&r)
  | _,_,_,_=>none
def pY (P:Program)(e:TypeId)(xs ys:List Value):List Nat->Option Bool
 | []=>some true
 | i::is=>match P.underlying e,xs[i]?,ys[i]?,pY P e xs ys is with
  | some (.int _),some (.int k a),some (.int k' b),some r=>if k=k' then some ((a==b)&&r)else none
  | some (.pointer _),some (.pointer p),some (.pointer none),some r=>some (p.isNone&&r)
  | _,_,_,_=>none
def nU (P:Program)(op:BinOp)(t:TypeId)(xs ys:List Value)(K:Value->Prop):Prop:=
 match P.underlying t with
 | some (.struct fs)=>gN (!P.stoodInHeld t && !P.eqGuardType P.depth t) (match oZ P xs ys fs.toList with
  | some b=>nD op b K
  | none=>False)
 | some (.array n e)=>gN (!P.eqGuardType P.depth t&&((P.info? e).isSome&&P.cellsOf e==1)) (match pY P e xs ys (List.range n)with
  | some b=>nD op b K
  | none=>False)
 | _=>False
def vX:Operand->Bool
 | .const (.pointer none)=>true
 | .const (.slice none 0 0)=>true
 | .const (.map none)=>true
 | .const .nilIface=>true
 | _=>false
def w9 (P:Program)(op:BinOp)(t:TypeId)(y:Operand)(vx vy:Value)(K:Value->Prop):Prop:=
 bif vX y then mg P op t vx vy K else match vx,vy with
 | .agg xs,.agg ys=>nU P op t xs.toList ys.toList K
 | vx,vy=>mE P op t vx vy K
def ov (P:Program)(s f:Nat)(K:Field->Prop):Prop:=
 match P.underlying s with
 | some (.struct fs)=>match fs[f]? with
  | some fd=>K fd
  | none=>False
 | _=>False
def mr (P:Program)(t:TypeId)(x:Value)(h:Hp)(K:Value->Prop):Prop:=
 match P.underlying t,x with
 | some (.slice _),.slice _ n _=>K (.int .i64 (n:Int))
 | some .string,.string s=>K (.int .i64 (s.size:Int))
 | some (.array n _),_=>K (.int .i64 (n:Int))
 | some (.map kt et),.map m=>match P.underlying kt,pH P et with
  | some (.int k),some (.one c)=>oB k c m h λz=>K (.int .i64 z)
  | _,_=>False
 | _,_=>False
def xS (P:Program)(t:TypeId)(x i:Value)(ok:Bool)(h:Hp)(K:Value->Prop):Prop:=
 match P.underlying t,x,i with
 | some (.map kt et),.map m,.int k n=>match P.underlying kt,pH P et,P.info? et with
  | some (.int k'),some (.one c),some ti=>match ti.zero with
   | some z=>if k=k' then pq c z λz=>Lk k c m n h λo=>K (bif ok then .tuple #[c.v (o.getD z),.bool o.isSome]else c.v (o.getD z))else False
   | none=>False
  | _,_,_=>False
 | _,_,_=>False
def pz (isMax:Bool):Value->List Value->(Value->Prop)->Prop
 | v,[],K=>K v
 | .int k x,.int _ y::vs,K=>pz isMax (.int k (bif isMax then(if y>x then y else x)else(if y<x then y else x))) vs K
 | _,_,_=>False
def r7 (Zw:Nat->Option (Nat×Nat))(cells:List Value):List (Nat×Value)->Option (List Value)
 | []=>some cells
 | (i,v)::rest=>
  match Zw i with
  | none=>none
  | some (off,size)=>
   if v.cells.size≠size\/off+v.cells.size>cells.length then none
   else r7 Zw (cells.take off++v.cells.toList++cells.drop (off+size)) rest
def H7 (ρ:Env):List (Nat×Operand)->Option (List (Nat×Value))
 | []=>some []
 | (i,o)::os=>match ev ρ o,H7 ρ os with|some v,some vs=>some ((i,v)::vs)|_,_=>none
def CN (P:Program)(fs:Array Field)(i:Nat):Option (Nat×Nat):=match fs[i]? with
 | some f=>match P.info? f.type with
  | some ti=>some (f.offset,ti.size)
  | none=>none
 | none=>none
def wT (P:Program)(t:TypeId):Bool:=match P.underlying t with
 | some (.interface _)=>true
 | _=>false
def wN (P:Program)(fs:Array Field)(i:Nat):Bool:=match fs[i]? with
 | some f=>wT P f.type
 | none=>false
def vS (raw:Nat->Bool):List (Nat×Value)->List (Nat×Value)
 | []=>[]
 | (i,v)::ps=>(i,bif raw i then .agg #[v]else v)::vS raw ps
def mG (raw:Nat->Bool):List (Nat×Value)->Prop->Prop
 | [],A=>A
 | (i,v)::ps,A=>bif raw i then jN v/\mG raw ps A else mG raw ps A
def nY (P:Program)(t:TypeId)(ps:List (Nat×Value))(K:Value->Prop):Prop:=
 match P.info? t,P.underlying t with
 | some ti,some (.struct fs)=>match ti.zero with
  | some z=>mG (wN P fs) ps (match r7 (CN P fs) z.cells.toList (vS (wN P fs) ps)with
   | some cs=>gN (fs.toList.all λf=>(P.info? f.type).isSome) (K (.agg cs.toArray))
   | none=>False)
  | none=>False
 | some ti,some (.array _ e)=>match ti.zero,P.info? e with
  | some z,some te=>match r7 (λi=>some (i*te.size,te.size)) z.cells.toList ps with
   | some cs=>K (.agg cs.toArray)
   | none=>False
  | _,_=>False
 | _,_=>False
def uR (P:Program)(t:TypeId)(cs:List Value)(off:Nat)(K:Value->Prop):Prop:=
 match P.underlying t,P.info? t with
 | some d,some ti=>bif Uh d then K (.agg ((cs.drop off).take ti.size).toArray)else wv (cs[off]?) K
 | _,_=>False
def nZ (P:Program)(t:TypeId)(x:Value)(lo hi mx:Option Value)(K:Value->Prop):Prop:=
 match P.underlying t,x with
 | some (.slice e),.slice a n c=>match P.info? e with
  | some ti=>
   let loV:Option Int:=match lo with|none=>some 0|some (.int .i64 z)=>some z|_=>none
   let hiV:Option Int:=match hi with|none=>some n|some (.int .i64 z)=>some z|_=>none
   let mxV:Option Int:=match mx,hi with|none,_=>some c|some (.int .i64 z),some _=>some z|_,_=>none
   match loV,hiV,mxV with
   | some l,some h,some m=>eX ⟨a,n,c⟩ ti.size l h m λs=>K (.slice s.a s.len s.cap)
   | _,_,_=>False
  | none=>False
 | _,_=>False
def vd (ρ:Env):Option Operand->Option (Option Value)
 | none=>some none
 | some o=>(ev ρ o).map some
def qK (P:Program)(o:Op)(ρ:Env)(h:Hp)(K:Value->Prop):Prop:=
 match o with
 | .move x=>wv (ev ρ x) K
 | .assign x=>wv (ev ρ x) K
 | .pick c x y=>wv (ev ρ c) λv=>match v with
  | .bool true=>wv (ev ρ x) K
  | .bool false=>wv (ev ρ y) K
  | _=>False
 | .load t a=>wv (ev ρ a) λv=>match v,kE P t with
  | .pointer (some a),some (.one c)=>gN (P.info? t).isSome (yd c a h λx=>K (c.v x))
  | .pointer (some a),some (.agg cs)=>gN (P.cellsOf t==cs.length) (gN (P.info? t).isSome (oo cs a 0 h λvs=>K (.agg vs.toArray)))
  | _,_=>False
 | .nilCheck x=>wv (ev ρ x) λv=>match v with
  | .pointer p=>bS p λa=>K (.pointer (some a))
  | .func (.func f) a b=>K (.func (.func f) a b)
  | _=>False
 | .binOp op t x y _=>wv (ev ρ x) λvx=>wv (ev ρ y) λvy=>w9 P op t y vx vy K
 | .unOp op _ x=>wv (ev ρ x) λv=>match op,v with
  | .not,.bool b=>K (.bool (!b))
  | .neg,.int k n=>Ar k (0-n) λz=>K (.int k z)
  | _,_=>False
 | .convert s d x=>wv (ev ρ x) λv=>match P.underlying s,P.underlying d,v with
  | some _,some (.int k),.int _ n=>Ar k n λz=>K (.int k z)
  | some _,some .string,.string x=>K (.string x)
  | some (.slice e),some .string,.slice a n c=>(match P.underlying e with|some (.int .u8)=>Ei ⟨a,n,c⟩ h λs=>K (.string s)|_=>False)
  | _,_,_=>False
 | .fieldAddr s x f=>wv (ev ρ x) λv=>ov P s f λfd=>match v with
  | .pointer (some a)=>gN (P.cellsOf fd.type != 0) (K (.pointer (some (a.add fd.offset))))
  | _=>False
 | .field s x f=>wv (ev ρ x) λv=>ov P s f λfd=>match v with
  | .agg cs=>uR P fd.type cs.toList fd.offset K
  | _=>False
 | .indexAddr t x i=>wv (ev ρ x) λvx=>wv (ev ρ i) λvi=>match P.underlying t,vx,vi with
  | some (.slice e),.slice b n _,.int _ i=>gN (P.info? e).isSome (Ix b n i (P.cellsOf e) λa=>K (.pointer (some a)))
  | some (.array n e),.pointer (some a),.int _ i=>gN (P.info? e).isSome (oF a n i (P.cellsOf e) λa=>K (.pointer (some a)))
  | _,_,_=>False
 | .index t x i=>wv (ev ρ x) λvx=>wv (ev ρ i) λvi=>match P.underlying t,vx,vi with
  | some .string,.string s,.int _ i=>D6 s i λz=>K (.int .u8 z)
  | _,_,_=>False
 | .lookup t x i ok=>wv (ev ρ x) λvx=>wv (ev ρ i) λvi=>xS P t vx vi ok h K
 | .extract t i=>wv (ev ρ t) λv=>match v with
  | .tuple vs=>wv (vs.toList[i]?) K
  | _=>False
 | .makeFunc fn a b=>match qL ρ a.toList,qL ρ b.toList with
  | some va,some vb=>K (.func fn va.toArray vb.toArray)
  | _,_=>False
 | .build t ps=>match H7 ρ ps.toList with
  | some vs=>nY P t vs K
  | none=>False
 | .slice t x lo hi mx=>wv (ev ρ x) λv=>match vd ρ lo,vd ρ hi,vd ρ mx with
  | some lo,some hi,some mx=>nZ P t v lo hi mx K
  | _,_,_=>False
 | .makeInterface t x=>wv (ev ρ x) λv=>gN (P.concrete t) (K (.iface t v))
 | .typeAssert x _ t true=>wv (ev ρ x) λv=>match P.underlying t,P.info? t,kE P t with
  | some (.struct _),some ti,some (.agg cs)=>match ti.zero with
   | some (.agg zs)=>xm v t zs.toList cs [] λvs b=>K (.tuple #[.agg vs.toArray,.bool b])
   | _=>False
  | _,_,_=>False
 | .call c=>match c.callee,qL ρ c.args.toList,c.argTypes.toList with
  | .builtin .len,some [x],[t]=>mr P t x h K
  | .builtin .cap,some [.slice _ _ n],[t]=>(match P.underlying t with|some (.slice _)=>K (.int .i64 (n:Int))|_=>False)
  | .builtin .max,some (x::xs),_=>pz true x xs K
  | .builtin .min,some (x::xs),_=>pz false x xs K
  | _,_,_=>False
 | _=>False
def ug:Op->Bool
 | .move _ | .assign _ | .pick .. | .load _ _ | .nilCheck _ | .binOp .. | .unOp .. | .convert .. | .fieldAddr .. | .field .. | .indexAddr .. | .index .. | .lookup .. | .extract .. | .makeFunc .. | .build .. | .slice .. | .makeInterface .. => true
 | .typeAssert _ _ _ ok=>ok
 | .call c=>match c.callee with | .builtin .len | .builtin .cap | .builtin .max | .builtin .min=>true|_=>false
 | _=>false
theorem V6 {P:Program}{t:Nat}{i:TypeInfo}(hi:P.info? t=some i)(w:World):(typeInfo t).run P w=.ok i w:=by
 simp[typeInfo,hi]
theorem QR {P:Program}{t:Nat}(h:(P.info? t).isSome=true)(w:World):(sizeOf t).run P w=.ok (P.cellsOf t) w:=by
 obtain⟨i,a⟩:=qC.1 h;simp[sizeOf,typeInfo,a,Program.cellsOf]
theorem VE {P:Program}{t:Nat}{i:TypeInfo}{z:Value}(hi:P.info? t=some i)(hz:i.zero=some z)(w:World):(zeroValue t).run P w=.ok z w:=by
 simp[zeroValue,typeInfo,hi,hz]
theorem ON {P:Program}{op:BinOp}{t:Nat}{k:IntKind}{x y:Int}{K:Value->Prop}(h:qt op k x y K)(w:World) :
 ∃v,(binOp op t (.int k x) (.int k y)).run P w=.ok v w/\K v:=by
 cases op<;>simp only[qt,Ar,Nz,Nn]at h
 all_goals first
  | (refine⟨_,?_,h⟩;simp[binOp,Op.intArith,Op.intCmp,Op.intBits,bits];done)
  | (obtain⟨b,a⟩:=h;refine⟨_,?_,a⟩;simp[binOp,Op.intDiv,b];done)
  | (obtain⟨b,a⟩:=h;refine⟨_,?_,a⟩;simp[binOp,Op.shift,Int.not_lt.2 b];done)
theorem UD {P:Program}{op:BinOp}{t:Nat}{x y:Value}{b:Bool}{K:Value->Prop}(h:nD op b K)(w:World)
 (hb:∀op,(op=.eql\/op=.neq)->binOp op t x y=if op=.eql then(do pure (.bool (←Op.equal t x y)))else(do pure (.bool (!(←Op.equal t x y)))))
 (he:(Op.equal t x y).run P w=.ok b w):∃v,(binOp op t x y).run P w=.ok v w/\K v:=by
 cases op<;>simp only[nD]at h
 case eql=>exact⟨_,by rw[hb .eql (.inl rfl)];simp[he],h⟩
 case neq=>exact⟨_,by rw[hb .neq (.inr rfl)];simp[he],h⟩
theorem IH {P:Program}{t e:Nat}(hu:P.underlying t=some (.pointer e))(p:Option Addr)(d:Nat)(w:World):(Op.equalIn (d+1) t (.pointer p) (.pointer none)).run P w=.ok p.isNone w:=by
 cases p<;>simp[Op.equalIn,run_underlying hu]
theorem ω {P:Program}{t e:Nat}(hu:P.underlying t=some (.slice e))(p:Option Addr)(n c d:Nat)(w:World):(Op.equalIn (d+1) t (.slice p n c) (.slice none 0 0)).run P w=.ok p.isNone w:=by
 cases p<;>simp[Op.equalIn,run_underlying hu]
theorem TO {P:Program}{t k e:Nat}(hu:P.underlying t=some (.map k e))(p:Option Nat)(d:Nat)(w:World):(Op.equalIn (d+1) t (.map p) (.map none)).run P w=.ok p.isNone w:=by
 cases p<;>simp[Op.equalIn,run_underlying hu]
theorem Tu {P:Program}{t:Nat}(hu:P.underlying t=some .bool)(a b:Bool)(d:Nat)(w:World):(Op.equalIn (d+1) t (.bool a) (.bool b)).run P w=.ok (a==b) w:=by
 simp[Op.equalIn,run_underlying hu]
theorem Mo {P:Program}{w:World}{s:Sl}{K:ByteArray->Prop}(h:Ei s w.heap K):∃b,(Conv.bytesToString (.slice s.a s.len s.cap)).run P w=.ok (.string b) w/\K b:=by
 obtain⟨g,m,d,i⟩:=h;refine⟨_,?_,i⟩;cases hs:s.a with
 | none=>
  rw[hs]at d;simp only[Rd,Ad]at d;subst d;simp[Conv.bytesToString];rfl
 | some a=>
  rw[hs]at d;have e:(loadCells a s.len).run P w=.ok (g.map (Value.int .u8)).toArray w:=by
   rw[←m];simpa using run_loadCells_list (P:=P) (w:=w) a (g.map (Value.int .u8)) (λj v p=>d j v p)
  have key:∀(l:List Int) (acc:ByteArray),List.foldl (λb a=>b.push (UInt8.ofNat a.toNat)) acc l=⟨acc.data++(l.map λn=>UInt8.ofNat n.toNat).toArray⟩:=by
   intro l
   induction l with
   | nil=>intro acc;simp
   | cons n l ih=>intro acc;rw[lg,ih];congr 1;apply Array.ext';simp[ByteArray.push]
  simp only[Conv.bytesToString,Sem.run_bind,e,Result.andThen_ok];simp[key]
theorem S4 {P:Program}{t:Nat}{ms:Array (String×TypeId)}(hu:P.underlying t=some (.interface ms)){v:Value}(hv:jN v)(d:Nat)(w:World):(Op.equalIn (d+1) t v .nilIface).run P w=.ok (lM v) w:=by
 rcases hv with rfl|⟨t',u,rfl⟩
 ·simp[Op.equalIn,run_underlying hu,lM]
 ·simp[Op.equalIn,run_underlying hu,lM]
theorem Sw {P:Program}{xt t:TypeId}{ti:TypeInfo}{fs:Array Field}{v:Value}{vs zs:List Value}{b:Bool}(hu:P.underlying t=some (.struct fs))(hi:P.info? t=some ti)(hz:ti.zero=some (.agg zs.toArray))
 (h:kI v t vs zs b) (w:World) :
 (Instr.typeAssert v xt t true).run P w=.ok (.tuple #[.agg vs.toArray,.bool b]) w:=by
 have a:=VE hi hz w;cases b with
 | true=>
  simp only[kI]at h;subst h;simp[Instr.typeAssert,run_underlying hu]
 | false=>
  simp only[kI]at h;obtain⟨rfl,h⟩:=h;rcases h with rfl|⟨t',u,rfl,hne⟩
  ·simp[Instr.typeAssert,run_underlying hu,a]
  ·simp[Instr.typeAssert,run_underlying hu,hne,a]
theorem Mi {P:Program}{op:BinOp}{t:Nat}{x y:Value}{K:Value->Prop}(h:mg P op t x y K)(w:World) :
 ∃v,(binOp op t x y).run P w=.ok v w/\K v:=by
 unfold mg at h;split at h
 case h_1 e p hu=>
  refine UD h w ?_ ?_
  ·rintro op (rfl|rfl)<;>simp[binOp]
  ·exact IH hu p 9999 w
 case h_2 e p _ _ hu=>
  refine UD h w ?_ ?_
  ·rintro op (rfl|rfl)<;>simp[binOp]
  ·exact ω hu p _ _ 9999 w
 case h_3 e e' p hu=>
  refine UD h w ?_ ?_
  ·rintro op (rfl|rfl)<;>simp[binOp]
  ·exact TO hu p 9999 w
 case h_4 ms hu=>
  obtain⟨a,h⟩:=h;refine UD h w ?_ ?_
  ·rcases a with rfl|⟨t',u,rfl⟩<;>rintro op (rfl|rfl)<;>simp[binOp]
  ·exact S4 hu a 9999 w
 ·exact h.elim
theorem Rj {P:Program}{op:BinOp}{t:Nat}{x y:Value}{K:Value->Prop}(h:mE P op t x y K)(w:World) :
 ∃v,(binOp op t x y).run P w=.ok v w/\K v:=by
 unfold mE at h;split at h
 case h_1 k a k' b=>
  split at h
  ·rename_i e;subst e;exact ON h w
  ·cases op<;>simp only at h
   case shl=>simp only[qt,Ar,Nn]at h;obtain⟨g,d⟩:=h;exact⟨_,by simp[binOp,Op.shift,Int.not_lt.2 g],d⟩
   case shr=>simp only[qt,Ar,Nn]at h;obtain⟨g,d⟩:=h;exact⟨_,by simp[binOp,Op.shift,Int.not_lt.2 g],d⟩
 case h_2 a b=>
  split at h
  ·rename_i hu;refine UD h w ?_ ?_
   ·rintro op (rfl|rfl)<;>simp[binOp]
   ·exact Tu hu a b 9999 w
  ·exact h.elim
 case h_3 a b=>
  cases op<;>simp only at h
  ·exact⟨_,rfl,h⟩
  ·exact⟨_,rfl,h⟩
 ·exact h.elim
theorem Dq {c:CK}{a:Addr}{h:Hp}{K:c.T->Prop}(hl:yd c a h K):∃x,cell h a=some (c.v x)/\K x:=by
 cases c<;>exact hl
theorem C7 {P:Program}{w:World}{a:Addr}{v:Value}(h:cell w.heap a=some v):(load a).run P w=.ok v w:=by
 have:w.cell? a=some v:=h;simp[this]
theorem Ce {P:Program}{w:World}:∀{cs:List CK} {a:Addr} {i:Nat} {K:List Value->Prop},oo cs a i w.heap K →
 ∃vs,vs.length=cs.length/\K vs/\∀acc,(loadCellsFrom a i cs.length acc).run P w=.ok (acc++vs.toArray) w
 | [],a,i,K,h=>⟨[],rfl,h,λacc=>by simp[loadCellsFrom]⟩
 | c::cs,a,i,K,h=>by
  obtain⟨x,hx,hK⟩:=Dq h;obtain⟨vs,e,b,d⟩:=Ce (P:=P) hK;refine⟨c.v x::vs,by simp[e],b,λacc=>?_⟩;simp only[zP,loadCellsFrom,Sem.run_bind,C7 hx,Result.andThen_ok,d]
  congr 1
  apply Array.ext';simp
theorem KG {P:Program}{t:Nat}{d:TypeDesc}(h:P.underlying t=some d)(w:World):(isAgg t).run P w=.ok (Uh d) w:=by
 simp only[isAgg,Sem.run_bind,run_underlying h,Result.andThen_ok];cases d<;>rfl
theorem EO {P:Program}{t:Nat}{c:CK}(h:kE P t=some (.one c)):∃d,P.underlying t=some d/\Uh d=false:=by
 unfold kE at h;split at h
 ·rename_i d hd;refine⟨d,hd,?_⟩;cases e:Uh d
  ·rfl
  ·rw[e]at h;simp at h
 ·cases h
theorem Es {P:Program}{t:Nat}{c:List CK}(h:kE P t=some (.agg c)):∃d,P.underlying t=some d/\Uh d=true:=by
 unfold kE at h;split at h
 ·rename_i d hd;refine⟨d,hd,?_⟩;cases e:Uh d
  ·rw[e]at h;simp at h
  ·rfl
 ·cases h
theorem TY {P:Program}{t ty:Nat}{x:Value}{K:Value->Prop}{w:World}(h:mr P t x w.heap K) :
 ∃v,(Builtin.len_ #[t] ty #[x]).run P w=.ok v w/\K v:=by
 unfold mr at h;split at h
 case h_1 e a n c hu=>exact⟨_,by simp[Builtin.len_,run_underlying hu,goInt],h⟩
 case h_2 s hu=>exact⟨_,by simp[Builtin.len_,run_underlying hu,goInt],h⟩
 case h_3 n e y hu=>exact⟨_,by simp[Builtin.len_,run_underlying hu,goInt],h⟩
 case h_4 kt et m hu=>
  split at h
  case h_1 k c hk hs=>
   obtain⟨l,d,g⟩:=h;cases m with
   | none=>simp only[jK]at d;subst d;exact⟨_,by simp[Builtin.len_,run_underlying hu,goInt],g⟩
   | some r=>
    obtain⟨p,u,i,j,_⟩:=d;have b:p.size=l.length:=by simpa using congrArg List.length j
    refine⟨_,?_,g⟩;simp[Builtin.len_,run_underlying hu,goInt,getObj,Sem.run,i,b]
  ·exact h.elim
 ·exact h.elim
theorem Dr {P:Program}{w:World}:∀{vs:List Value} {v:Value} {b:Bool} {K:Value->Prop},pz b v vs K →
 ∃z,(vs.foldlM (if b then Builtin.max2 else Builtin.min2) v).run P w=.ok z w/\K z
 | [],v,b,K,h=>⟨v,by simp,by simpa[pz]using h⟩
 | u::vs,v,b,K,h=>by
  cases v<;>cases u<;>simp only[pz]at h<;>try exact h.elim
  case int.int k x k' y=>
   obtain⟨z,hz,hK⟩:=Dr h;refine⟨z,?_,hK⟩;cases b
   ·simpa[Builtin.min2]using hz
   ·simpa[Builtin.max2]using hz
theorem Z2 {ρ:Env}{a:Act}(hf:∀x v,ev ρ x=some v->a.eval x=v):∀{os:List Operand} {vs:List Value},qL ρ os=some vs->os.map a.eval=vs
 | [],vs,h=>by simp[qL]at h;simp[h]
 | o::os,vs,h=>by
  simp only[qL]at h;split at h
  ·rename_i v vs' h1 h2;cases h;simp[hf _ _ h1,Z2 hf h2]
  ·cases h
theorem V8 {ρ:Env}{a:Act}(hf:∀x v,ev ρ x=some v->a.eval x=v):∀{os:List (Nat×Operand)} {vs:List (Nat×Value)},H7 ρ os=some vs->os.map (λ(i,x)=>(i,a.eval x))=vs
 | [],vs,h=>by simp[H7]at h;simp[h]
 | (i,o)::os,vs,h=>by
  simp only[H7]at h;split at h
  ·rename_i v vs' h1 h2;cases h;simp[hf _ _ h1,V8 hf h2]
  ·cases h
theorem GO {k:IntKind}{n:Int}{c:CK}:∀(es:List MapEntry) (l:List (Int×c.T)) (i:Nat),
 es.map (λe=>(e.key,e.val))=l.map (λx=>(Value.int k x.1,c.v x.2)) →
 Instr.findNow (.int k) (.int k n) es i=some (match l.findIdx? (λx=>x.1==n)with|some j=>some (i+j,match l[j]? with|some x=>c.v x.2|none=>undef)|none=>none)
 | [],l,i,h=>by
  cases l with
  | nil=>simp[Instr.findNow]
  | cons x l=>simp at h
 | e::es,[],i,h=>by simp at h
 | e::es,x::l,i,h=>by
  simp only[zJ,List.cons.injEq,Prod.mk.injEq]at h;obtain⟨⟨h1,h2⟩,h3⟩:=h;have d:=GO (n:=n) es l (i+1) h3;simp only[Instr.findNow,h1,Instr.sameNow,zS];by_cases hx:n=x.1
  ·have b:(n==x.1)=true:=by simpa using hx
   have a:(x.1==n)=true:=by simpa using hx.symm
   simp[wz,b,a,h2]
  ·have b:(n==x.1)=false:=by simpa using hx
   have a:(x.1==n)=false:=by simpa using λh=>hx h.symm
   simp only[b,d,wz,a];cases List.findIdx? (λx=>x.1==n) l with
   | none=>simp
   | some j=>simp;omega
theorem Kr {P:Program}{kt:Nat}{k:IntKind}(hk:P.underlying kt=some (.int k)){n:Int}{c:CK}{es:List MapEntry}{l:List (Int×c.T)}
 (he:es.map (λe=>(e.key,e.val))=l.map (λx=>(Value.int k x.1,c.v x.2))) (w:World) :
 (Instr.findKey kt (.int k n) es).run P w=.ok (match l.findIdx? (λx=>x.1==n)with|some j=>some (j,match l[j]? with|some x=>c.v x.2|none=>undef)|none=>none) w:=by
 simp[Instr.findKey,run_underlying hk,GO es l 0 he]
theorem PM {P:Program}{kt:Nat}{k:IntKind}(hk:P.underlying kt=some (.int k))(b:Bool)(n:Int)(d:Nat)(w:World) :
 (Instr.checkKey b (d+1) kt (.int k n)).run P w=.ok () w:=by
 simp[Instr.checkKey,run_underlying hk]
theorem QL {P:Program}{kt:Nat}{k:IntKind}(hk:P.underlying kt=some (.int k))(b:Bool)(n:Int)(w:World) :
 (Instr.checkKey b 10000 kt (.int k n)).run P w=.ok () w:=PM hk b n 9999 w
theorem O0 {α:Type}(l:List (Int×α))(n:Int):bV l n=(l.findIdx? (λx=>x.1==n)).bind λj=>(l[j]?).map (·.2):=by
 induction l with
 | nil=>rfl
 | cons x l ih=>
  simp only[bV,uZ,wz]at *;cases h:x.1==n
  ·simp only[ih];cases List.findIdx? (λx=>x.1==n) l<;>simp
  ·simp
theorem Us {α:Type}{l:List (Int×α)}{n:Int}{j:Nat}(h:l.findIdx? (λx=>x.1==n)=some j):∃x,l[j]?=some x/\x.1=n:=by
 rw[oO]at h;obtain⟨b,a,_⟩:=h;exact⟨l[j],by simp[b],by simpa using a⟩
theorem LF {P:Program}{t:Nat}{x i:Value}{ok:Bool}{K:Value->Prop}{w:World}(h:xS P t x i ok w.heap K) :
 ∃v,(Instr.lookup t x i ok).run P w=.ok v w/\K v:=by
 unfold xS at h;split at h
 case h_2=>exact h.elim
 rename_i kt et m k n hu;split at h
 case h_2=>exact h.elim
 rename_i k' c ti hk hs hi;split at h
 case h_2=>exact h.elim
 rename_i z hz;split at h
 case isFalse=>exact h.elim
 rename_i e;subst e;obtain⟨B,a,l,b,d⟩:=Ux h;refine⟨_,?_,d⟩;cases m with
 | none=>
  simp only[jK]at b;subst b;simp only[Instr.lookup,Sem.run_bind,run_underlying hu,Result.andThen_ok,Sem.run_pure,QL hk,Kr (c:=c) (l:=[]) hk (rfl:List.map _ (#[]:Array MapEntry).toList=_),List.findIdx?_nil,VE hi hz];cases ok<;>simp[bV,a]
 | some r=>
  obtain⟨A,s,g,p,_⟩:=b;simp only[Instr.lookup,Sem.run_bind,run_underlying hu,Result.andThen_ok,Sem.run_pure,QL hk,getObj,Sem.run,g,Kr hk p,O0];cases hf:l.findIdx? (λx=>x.1==n)with
  | none=>cases ok<;>simp[VE hi hz,a]
  | some j=>
   obtain⟨y,u,_⟩:=Us hf;cases ok<;>simp[u]
theorem E3 (off:Nat):∀(vs:List Value) (k:Nat) (cs:Array Value),off+k+vs.length<=cs.size →
 ((vs.zipIdx k).foldl (λcs (c,j)=>cs.setIfInBounds (off+j) c) cs).toList=cs.toList.take (off+k)++vs++cs.toList.drop (off+k+vs.length)
 | [],k,cs,h=>by simp
 | v::vs,k,cs,h=>by
  simp only[List.zipIdx_cons,lg];rw[E3 off vs (k+1) _ (by simp only[Array.size_setIfInBounds,zP]at *;omega)];simp only[zP]at h;have hlt:off+k<cs.toList.length:=by simp;omega
  simp only[Array.toList_setIfInBounds,zP];apply zz;intro m;simp only[List.getElem?_append,zO,oP,zK,zX,oc,zp,List.getElem?_cons,zP]
  grind
theorem UI (Zw:Nat->Option (Nat×Nat)):∀(ps:List (Nat×Value)) (cells:List Value) (cs:List Value),r7 Zw cells ps=some cs->Instr.fill Zw cells.toArray ps=some cs.toArray
 | [],cells,cs,h=>by simp[r7]at h;simp[Instr.fill,h]
 | (i,v)::rest,cells,cs,h=>by
  simp only[r7]at h;simp only[Instr.fill];cases hp:Zw i with
  | none=>rw[hp]at h;cases h
  | some os=>
   obtain⟨off,size⟩:=os;rw[hp]at h;simp only at h ⊢;split at h
   ·cases h
   ·rename_i hc;simp only[not_or,Decidable.not_not,Nat.not_lt]at hc;obtain⟨a,b⟩:=hc;rw[zA (by simp[a];omega)];have:=E3 off v.cells.toList 0 cells.toArray aE;have e:(v.cells.zipIdx.foldl (λcs (c,j)=>cs.setIfInBounds (off+j) c) cells.toArray)=(cells.take off++v.cells.toList++cells.drop (off+size)).toArray:=by
     apply Array.ext';rw[←Array.foldl_toList,Array.toList_zipIdx,this];simp[a]
    rw[e];exact UI Zw rest _ _ h
theorem FY {P:Program}{w:World}:∀(fs:List Field),(fs.all λf=>(P.info? f.type).isSome)=true →
 (fs.mapM λf=>(do pure (f.offset,←sizeOf f.type):Sem (Nat×Nat))).run P w=.ok (fs.map λf=>(f.offset,P.cellsOf f.type)) w
 | [],_=>by simp
 | f::fs,h=>by
  simp only[vM,zF]at h;have ih:=FY (P:=P) (w:=w) fs h.2;simp only[List.mapM_cons,Sem.run_bind,QR h.1,Result.andThen_ok,Sem.run_pure,ih,zJ]
theorem Dt {raw:Nat->Bool}:∀{ps:List (Nat×Value)} {A:Prop},mG raw ps A->A/\∀Zw cells,Instr.fill Zw cells (vS raw ps)=Instr.fill Zw cells ps
 | [],A,h=>⟨h,λ_ _=>rfl⟩
 | (i,v)::ps,A,h=>by
  simp only[mG]at h;cases hr:raw i
  ·rw[hr]at h;obtain⟨hA,ih⟩:=Dt h;exact⟨hA,λZw cells=>by simp only[vS,Instr.fill,ih,hr,cond_false]⟩
  ·rw[hr]at h;simp only[cond_true]at h;obtain⟨hA,ih⟩:=Dt h.2;have e:(Value.agg #[v]).cells=v.cells:=by
    rcases h.1 with rfl|⟨t,u,rfl⟩<;>rfl
   exact⟨hA,λZw cells=>by simp only[vS,Instr.fill,ih,hr,cond_true,e]⟩
theorem Wgw {P:Program}{t:Nat}{ps:Array (Nat×Value)}{K:Value->Prop}{w:World}(h:nY P t ps.toList K) :
 ∃v,(Instr.build t ps).run P w=.ok v w/\K v:=by
 unfold nY at h;split at h
 case h_1 p fs hi hu=>
  split at h
  case h_2=>exact h.elim
  rename_i z hz;obtain⟨h,j⟩:=Dt h;split at h
  case h_2=>exact h.elim
  rename_i cs hf;rw[WH]at h;obtain⟨a,r⟩:=h;refine⟨_,?_,r⟩;have s:=FY (P:=P) (w:=w) fs.toList a;have m:(fs.mapM λf=>(do pure (f.offset,←sizeOf f.type):Sem (Nat×Nat))).run P w=.ok (fs.map λf=>(f.offset,P.cellsOf f.type)) w:=by
   rw[Array.mapM_eq_mapM_toList];simp only[Sem.run_map,s,Result.andThen_ok]
   congr 1
   apply Array.ext';simp
  have g:(λi=>(fs.map λf=>(f.offset,P.cellsOf f.type))[i]?)=CN P fs:=by
   funext i
   simp only[CN,Array.getElem?_map];cases hfi:fs[i]? with
   | none=>simp
   | some f=>
    have b:f∈fs.toList:=by
     have:=AY hfi;simpa using this
    have:=kN.1 a f b;obtain⟨p,d⟩:=qC.1 this;simp[d,Program.cellsOf]
  have:=UI _ _ _ _ hf;rw[j]at this;simp only[Instr.build,Sem.run_bind,VE hi hz,Result.andThen_ok,run_underlying hu,m,g];have e:z.cells.toList.toArray=z.cells:=by simp
  rw[e]at this;simp[this]
 case h_2 p n e hi hu=>
  split at h
  case h_2=>exact h.elim
  rename_i z te hz hte;split at h
  case h_2=>exact h.elim
  rename_i cs hf;refine⟨_,?_,h⟩;have:=UI _ _ _ _ hf;have u:z.cells.toList.toArray=z.cells:=by simp
  rw[u]at this;have x:(sizeOf e).run P w=.ok te.size w:=by simp[sizeOf,V6 hte]
  simp only[Instr.build,Sem.run_bind,VE hi hz,Result.andThen_ok,run_underlying hu,x];simp[this]
 ·exact h.elim
theorem Wq {o:Option Value}{K:Value->Prop}(h:wv o K):∃v,o=some v/\K v:=by
 cases o with
 | none=>exact h.elim
 | some v=>exact⟨v,rfl,h⟩
theorem Β {P:Program}{t off:Nat}{cs:Array Value}{K:Value->Prop}{w:World}(h:uR P t cs.toList off K) :
 ∃v,(part t cs off).run P w=.ok v w/\K v:=by
 unfold uR at h;split at h
 case h_2=>exact h.elim
 rename_i d ti hu hi;cases hd:Uh d
 ·rw[hd]at h;obtain⟨v,a,b⟩:=Wq h;refine⟨v,?_,b⟩;have:cs[off]?=some v:=by simpa using a
  simp[part,KG hu,hd,this]
 ·rw[hd]at h;refine⟨_,?_,h⟩;simp only[part,Sem.run_bind,KG hu,hd,Result.andThen_ok,sizeOf,V6 hi,zS,Sem.run_pure]
  congr 2
  apply Array.ext';simp
theorem Kd {P:Program}{w:World}{z:Int}{y:Nat}{code:BoundsCode}(h0:0<=z)(h1:z<=y):(Instr.sliceBound (.int .i64 z) y code).run P w=.ok z.toNat w:=by
 simp[Instr.sliceBound,asIntOf,h0,h1]
theorem Ev {o:Option Value}{d l:Int}(h:(match o with|none=>some d|some (.int .i64 z)=>some z|_=>none)=some l):(o=none/\l=d)\/o=some (.int .i64 l):=by
 split at h
 ·simp at h;exact .inl ⟨rfl,h.symm⟩
 ·simp at h;subst h;exact .inr rfl
 ·cases h
theorem P3 {P:Program}{t:Nat}{x:Value}{lo hi mx:Option Value}{K:Value->Prop}{w:World}(h:nZ P t x lo hi mx K) :
 ∃v,(Instr.sliceAt t x lo hi mx).run P w=.ok v w/\K v:=by
 unfold nZ at h;split at h
 case h_2=>exact h.elim
 rename_i e a n c hu;split at h
 case h_2=>exact h.elim
 rename_i ti hi';simp only at h;split at h
 case h_2=>exact h.elim
 rename_i l hh m hlo hhi hmx;obtain⟨i,A,u,s,g⟩:=h;refine⟨_,?_,g⟩;simp only at s;have d:(sizeOf e).run P w=.ok ti.size w:=by simp[sizeOf,V6 hi']
 have r:(Instr.sliceBounds true n c lo hi mx).run P w=.ok (l.toNat,hh.toNat,m.toNat) w:=by
  have p:(mx=none/\m=c)\/(mx=some (.int .i64 m)/\hi≠none):=by
   split at hmx
   ·simp at hmx;exact .inl ⟨rfl,hmx.symm⟩
   ·simp at hmx;subst hmx;exact .inr ⟨rfl,by simp⟩
   ·cases hmx
  have j:=Ev hlo;have b:=Ev hhi;clear hlo hhi hmx;rcases p with⟨rfl,rfl⟩|⟨rfl,hne⟩<;>rcases b with⟨rfl,rfl⟩|rfl
  case inr.inl=>exact absurd rfl hne
  all_goals rcases j with⟨rfl,rfl⟩|rfl
  ·simp[Instr.sliceBounds]
  ·have:=Kd (P:=P) (w:=w) (z:=l) (y:=n) (code:=.sliceB) i O;simp[Instr.sliceBounds,this]
  ·have:=Kd (P:=P) (w:=w) (z:=hh) (y:=c) (code:=.sliceAcap) O O;simp[Instr.sliceBounds,this]
  ·have:=Kd (P:=P) (w:=w) (z:=hh) (y:=c) (code:=.sliceAcap) O O;have:=Kd (P:=P) (w:=w) (z:=l) (y:=hh.toNat) (code:=.sliceB) O O;simp[Instr.sliceBounds, *]
  ·have:=Kd (P:=P) (w:=w) (z:=m) (y:=c) (code:=.slice3Acap) O O;have:=Kd (P:=P) (w:=w) (z:=hh) (y:=m.toNat) (code:=.slice3B) O O;simp[Instr.sliceBounds, *]
  ·have:=Kd (P:=P) (w:=w) (z:=m) (y:=c) (code:=.slice3Acap) O O;have:=Kd (P:=P) (w:=w) (z:=hh) (y:=m.toNat) (code:=.slice3B) O O;have:=Kd (P:=P) (w:=w) (z:=l) (y:=hh.toNat) (code:=.slice3C) O O;simp[Instr.sliceBounds, *]
 simp only[Instr.sliceAt,Instr.slice,Sem.run_bind,run_underlying hu,Result.andThen_ok,r,d,Sem.run_pure]
theorem MJ {P:Program}{op:BinOp}{t:Nat}{x y:Operand}{a b:Value}(w:World)(h:(∀cs,a≠.agg cs)/\a≠.nilIface):(eqGuard op t x y a b).run P w=.ok () w:=by
 unfold eqGuard;cases op<;>simp
 all_goals (cases a<;>first|rfl | (simp at h))
theorem N4 {P:Program}{op:BinOp}{t:Nat}{x y:Value}{K:Value->Prop}(h:mE P op t x y K):(∀cs,x≠.agg cs)/\x≠.nilIface:=by
 unfold mE at h;split at h<;>first|exact absurd h id | (constructor<;>simp)
theorem OW {P:Program}{op:BinOp}{t:Nat}{x y:Value}{K:Value->Prop}(h:mg P op t x y K):∀cs,x≠.agg cs:=by
 unfold mg at h;split at h
 case h_4=>rcases h.1 with rfl|⟨t',u,rfl⟩<;>simp
 all_goals first|exact absurd h id|simp
theorem TN {P:Program}{op:BinOp}{t:Nat}{x:Operand}{c:Value}{a b:Value}(w:World)(h:∀cs,a≠.agg cs):(eqGuard op t x (.const c) a b).run P w=.ok () w:=by
 unfold eqGuard;cases op<;>simp
 all_goals (cases a<;>first|rfl|exact absurd rfl (h _) | (cases b<;>simp))
theorem PS {y:Operand}(h:vX y=true):∃c,y=.const c:=by
 unfold vX at h;split at h<;>first|exact⟨_,rfl⟩|cases h
theorem Ao {P:Program}{s f:Nat}{K:Field->Prop}(h:ov P s f K):∃fs fd,P.underlying s=some (.struct fs)/\fs[f]?=some fd/\K fd:=by
 unfold ov at h;split at h
 ·split at h
  ·exact⟨_,_,by assumption,by assumption,h⟩
  ·exact h.elim
 ·exact h.elim
theorem My {P:Program}{t:Nat}(h:P.cellsOf t≠0):(P.info? t).isSome=true:=by
 unfold Program.cellsOf at h;cases hi:P.info? t with
 | none=>rw[hi]at h;simp at h
 | some i=>rfl
theorem C1 {ρ:Env}{a:Act}(hf:∀x v,ev ρ x=some v->a.eval x=v){o:Option Operand}{v:Option Value}(h:vd ρ o=some v):o.map a.eval=v:=by
 cases o with
 | none=>simp[vd]at h;simp[h]
 | some o=>
  simp only[vd,rF]at h;obtain⟨u,b,rfl⟩:=h;simp[hf _ _ b]
theorem Vw {P:Program}{t:Nat}{d:TypeDesc}{cs:Array Value}{off:Nat}{v:Value}{w:World}(hd:P.underlying t=some d)(hag:Uh d=false)(h:cs.toList[off]?=some v):(part t cs off).run P w=.ok v w:=by
 have a:cs[off]?=some v:=by simpa using h
 simp[part,KG hd,hag,a]
theorem AM {P:Program}{xs ys:Array Value}(d:Nat):∀(fs:List Field) (b:Bool),oZ P xs.toList ys.toList fs=some b->∀w,(Op.eqFields (d+1) xs ys fs).run P w=.ok b w
 | [],b,h,w=>by simp[oZ]at h;subst h;simp[Op.eqFields]
 | f::fs,b,h,w=>by
  simp only[oZ]at h;cases hn:f.name == "_"
  ·rw[hn]at h;simp only[cond_false]at h;have hne:f.name ≠ "_" := by simpa using hn
   split at h
   ·rename_i k0 k a k' b' r hu hx hy hr;split at h
    case isFalse=>cases h
    rename_i e;subst e;simp only[Option.some.injEq]at h;subst h;have ih:=AM (d:=d) fs r hr w;simp only[Op.eqFields,hne,ne_eq,not_false_eq_true,zS,Sem.run_bind,Vw hu rfl hx,Vw hu rfl hy,Result.andThen_ok,run_equalIn_int w d f.type k k0 a b' hu];cases hab:a==b'<;>simp[ih]
   ·rename_i a b' r hu hx hy hr;simp only[Option.some.injEq]at h;subst h;have ih:=AM (d:=d) fs r hr w;simp only[Op.eqFields,hne,ne_eq,not_false_eq_true,zS,Sem.run_bind,Vw hu rfl hx,Vw hu rfl hy,Result.andThen_ok,run_equalIn_bool' w d f.type a b' hu];cases hab:a==b'<;>simp[ih]
   ·cases h
  ·rw[hn]at h;cases h
theorem BR {P:Program}{e:TypeId}(hC:P.cellsOf e=1){xs ys:Array Value}(d:Nat):∀(is:List Nat) (b:Bool),pY P e xs.toList ys.toList is=some b->∀w,(Op.eqItems (d+1) e (P.cellsOf e) xs ys is).run P w=.ok b w
 | [],b,h,w=>by simp[pY]at h;subst h;simp[Op.eqItems]
 | i::is,b,h,w=>by
  simp only[pY]at h;split at h
  ·rename_i k0 k a k' b' r hu hx hy hr;split at h
   case isFalse=>cases h
   rename_i e';subst e';simp only[Option.some.injEq]at h;subst h;have ih:=BR hC d is r hr w;simp only[Op.eqItems,hC,oy,Sem.run_bind,Vw hu rfl hx,Vw hu rfl hy,Result.andThen_ok,run_equalIn_int w d e k k0 a b' hu];rw[hC]at ih;cases hab:a==b'<;>simp[ih]
  ·rename_i t0 p r hu hx hy hr;simp only[Option.some.injEq]at h;subst h;have ih:=BR hC d is r hr w;simp only[Op.eqItems,hC,oy,Sem.run_bind,Vw hu rfl hx,Vw hu rfl hy,Result.andThen_ok,IH hu p d w];rw[hC]at ih;cases hab:p.isNone<;>simp[ih]
  ·cases h
theorem PL {P:Program}{op:BinOp}{t:Nat}{xs ys:Array Value}{K:Value->Prop}(h:nU P op t xs.toList ys.toList K)(x y:Operand)(w:World) :
 ∃v,(do eqGuard op t x y (.agg xs) (.agg ys);binOp op t (.agg xs) (.agg ys):Sem Value).run P w=.ok v w/\K v:=by
 have fin:∀b:Bool,(Op.equalIn 10000 t (.agg xs) (.agg ys)).run P w=.ok b w->P.eqGuardType P.depth t=false->nD op b K →
  ∃v,(do eqGuard op t x y (.agg xs) (.agg ys);binOp op t (.agg xs) (.agg ys):Sem Value).run P w=.ok v w/\K v:=by
  intro b a hgt h;have j:=run_eqGuard_agg (P:=P) w op t x y xs ys hgt;cases op<;>simp only[nD]at h
  ·exact⟨_,by simp only[Sem.run_bind,j,Result.andThen_ok,run_eql_struct,a],h⟩
  ·exact⟨_,by simp only[Sem.run_bind,j,Result.andThen_ok,run_neq_struct,a],h⟩
 unfold nU at h;split at h
 case h_1 fs hu=>
  rw[WH]at h;obtain⟨d,h⟩:=h;simp only[zF,ni]at d;split at h
  case h_2=>exact h.elim
  rename_i b hb;have g:P.fieldsOf t=fs:=by simp[Program.fieldsOf,hu]
  have a:(Op.equalIn 10000 t (.agg xs) (.agg ys)).run P w=.ok b w:=by
   have:=run_equalIn_struct (P:=P) w 9999 t xs ys (by rw[g];exact hu) d.1;rw[g]at this;exact this.trans (AM 9998 fs.toList b hb w)
  exact fin b a d.2 h
 case h_2 n e hu=>
  rw[WH]at h;obtain⟨d,h⟩:=h;simp only[zF,ni,zZ]at d;split at h
  case h_2=>exact h.elim
  rename_i b hb;obtain⟨i,m⟩:=qC.1 d.2.1;exact fin b ((run_equalIn_array (P:=P) w 9999 xs ys hu m).trans (BR d.2.2 9998 _ b hb w)) d.1 h
 case h_3=>exact h.elim
theorem G6 {P:Program}{ρ:Env}{K:Value->Prop}{a:Act}{w:World}(hf:∀x v,ev ρ x=some v->a.eval x=v)(o:Oper)(hk:qK P o.op ρ w.heap K) :
 ∃v,(execOp a.eval o).run P w=.ok (.value v) w/\K v:=by
 obtain⟨dst,op,ty,pos,X,aa⟩:=o;simp only at hk;have g:∀{s:Sem Value},(∃v,s.run P w=.ok v w/\K v)->∃v,(do pure (Next.value (←s)):Sem Next).run P w=.ok (.value v) w/\K v:=by
  rintro s ⟨v,j,e⟩;exact⟨v,by simp[j],e⟩
 unfold qK at hk;split at hk
 case h_1 x=>
  obtain⟨v,j,e⟩:=Wq hk;exact⟨v,by simp[execOp,hf _ _ j],e⟩
 case h_2 x=>
  obtain⟨v,j,e⟩:=Wq hk;exact⟨v,by simp[execOp,hf _ _ j],e⟩
 case h_3 c x y=>
  obtain⟨v,j,e⟩:=Wq hk;split at e
  ·obtain⟨u,A,e⟩:=Wq e;exact⟨u,by simp[execOp,hf _ _ j,asBool,hf _ _ A],e⟩
  ·obtain⟨u,A,e⟩:=Wq e;exact⟨u,by simp[execOp,hf _ _ j,asBool,hf _ _ A],e⟩
  ·exact e.elim
 case h_4 t x=>
  obtain⟨v,j,e⟩:=Wq hk;simp only[execOp,hf _ _ j];apply g;split at e
  case h_1 M c F=>
   rw[WH]at e;obtain⟨d,hd,L⟩:=EO F;obtain⟨x,p,e⟩:=Dq e.2;exact⟨_,by simp only[Instr.loadAt,Instr.sureAddr,loadVar,Sem.run_bind,Sem.run_pure,Result.andThen_ok,KG hd,L];simpa using C7 p,e⟩
  case h_2 M cs F=>
   rw[WH,WH]at e;obtain⟨r,z,e⟩:=e;obtain⟨d,hd,L⟩:=Es F;obtain⟨vs,hl,e,Z⟩:=Ce (P:=P) e;have W:P.cellsOf t=cs.length:=by simpa using r
   refine⟨_,?_,e⟩;simp only[Instr.loadAt,Instr.sureAddr,loadVar,Sem.run_bind,Sem.run_pure,Result.andThen_ok,KG hd,L,zS,QR z,loadCells,W,Z];simp
  ·exact e.elim
 case h_5 x=>
  obtain⟨v,j,e⟩:=Wq hk;simp only[execOp,hf _ _ j];split at e
  ·obtain⟨M,rfl,e⟩:=e;exact⟨_,by simp,e⟩
  ·exact⟨_,by simp,e⟩
  ·exact e.elim
 case h_6 op t x y yt=>
  obtain⟨D,p,hk⟩:=Wq hk;obtain⟨vy,hy,hk⟩:=Wq hk;simp only[execOp,hf _ _ p,hf _ _ hy];apply g;unfold w9 at hk;cases hn:vX y
  ·rw[hn]at hk;simp only[cond_false]at hk;split at hk
   ·exact PL hk x y w
   obtain⟨v,j,e⟩:=Rj hk w;exact⟨v,by simp[MJ w (N4 hk),j],e⟩
  ·rw[hn]at hk;simp only[cond_true]at hk;obtain⟨v,j,e⟩:=Mi hk w;obtain⟨c,hc⟩:=PS hn;have hg:=TN (P:=P) (op:=op) (t:=t) (x:=x) (c:=c) (b:=vy) w (OW hk);exact⟨v,by rw[hc];simp[hg,j],e⟩
 case h_7 op ty' x=>
  obtain⟨D,p,hk⟩:=Wq hk;simp only[execOp,hf _ _ p];apply g;split at hk
  ·exact⟨_,by simp[Op.unary],hk⟩
  ·exact⟨_,by simp[Op.unary,Op.intArith],hk⟩
  ·exact hk.elim
 case h_8 s d x=>
  obtain⟨D,p,hk⟩:=Wq hk;simp only[execOp,hf _ _ p];apply g;split at hk
  ·rename_i r z;exact⟨_,by simp[convert,run_underlying r,run_underlying z,Conv.intToInt],hk⟩
  ·rename_i r z;exact⟨_,by simp[convert,run_underlying r,run_underlying z],hk⟩
  ·rename_i r z;split at hk
   ·rename_i A;obtain⟨b,Z,e⟩:=Mo (P:=P) hk;exact⟨_,by simpa[convert,run_underlying r,run_underlying z,run_underlying A]using Z,e⟩
   ·exact hk.elim
  ·exact hk.elim
 case h_9 s x f=>
  obtain⟨D,p,hk⟩:=Wq hk;obtain⟨fs,fd,F,H,hk⟩:=Ao hk;simp only[execOp,hf _ _ p];apply g;split at hk
  ·rename_i M;rw[WH]at hk;have S:P.cellsOf fd.type≠0:=by simpa using hk.1
   refine⟨_,?_,hk.2⟩;simp only[Instr.fieldAt,Sem.run_bind,run_underlying F,Result.andThen_ok,H,Instr.sureAddr,Sem.run_pure,fieldPlace,QR (My S),S,zy]
  ·exact hk.elim
 case h_10 s x f=>
  obtain⟨D,p,hk⟩:=Wq hk;obtain⟨fs,fd,F,H,hk⟩:=Ao hk;simp only[execOp,hf _ _ p];apply g;split at hk
  ·rename_i cs;obtain⟨v,j,e⟩:=Β (w:=w) hk;refine⟨v,?_,e⟩;simp only[Instr.field,Sem.run_bind,run_underlying F,Result.andThen_ok,H,asAgg,Sem.run_pure,j]
  ·exact hk.elim
 case h_11 t x i=>
  obtain⟨D,p,hk⟩:=Wq hk;obtain⟨vi,G,hk⟩:=Wq hk;simp only[execOp,hf _ _ p,hf _ _ G];apply g;split at hk
  ·have A:=(by assumption:P.underlying t=some _);rw[WH]at hk;obtain⟨r,M,rfl,z,Q,e⟩:=hk;refine⟨_,?_,e⟩;simp[Instr.indexAt,asIntOf,run_underlying A,QR r,z,Q]
  ·have A:=(by assumption:P.underlying t=some _);rw[WH]at hk;obtain⟨r,z,Q,e⟩:=hk;refine⟨_,?_,e⟩;simp[Instr.indexAt,asIntOf,run_underlying A,QR r,z,Q,Instr.sureAddr]
  ·exact hk.elim
 case h_12 t x i=>
  obtain⟨D,p,hk⟩:=Wq hk;obtain⟨vi,G,hk⟩:=Wq hk;simp only[execOp,hf _ _ p,hf _ _ G];apply g;split at hk
  ·have A:=(by assumption:P.underlying t=some _);obtain⟨b,r,z,e⟩:=hk;refine⟨_,?_,e⟩;simp[Instr.index,asIntOf,run_underlying A,r,z]
  ·exact hk.elim
 case h_13 t x i ok=>
  obtain⟨D,p,hk⟩:=Wq hk;obtain⟨vi,G,hk⟩:=Wq hk;simp only[execOp,hf _ _ p,hf _ _ G];exact g (LF hk)
 case h_14 t i=>
  obtain⟨D,p,hk⟩:=Wq hk;simp only[execOp,hf _ _ p];apply g;split at hk
  ·obtain⟨v,j,e⟩:=Wq hk;have R:=j;rw[Ag]at R;exact⟨v,by simp[Instr.extract,R],e⟩
  ·exact hk.elim
 case h_15 fn x y=>
  split at hk
  ·rename_i va vb r z;have E:=Z2 hf r;have N:=Z2 hf z;refine⟨_,?_,hk⟩;have J:x.map a.eval=va.toArray:=by apply Array.ext';simpa using E
   have Y:y.map a.eval=vb.toArray:=by apply Array.ext';simpa using N
   simp[execOp,Instr.makeFunc,J,Y]
  ·exact hk.elim
 case h_16 t ps=>
  split at hk
  ·rename_i vs r;have E:=V8 hf r;have J:ps.map (λ(i,x)=>(i,a.eval x))=vs.toArray:=by apply Array.ext';simpa using E
   simp only[execOp];apply g;rw[J];exact Wgw (by simpa using hk)
  ·exact hk.elim
 case h_17 t x lo G mx=>
  obtain⟨D,p,hk⟩:=Wq hk;simp only[execOp,hf _ _ p];apply g;split at hk
  ·rename_i l h m r z Q;rw[C1 hf r,C1 hf z,C1 hf Q];exact P3 hk
  ·exact hk.elim
 case h_18 t x=>
  obtain⟨D,p,hk⟩:=Wq hk;rw[WH]at hk;simp only[execOp,hf _ _ p];exact⟨_,by simp[run_makeInterface w t D hk.1],hk.2⟩
 case h_19 x xt t=>
  obtain⟨D,p,hk⟩:=Wq hk;simp only[execOp,hf _ _ p];apply g;split at hk
  case h_2=>exact hk.elim
  rename_i fs ti cs A G F;split at hk
  case h_2=>exact hk.elim
  rename_i zs hz;obtain⟨vs,b,j,e⟩:=hk.out;exact⟨_,Sw A G (by simpa using hz) j w,e⟩
 case h_20 c=>
  obtain⟨V,C,U⟩:=c;simp only at hk;split at hk
  ·rename_i x t ha ht;have B:=Z2 hf ha;have E:C.map a.eval = #[x]:=by apply Array.ext';simpa using B
   have N:U = #[t]:=by apply Array.ext';simpa using ht
   subst N;obtain⟨v,j,e⟩:=TY (ty:=ty) hk;refine⟨v,?_,e⟩;simp[execOp,resolve,E,invoke,builtin,j]
  ·rename_i M l n t ha ht;have B:=Z2 hf ha;have E:C.map a.eval = #[.slice M l n]:=by apply Array.ext';simpa using B
   have N:U = #[t]:=by apply Array.ext';simpa using ht
   subst N;split at hk
   ·rename_i A;refine⟨_,?_,hk⟩;simp[execOp,resolve,E,invoke,builtin,Builtin.cap_,run_underlying A,goInt]
   ·exact hk.elim
  ·rename_i x xs ha;have B:=Z2 hf ha;have E:C.map a.eval=(x::xs).toArray:=by apply Array.ext';simpa using B
   obtain⟨v,j,e⟩:=Dr (P:=P) (w:=w) hk;refine⟨v,?_,e⟩;simp only[zS]at j;simp[execOp,resolve,E,invoke,builtin,Builtin.max_,j]
  ·rename_i x xs ha;have B:=Z2 hf ha;have E:C.map a.eval=(x::xs).toArray:=by apply Array.ext';simpa using B
   obtain⟨v,j,e⟩:=Dr (P:=P) (w:=w) hk;refine⟨v,?_,e⟩;simp only[zb,zy]at j;simp[execOp,resolve,E,invoke,builtin,Builtin.min_,j]
  ·exact hk.elim
 ·exact hk.elim
def nW (P:Program):List TypeId->Option (List SK)
 | []=>some []
 | t::ts=>match kE P t,nW P ts with|some s,some ss=>some (s::ss)|_,_=>none
def Hh (P:Program)(f:Nat):Bool:=
 match P.funcs[f]? with
 | some fn=>!(fn.name == "runtime.NumGoroutine") && fn.body.isSome
 | none=>false
def sP (P:Program)(f:Nat)(args:List Value)(h:Hp)(K:aO):Prop:=
 ∀w:World,w.heap=h->∃b w',(callFunc f args.toArray).run P w=.ok (.value (.bool b)) w'/\ZP w w'/\K b w'.heap
def Bq (P:Program)(f:Nat)(args:List Value)(h:Hp)(K:Value->Hp->Prop):Prop:=
 match P.funcs[f]? with
 | some fn=>match nW P fn.resultTypes.toList with
  | some rs=>match Hh P f with
   | true=>We P f args.toArray rs h (lam (iJ rs) λvs h'=>K (pack rs vs) h')
   | false=>match rs with
    | [.one .b]=>sP P f args h λb h'=>K (.bool b) h'
    | _=>False
  | none=>False
 | none=>False
def DL (P:Program)(v:Value)(name:String)(args:List Value)(ty:TypeId)(h:Hp)(K:Value->Hp->Prop):Prop:=
 match (match P.underlying ty with|some (.tuple ts)=>nW P ts.toList|_=>nW P [ty])with
 | some rs=>A7 P v name args rs h (lam (iJ rs) λvs h'=>K (pack rs vs) h')
 | none=>False
def DY (P:Program)(fv:Fv):Prop:=Hh P fv.f=true
def VN (P:Program)(fv:Fv)(args:List Value)(rs:List SK)(h:Hp)(R:eP (iJ rs)):Prop:=
 DY P fv/\IF P fv args rs h R
def B9 (P:Program)(fv:Fv)(args:List Value)(ty:TypeId)(h:Hp)(K:Value->Hp->Prop):Prop:=
 match (match P.underlying ty with|some (.tuple ts)=>nW P ts.toList|_=>nW P [ty])with
 | some rs=>VN P fv args rs h (lam (iJ rs) λvs h'=>K (pack rs vs) h')
 | none=>False
def CE (a:Addr)(vs:List Value)(h:Hp)(K:aP):Prop:=
 match vs with
 | [v]=>dG a v h K
 | vs=>qm a h vs 0 K
def rG (P:Program)(t:TypeId)(K:IntKind->CK->Prop):Prop:=
 match P.underlying t with
 | some (.map kt et)=>match P.underlying kt,pH P et with
  | some (.int k),some (.one c)=>K k c
  | _,_=>False
 | _=>False
def Dk (P:Program)(t:TypeId)(len:Nat)(ps:List (Nat×Value))(K:TypeId->List Value->Prop):Prop:=
 match P.underlying t with
 | some (.slice e)=>match P.info? e with
  | some te=>match te.zero with
   | some z=>match len,ps with
    | 0,[]=>K e []
    | 0,_::_=>False
    | len+1,ps=>gN (Nat.ble ((len+1)*te.size) 16777216&&Nat.blt 0 ((len+1)*te.size)&&z.cells.size==te.size)
     (match r7 (λi=>some (i*te.size,te.size)) (List.replicate (len+1) z.cells.toList).flatten ps with
     | some cs=>K e cs
     | none=>False)
   | none=>False
  | none=>False
 | _=>False
def eK (P:Program)(o:Op)(ty:TypeId)(ρ:Env)(h:Hp)(K:Value->Hp->Prop):Prop:=
 match o with
 | .store t a x=>wv (ev ρ a) λva=>wv (ev ρ x) λvx=>match va with
  | .pointer (some a)=>bif wT P t then gN ((P.info? t).isSome&&P.cellsOf t==1) (jN vx/\dG a vx h λh'=>K undef h')
   else gN ((P.info? t).isSome&&vx.cells.size==P.cellsOf t) (Ak vx.cells.toList (CE a vx.cells.toList h λh'=>K undef h'))
  | _=>False
 | .alloc e=>match P.info? e with
  | some te=>match te.zero with
   | some z=>Nw (.cells z.cells e (0,0)) h λa h'=>K (.pointer (some a)) h'
   | none=>False
  | none=>False
 | .box e x=>wv (ev ρ x) λv=>bif wT P e then jN v/\Nw (.cells #[v] e (0,0)) h λa h'=>K (.pointer (some a)) h' else Nw (.cells v.cells e (0,0)) h λa h'=>K (.pointer (some a)) h'
 | .buildSlice t len ps=>match H7 ρ ps.toList with
  | some vs=>Dk P t len vs λe cs=>Nw (.cells cs.toArray e (0,0)) h λa h'=>K (.slice (some a) len len) h'
  | none=>False
 | .makeMap t r=>match r with
  | none=>Nw (.map #[] 0) h λa h'=>K (.map (some a.block)) h'
  | some _=>False
 | .makeSlice t l c=>wv (ev ρ l) λvl=>wv (ev ρ c) λvc=>match P.underlying t,vl,vc with
  | some (.slice e),.int .i64 n,.int .i64 m=>match P.info? e with
   | some te=>match te.zero with
    | some z=>gN (z.cells.size==te.size&&Nat.blt 0 te.size) (Mk n m te.bytes e z.cells.toList h λs h'=>K (.slice s.a s.len s.cap) h')
    | none=>False
   | none=>False
  | _,_,_=>False
 | .range t x=>wv (ev ρ x) λv=>rG P t λki c=>match v with
  | .map m=>sr ki c m h λa h'=>K (.pointer (some a)) h'
  | _=>False
 | .mapUpdate t m k x=>wv (ev ρ m) λvm=>wv (ev ρ k) λvk=>wv (ev ρ x) λvx=>rG P t λki c=>match vm,vk with
  | .map m,.int k' n=>if ki=k' then pq c vx λx=>kR ki c m n x h λh'=>K undef h' else False
  | _,_=>False
 | .call c=>match c.callee,qL ρ c.args.toList,c.argTypes.toList with
  | .value (.func f),some args,_=>Bq P f args h K
  | .value g,some args,_=>wv (ev ρ g) λvg=>pq .fn vg λfv=>B9 P fv args ty h K
  | .invoke r name,some args,_=>wv (ev ρ r) λvr=>DL P vr name args ty h K
  | .builtin .append,some [.slice sa sn sc,.slice xa xn xc],[t,t']=>match P.underlying t with
   | some (.slice e)=>match P.info? e with
    | some te=>match te.zero with
     | some z=>gN (Nat.beq t t'&&z.cells.size==te.size&&Nat.blt 0 te.size) (App ⟨sa,sn,sc⟩ te.size te.bytes e z.cells.toList ⟨xa,xn,xc⟩ h λs h'=>K (.slice s.a s.len s.cap) h')
     | none=>False
    | none=>False
   | _=>False
  | .builtin .delete,some [.map m,.int k' n],t::_=>rG P t λki c=>if ki=k' then mh ki c m n h λh'=>K (.tuple #[]) h' else False
  | .builtin .append,some [.slice sa sn sc,.int .i64 n],[t,t']=>match P.underlying t,P.underlying t' with
   | some (.slice e),some (.int _)=>match P.info? e with
    | some te=>match te.zero with
     | some z=>gN (z.cells.size==te.size&&Nat.blt 0 te.size) (qZ ⟨sa,sn,sc⟩ te.size te.bytes e z.cells.toList n h λs h'=>K (.slice s.a s.len s.cap) h')
     | none=>False
    | none=>False
   | _,_=>False
  | .builtin .copy,some [.slice da dn dc,.slice xa xn xc],t::_=>match P.underlying t with
   | some (.slice e)=>match P.info? e with
    | some te=>sU ⟨da,dn,dc⟩ te.size ⟨xa,xn,xc⟩ h λz h'=>K (.int .i64 z) h'
    | none=>False
   | _=>False
  | .builtin .clear,some [.slice sa sn sc],[t]=>match P.underlying t with
   | some (.slice e)=>match P.info? e with
    | some te=>match te.zero with
     | some z=>gN (z.cells.size==te.size&&Nat.blt 0 te.size) (Bj ⟨sa,sn,sc⟩ z.cells.toList h λh'=>K (.tuple #[]) h')
     | none=>False
    | none=>False
   | _=>False
  | _,_,_=>False
 | _=>False
def xp (P:Program)(o:Op)(ty:TypeId)(ρ:Env)(h:Hp)(K:Value->Hp->Prop):Prop:=
 bif ug o then qK P o ρ h (λv=>K v h)else eK P o ty ρ h K
theorem Lp:∀{vs:List Value} {A:Prop},Ak vs A->A/\∀v∈vs,dN v=true
 | [],A,h=>⟨h,by simp⟩
 | v::vs,A,h=>by
  have h1:dN v=true/\Ak vs A:=by cases v<;>first|exact h.elim|exact⟨rfl,h⟩
  obtain⟨b,d⟩:=Lp h1.2;exact⟨b,λu a=>by
   rcases zQ.1 a with rfl|a
   ·exact h1.1
   ·exact d u a⟩
theorem ZP.refl (w:World):ZP w w:=⟨rfl,rfl,rfl,zD _⟩
theorem ZP.trans {a b c:World}(h:ZP a b)(k:ZP b c):ZP a c:=⟨k.1.trans h.1,k.2.1.trans h.2.1,k.2.2.1.trans h.2.2.1,zI h.2.2.2 k.2.2.2⟩
theorem Vh (h:Hp)(a:Addr)(v:Value):(kx h a v).size=h.size:=by simp[kx]
theorem Lq {P:Program}{w:World}{a:Addr}{v:Value}(ho:dN v=true)(h1:(cell w.heap a).isSome=true)(h2:oI w.heap a=false):(store a v).run P w=.ok () (w.setCell a v):=by
 obtain⟨u,b⟩:=qC.1 h1;have d:w.cell? a=some u:=b;have e:w.frozen? a=false:=h2;cases v<;>simp[dN]at ho<;>simp[store,Sem.run,d,e]
theorem Gp {P:Program}:∀{vs:List Value} {w:World} {a:Addr} {i:Nat} {K:aP},(∀v∈vs,dN v=true)->qm a w.heap vs i K →
 ∃w',(storeCells a vs i).run P w=.ok () w'/\ZP w w'/\K w'.heap
 | [],w,a,i,K,_,h=>⟨w,by simp[storeCells],.refl _,h⟩
 | v::vs,w,a,i,K,ho,h=>by
  obtain⟨h1,h2,h3⟩:=h;have m:=Lq (P:=P) (ho v aA) h1 h2;obtain⟨w',j,g,d⟩:=Gp (P:=P) (w:=w.setCell (a.add i) v) (λu e=>ho u (by simp[e])) h3;refine⟨w',?_,ZP.trans (b:=w.setCell (a.add i) v) ⟨rfl,rfl,rfl,Nat.le_of_eq (Vh w.heap (a.add i) v).symm⟩ g,d⟩;simp only[storeCells,Sem.run_bind,m,Result.andThen_ok,j]
theorem PU {P:Program}{vs:List Value}{w:World}{a:Addr}{K:aP}(ho:∀v∈vs,dN v=true)(h:CE a vs w.heap K) :
 ∃w',(storeCells a vs).run P w=.ok () w'/\ZP w w'/\K w'.heap:=by
 refine Gp ho ?_;unfold CE at h;split at h
 ·simpa[qm,Addr.add_zero']using h
 ·exact h
def Vj (P:Program)(s:Sem Next)(w:World)(K:Value->Hp->Prop):Prop:=
 (∃v w',s.run P w=.ok (.value v) w'/\ZP w w'/\K v w'.heap) ∨
 (∃w',s.run P w=.ok .skip w'/\ZP w w'/\K undef w'.heap) ∨
 (∃f args rs R,s.run P w=.ok (.enter f args) w/\We P f args rs w.heap R/\∀vs h',Sat (iJ rs) R vs h'->K (pack rs vs) h')
theorem Vj.upon {P:Program}{o:Oper}{a:Act}{w:World}{K:Value->Hp->Prop}{next:Act->World->Prop}{Q:Exit->Act->World->Prop}
 (h:Vj P (execOp a.eval o) w K) (hn:∀v w',ZP w w'->K v w'.heap->next (a.put o.dst v) w'):o.wp P a w next Q:=by
 unfold Oper.wp;rcases h with⟨v,w',hr,b,hK⟩|⟨w',hr,b,hK⟩|⟨f,args,rs,R,hr,hc,hK⟩
 ·rw[hr];exact hn _ _ b hK
 ·rw[hr];exact hn _ _ b hK
 ·rw[hr];refine(hc w rfl).mono λe w' ⟨b,vs,d,g⟩=>?_;subst d;exact hn _ _ b (hK _ _ g)
theorem GM {P:Program}{f:Nat}(h:Hh P f=true)(args:Array Value)(w:World):(callFunc f args).run P w=.ok (.enter f args) w:=by
 unfold Hh at h;split at h
 ·rename_i fn hf;simp only[zF,ni,m8]at h;obtain⟨b,a⟩:=h;obtain⟨c,d⟩:=qC.1 a;simp[callFunc,hf,b,d]
 ·cases h
theorem RA {P:Program}{f:Nat}{args:List Value}{w:World}{K:Value->Hp->Prop}(h:Bq P f args w.heap K):Vj P (callFunc f args.toArray) w K:=by
 unfold Bq at h;split at h
 ·split at h
  ·rename_i rs hrs;split at h
   ·rename_i hc;exact .inr (.inr ⟨f,_,rs,_,GM hc _ _,h,λvs j i=>U4 i⟩)
   ·split at h
    ·obtain⟨b,g,e,d,a⟩:=h w rfl;exact .inl ⟨_,g,e,d,a⟩
    ·exact h.elim
  ·exact h.elim
 ·exact h.elim
theorem LP {P:Program}{fv:Fv}{args:List Value}{ty:Nat}{w:World}{K:Value->Hp->Prop}(h:B9 P fv args ty w.heap K) :
 Vj P (callFunc fv.f (fv.first++args.toArray++fv.captured)) w K:=by
 unfold B9 at h;split at h
 ·rename_i rs _;exact .inr (.inr ⟨_,_,rs,_,GM h.1 _ _,h.2,λvs b a=>U4 a⟩)
 ·exact h.elim
theorem R7 {P:Program}{v:Value}{name:String}{args:List Value}{ty:Nat}{w:World}{K:Value->Hp->Prop}(h:DL P v name args ty w.heap K) :
 Vj P (callMethod v name args.toArray) w K:=by
 unfold DL at h;split at h
 ·rename_i rs _;obtain⟨t,u,f,rfl,b,a,h⟩:=h;refine .inr (.inr ⟨f,_,rs,_,?_,h,λvs e d=>U4 d⟩);simp only[callMethod,Sem.run_bind,run_program,Result.andThen_ok,b,a];simp
 ·exact h.elim
theorem AP {P:Program}{t:Nat}{K:IntKind->CK->Prop}(h:rG P t K):∃kt et k c,P.underlying t=some (.map kt et)/\P.underlying kt=some (.int k)/\K k c:=by
 unfold rG at h;split at h
 ·split at h
  ·exact⟨_,_,_,_,by assumption,by assumption,h⟩
  ·exact h.elim
 ·exact h.elim
theorem Ut (w:World)(o:Obj):ZP w {w with heap:=w.heap.push o}:=⟨rfl,rfl,rfl,by simp⟩
theorem Hz (h:Hp)(r:Nat)(o:Obj):QC h (h.setIfInBounds r o) r:=⟨by simp,λb a=>by rw[xY (Ne.symm a)]⟩
theorem I6 {es:List MapEntry}{k:IntKind}{c:CK}:∀(l:List (Int×c.T)) (es:List MapEntry) (j:Nat) (n:Int) (x:c.T),
 es.map (λe=>(e.key,e.val))=l.map (λx=>(Value.int k x.1,c.v x.2))->(l.map (·.1)).Nodup->l.findIdx? (λx=>x.1==n)=some j →
 (es.modify j λe=>{e with key:=.int k n,val:=c.v x}).map (λe=>(e.key,e.val))=(l.map λy=>if y.1==n then(n,x)else y).map (λx=>(Value.int k x.1,c.v x.2))
 | [],es,j,n,x,he,hn,hj=>by simp at hj
 | y::l,[],j,n,x,he,hn,hj=>by simp at he
 | y::l,e::es,j,n,x,he,hn,hj=>by
  simp only[zJ,List.cons.injEq]at he;simp only[zJ,zq]at hn;simp only[wz]at hj;cases hy:y.1==n
  ·rw[hy]at hj;simp only[zb,zy,rF]at hj;obtain⟨j',hj',rfl⟩:=hj;have:=I6 (es:=es) l es j' n x he.2 hn.2 hj';simp only[List.modify_succ_cons,zJ,this,hy,he.1];simp
  ·rw[hy]at hj;simp at hj;subst hj;have a:y.1=n:=by simpa using hy
   simp only[List.modify_zero_cons,zJ,hy,zS,List.cons.injEq,sS,he.2]
   congr 1
   have:∀z∈l,(z.1==n)=false:=by
    intro z hz;have:z.1≠y.1:=λe=>hn.1 (by rw[←e];exact ye hz);simpa[a]using this
   have e:l=l.map λz=>if z.1==n then(n,x)else z:=by
    conv=>lhs;rw[←wj l]
    apply zw;intro z hz;simp[this z hz]
   exact e
theorem WeE {α:Type}{l:List (Int×α)}{n:Int}{j:Nat}(h:l.findIdx? (λx=>x.1==n)=some j):l.any (λx=>x.1==n)=true:=by
 obtain⟨x,a,rfl⟩:=Us h;rw[j9];exact⟨x,zE a,by simp⟩
theorem GY {α:Type}{l:List (Int×α)}{n:Int}(h:l.findIdx? (λx=>x.1==n)=none):l.any (λx=>x.1==n)=false:=by
 rw[vf]at h;rw[np];simpa using h
theorem ib {α:Type}{l:List (Int×α)}{n:Int}{x:α}(hn:(l.map (·.1)).Nodup):((dF l n x).map (·.1)).Nodup:=by
 unfold dF;split
 ·have:(l.map λy=>if y.1==n then(n,x)else y).map (·.1)=l.map (·.1):=by
   rw[zm];apply zw;intro y _;simp only[Function.comp];split
   ·rename_i h;simp at h;exact h.symm
   ·rfl
  rwa [this]
 ·rename_i h;rw[zr,og];refine⟨hn,by simp,?_⟩;intro a ha b hb;simp at hb;subst hb;rintro rfl;obtain⟨y,d,rfl⟩:=zC.1 ha;exact h (j9.2 ⟨y,d,by simp⟩)
theorem Rr {P:Program}{t kt et:Nat}{k:IntKind}{c:CK}(hu:P.underlying t=some (.map kt et))(hk:P.underlying kt=some (.int k)){r:Nat}{l:List (Int×c.T)}{n:Int}{x:c.T}{w:World}
 (hm:dL w.heap r k c l):∃w',(Instr.mapUpdate t (.map (some r)) (.int k n) (c.v x)).run P w=.ok () w'/\ZP w w'/\QC w.heap w'.heap r/\dL w'.heap r k c (dF l n x):=by
 obtain⟨es,d,u,i,A,F,E⟩:=hm;have D:r<w.heap.size:=(mF.1 u).1;have g:∀o,(w.heap.setIfInBounds r o)[r]?=some o:=λo=>by simp[D]
 cases hf:l.findIdx? (λx=>x.1==n)with
 | some j=>
  obtain⟨y,G,C⟩:=Us hf;have J:j<l.length:=(cQ.1 G).1;have s:es.toList.length=l.length:=by simpa using congrArg List.length i
  have p:j<es.size:=by simp at s;omega
  have z:es[j].key=.int k n:=by
   have:=congrArg (λl=>l[j]?) i;simp only[ze,G,zf]at this;rw[Ag,Array.getElem?_eq_getElem p]at this;simp at this;rw[this.1,C]
  refine⟨{w with heap:=w.heap.setIfInBounds r (.map (es.modify j λe=>{e with key:=.int k n,val:=c.v x}) d)},?_,⟨rfl,rfl,rfl,by simp⟩,Hz _ _ _,?_⟩
  ·simp only[Instr.mapUpdate,Sem.run_bind,run_underlying hu,Result.andThen_ok,QL hk,getObj,Sem.run,u,Kr hk i,hf];simp[Array.getElem?_eq_getElem p,z,Instr.keyThatStays,Instr.sameBits,setObj,Sem.run,u]
  ·refine⟨_,d,g _,?_,ib A,?_,?_⟩
   ·rw[Cp,I6 (es:=[]) l es.toList j n x i A hf];simp[dF,WeE hf]
   ·have:(es.modify j λe=>{e with key:=.int k n,val:=c.v x}).toList.map (·.born)=es.toList.map (·.born):=by
     rw[Cp];apply zz;intro m;simp only[ze,s8];cases es.toList[m]?<;>simp
     split<;>rfl
    rw[this];exact F
   ·intro e he';have:e.born∈(es.modify j λe=>{e with key:=.int k n,val:=c.v x}).toList.map (·.born):=ye he';have M:(es.modify j λe=>{e with key:=.int k n,val:=c.v x}).toList.map (·.born)=es.toList.map (·.born):=by
     rw[Cp];apply zz;intro m;simp only[ze,s8];cases es.toList[m]?<;>simp
     split<;>rfl
    rw[M]at this;obtain⟨H,L,K⟩:=zC.1 this;rw[←K];exact E H L
 | none=>
  refine⟨{w with heap:=w.heap.setIfInBounds r (.map (es.push {key:=.int k n,val:=c.v x,born:=d}) (d+1))},?_,⟨rfl,rfl,rfl,by simp⟩,Hz _ _ _,?_⟩
  ·simp only[Instr.mapUpdate,Sem.run_bind,run_underlying hu,Result.andThen_ok,QL hk,getObj,Sem.run,u,Kr hk i,hf];simp[setObj,Sem.run,u]
  ·refine⟨_,d+1,g _,?_,ib A,?_,?_⟩
   ·simp[dF,GY hf,i]
   ·simp only[Array.toList_push,zr,zJ,oY,pS];refine⟨F,by simp,?_⟩;intro a ha b hb';simp at hb';subst hb';obtain⟨e,B,rfl⟩:=zC.1 ha;exact E e B
   ·intro e he';simp only[Array.toList_push,zR,zV]at he';rcases he' with h|rfl
    ·have:=E e h;omega
    ·simp
theorem UH {k:IntKind}{c:CK}:∀(l:List (Int×c.T)) (es:List MapEntry) (j:Nat) (n:Int),
 es.map (λe=>(e.key,e.val))=l.map (λx=>(Value.int k x.1,c.v x.2))->(l.map (·.1)).Nodup->l.findIdx? (λx=>x.1==n)=some j →
 (es.eraseIdx j).map (λe=>(e.key,e.val))=(cT l n).map (λx=>(Value.int k x.1,c.v x.2))
 | [],es,j,n,he,hn,hj=>by simp at hj
 | y::l,[],j,n,he,hn,hj=>by simp at he
 | y::l,e::es,j,n,he,hn,hj=>by
  simp only[zJ,List.cons.injEq]at he;simp only[zJ,zq]at hn;simp only[wz]at hj;cases hy:y.1==n
  ·rw[hy]at hj;simp only[zb,zy,rF]at hj;obtain⟨j',hj',rfl⟩:=hj;have:=UH l es j' n he.2 hn.2 hj';simp only[List.eraseIdx_cons_succ,zJ,this,cT,qU,hy,he.1];simp
  ·rw[hy]at hj;simp at hj;subst hj;have a:y.1=n:=by simpa using hy
   simp only[List.eraseIdx_zero,List.tail_cons,cT,qU,hy,Bool.not_true,zb,zy,he.2]
   congr 1
   symm
   rw[nT];intro z hz;have:z.1≠y.1:=λe=>hn.1 (by rw[←e];exact ye hz);simpa[a]using this
theorem Ho {α:Type}{l:List (Int×α)}{n:Int}(h:l.findIdx? (λx=>x.1==n)=none):cT l n=l:=by
 rw[vf]at h;unfold cT;rw[nT];intro z hz;have:=h z hz;simpa using this
theorem jL {α:Type}{l:List (Int×α)}{n:Int}(hn:(l.map (·.1)).Nodup):((cT l n).map (·.1)).Nodup:=
 hn.sublist (List.Sublist.map _ rO)
theorem Sy {P:Program}{t kt et ty:Nat}{k:IntKind}{c:CK}(hu:P.underlying t=some (.map kt et))(hk:P.underlying kt=some (.int k)){m:Option Nat}{l:List (Int×c.T)}{n:Int}{w:World}{ats:List Nat}
 (hm:jK w.heap m k c l):∃w',(Builtin.delete_ (t::ats).toArray ty #[.map m,.int k n]).run P w=.ok (.tuple #[]) w'/\ZP w w'/\(∀r,m=some r->QC w.heap w'.heap r)/\(m=none->w'.heap=w.heap)/\jK w'.heap m k c (cT l n):=by
 cases m with
 | none=>
  simp only[jK]at hm;subst hm;exact⟨w,by simp[Builtin.delete_,run_underlying hu,QL hk],.refl _,λr h=>(by cases h),λ_=>rfl,rfl⟩
 | some r=>
  obtain⟨g,a,p,d,s,u,y⟩:=hm;have i:r<w.heap.size:=(mF.1 p).1;have b:∀o,(w.heap.setIfInBounds r o)[r]?=some o:=λo=>by simp[i]
  cases hf:l.findIdx? (λx=>x.1==n)with
  | some j=>
   refine⟨{w with heap:=w.heap.setIfInBounds r (.map (g.eraseIdxIfInBounds j) a)},?_,⟨rfl,rfl,rfl,by simp⟩,λz h=>(by cases h;exact Hz _ _ _),(λh=>by cases h),?_⟩
   ·simp[Builtin.delete_,run_underlying hu,QL hk,getObj,Sem.run,p,Kr hk d,hf,setObj]
   ·refine⟨_,a,b _,?_,jL s,?_,?_⟩
    ·rw[DI];exact UH l g.toList j n d s hf
    ·rw[DI];exact u.sublist (List.Sublist.map _ (List.eraseIdx_sublist _ _))
    ·rw[DI];intro e he';exact y e ((List.eraseIdx_sublist _ _).mem he')
  | none=>
   refine⟨{w with heap:=w.heap.setIfInBounds r (.map g a)},?_,⟨rfl,rfl,rfl,by simp⟩,λz h=>(by cases h;exact Hz _ _ _),(λh=>by cases h),?_⟩
   ·simp[Builtin.delete_,run_underlying hu,QL hk,getObj,Sem.run,p,Kr hk d,hf,setObj]
   ·rw[Ho hf];exact⟨g,a,b _,d,s,u,y⟩
theorem uW {P:Program}{w:World}{sz n:Nat}{s:Sl}{xs:List Value}(hl:xs.length=s.len*sz)(h:Rd w.heap s.a xs)(hn:n=s.len) :
 (Builtin.firstCells sz n (.slice s.a s.len s.cap)).run P w=.ok xs.toArray w:=by
 subst hn;obtain⟨a,len,cap⟩:=s;cases a with
 | none=>simp only[Rd]at h;subst h;simp[Builtin.firstCells]
 | some a=>
  simp only at hl h;simp only[Builtin.firstCells];rw[←hl];have:=run_loadCells_list (P:=P) (w:=w) a xs (λj v b=>h j v b);exact this
theorem Vy {z:Array Value}(hz:0<z.size):∀n,Builtin.zeroCells z n=(List.replicate n z.toList).flatten.toArray:=by
 intro n;apply Array.ext';simp only[Builtin.zeroCells,Array.toList_map,Array.toList_range]
 induction n with
 | zero=>simp
 | succ n ih=>
  rw[DD,Dl];simp only[uU,List.flatten_nil,j8];rw[←ih];rw[Nat.succ_mul,List.range_add,zr,zm]
  congr 1
  apply List.ext_getElem
  ·simp
  ·intro i h1 h2;simp at h1 h2;simp[uG h1,h1]
theorem I5 (n c:Nat)(h:¬n<=c):Builtin.nextslicecap n c<=2*n:=by
 unfold Builtin.nextslicecap;split
 ·omega
 ·split
  ·omega
  ·have key:∀r c,c<=2*n->(Builtin.growBy n r c)<=2*n:=by
    intro r
    induction r with
    | zero=>intro c hc;simpa[Builtin.growBy]using hc
    | succ r ih=>
     intro c hc;simp only[Builtin.growBy];split
     ·exact hc
     ·exact ih _ O
   exact key _ _ O
theorem MK {P:Program}{t e ty:Nat}{te:TypeInfo}{z:Value}{s x:Sl}{K:Sl->Hp->Prop}{w:World}(hu:P.underlying t=some (.slice e))(hi:P.info? e=some te)(hz:te.zero=some z)(hzs:z.cells.size=te.size)(hpos:0<te.size)
 (h:App s te.size te.bytes e z.cells.toList x w.heap K) :
 ∃r w',(Builtin.append_ #[t,t] ty #[.slice s.a s.len s.cap,.slice x.a x.len x.cap]).run P w=.ok (.slice (Sl.a r) r.len r.cap) w'/\ZP w w'/\K r w'.heap:=by
 obtain⟨F,N,H,G,M,L,E,V,W,b,d⟩:=h;have p:=uW (P:=P) (n:=s.len) H M rfl;have i:=uW (P:=P) (n:=x.len) G L rfl;by_cases hroom:s.len+x.len<=s.cap
 ·have b:=b hroom;cases hsa:s.a with
  | some a=>
   rw[hsa]at b;obtain⟨w',Q,S,C⟩:=Gp (P:=P) E b;rw[hsa]at p;refine⟨⟨some a,s.len+x.len,s.cap⟩,w',?_,S,C⟩;simp[Builtin.append_,run_underlying hu,sizeOf,typeInfo,hi,Builtin.lenOf,hroom,i,Q]
  | none=>
   rw[hsa]at b;rw[hsa]at p;refine⟨⟨none,s.len+x.len,s.cap⟩,w,?_,.refl _,b⟩;simp[Builtin.append_,run_underlying hu,sizeOf,typeInfo,hi,Builtin.lenOf,hroom,i]
 ·have d:=d hroom;have m:¬(2^48<Builtin.nextslicecap (s.len+x.len) s.cap*te.bytes):=by
   have:=I5 (s.len+x.len) s.cap hroom;have:Builtin.nextslicecap (s.len+x.len) s.cap*te.bytes<=2*(s.len+x.len)*te.bytes:=lN _ this;rw[xj]at this;omega
  have J:¬(IntKind.i64.max<((s.len+x.len:Nat):Int)):=by
   have:IntKind.i64.max=9223372036854775807:=by decide
   rw[this];omega
  have A:¬(IntKind.i64.max<((s.len:Int)+(x.len:Int))):=by
   have:IntKind.i64.max=9223372036854775807:=by decide
   rw[this];omega
  have B:=Vy (z:=z.cells) O;have y:s.cap<s.len+x.len:=by omega
  have g:¬(281474976710656<Builtin.nextslicecap (s.len+x.len) s.cap*te.bytes):=by simpa using m
  let q:=Question.appendCap (s.len+x.len) s.cap e
  let c:=q.cut (w.tape w.drawn q)
  have R:s.len+x.len<=c:=by simp only[c,q,Question.cut];omega
  have C:=d c R;refine⟨⟨some ⟨w.heap.size,0,none⟩,s.len+x.len,c⟩,{w with drawn:=w.drawn+1,heap:=w.heap.push (.cells (F++N++(List.replicate (c-(s.len+x.len)) z.cells.toList).flatten).toArray e (0,0))},?_,⟨rfl,rfl,rfl,by simp⟩,C⟩;have U:(Question.appendCap (s.len+x.len) s.cap e).forced=false:=rfl;have D:¬(9223372036854775807<(s.len:Int)+(x.len:Int)):=by omega
  have u:=uW (P:=P) (w:=w.drew) (n:=s.len) H (show Rd w.drew.heap s.a F from M) rfl;have j:=uW (P:=P) (w:=w.drew) (n:=x.len) G (show Rd w.drew.heap x.a N from L) rfl;simp[Builtin.append_,run_underlying hu,sizeOf,typeInfo,hi,Builtin.lenOf,hroom,D,U,g,u,j,zeroValue,hz,B,newRow];refine⟨rfl,?_⟩;unfold World.alloc World.drew;simp[c,q]
theorem χ {P:Program}{t t' e ty:Nat}{te:TypeInfo}{z:Value}{s:Sl}{n:Int}{ki:IntKind}{K:Sl->Hp->Prop}{w:World}(hu:P.underlying t=some (.slice e))(hu':P.underlying t'=some (.int ki))(hi:P.info? e=some te)(hz:te.zero=some z)(hzs:z.cells.size=te.size)(hpos:0<te.size)
 (h:qZ s te.size te.bytes e z.cells.toList n w.heap K) :
 ∃r w',(Builtin.append_ #[t,t'] ty #[.slice s.a s.len s.cap,.int .i64 n]).run P w=.ok (.slice (Sl.a r) r.len r.cap) w'/\ZP w w'/\K r w'.heap:=by
 obtain⟨R,V,X,W,L,h5,h6,Y,i,m⟩:=h;obtain⟨n,rfl⟩:=zk R;simp only[dC]at h5 h6 Y i m;have F:=uW (P:=P) (n:=s.len) X W rfl;have S:∀v∈(List.replicate n z.cells.toList).flatten,dN v=true:=by
  intro v G;simp only[List.mem_flatten,yI]at G;obtain⟨l,⟨_,rfl⟩,G⟩:=G;exact L v G
 have y:IntKind.i64.wrap (n:Int)=n:=by unfold IntKind.wrap;simp[IntKind.bits,IntKind.signed];omega
 have D:IntKind.i64.wrap 0=0:=by decide
 have u:=Vy (z:=z.cells) O;have C:¬((n:Int)<0):=by omega
 have M:¬((n:Int)*(te.bytes:Int)>2^48):=by
  have:(2:Int)^46<=2^48:=by decide
  omega
 have p:¬(281474976710656<(n:Int)*(te.bytes:Int)):=by simpa using M
 have U:n*te.size=0->(List.replicate n z.cells.toList).flatten=[]:=by
  intro h0;rcases vB.1 h0 with h|h
  ·subst h;simp
  ·omega
 by_cases hroom:s.len+n<=s.cap
 ·have i:=i hroom;cases hsa:s.a with
  | some a=>
   rw[hsa]at i;obtain⟨w',N,io,J⟩:=Gp (P:=P) S i;rw[hsa]at F;refine⟨⟨some a,s.len+n,s.cap⟩,w',?_,io,J⟩;by_cases hn:n*te.size=0
   ·have:=U hn;rw[this]at N;rcases vB.1 hn with hn'|hn'
    ·subst hn';have b:s.len<=s.cap:=by simpa using hroom
     simp[Builtin.append_,run_underlying hu,run_underlying hu',sizeOf,typeInfo,hi,Builtin.lenOf,b,asInt,asIntOf,D,N]
    ·omega
   ·have d:¬n=0:=λe=>hn (by rw[e];simp);have g:¬te.size=0:=by omega
    simp[Builtin.append_,run_underlying hu,run_underlying hu',sizeOf,typeInfo,hi,Builtin.lenOf,hroom,N,asInt,asIntOf,y,C,p,hn,d,g,zeroValue,hz,u]
  | none=>
   rw[hsa]at i;rw[hsa]at F;refine⟨⟨none,s.len+n,s.cap⟩,w,?_,.refl _,i⟩;by_cases hn:n*te.size=0
   ·rcases vB.1 hn with hn'|hn'
    ·subst hn';have b:s.len<=s.cap:=by simpa using hroom
     simp[Builtin.append_,run_underlying hu,run_underlying hu',sizeOf,typeInfo,hi,Builtin.lenOf,b,asInt,asIntOf,D]
    ·omega
   ·have d:¬n=0:=λe=>hn (by rw[e];simp);have g:¬te.size=0:=by omega
    simp[Builtin.append_,run_underlying hu,run_underlying hu',sizeOf,typeInfo,hi,Builtin.lenOf,hroom,asInt,asIntOf,y,C,p,hn,d,g,zeroValue,hz,u]
 ·have m:=m hroom;have A:¬(2^48<Builtin.nextslicecap (s.len+n) s.cap*te.bytes):=by
   have:=I5 (s.len+n) s.cap hroom;have:Builtin.nextslicecap (s.len+n) s.cap*te.bytes<=2*(s.len+n)*te.bytes:=lN _ this;rw[xj]at this;omega
  have j:¬(281474976710656<Builtin.nextslicecap (s.len+n) s.cap*te.bytes):=by simpa using A
  let q:=Question.appendCap (s.len+n) s.cap e
  let c:=q.cut (w.tape w.drawn q)
  have Z:s.len+n<=c:=by simp only[c,q,Question.cut];omega
  have J:=m c Z;refine⟨⟨some ⟨w.heap.size,0,none⟩,s.len+n,c⟩,{w with drawn:=w.drawn+1,heap:=w.heap.push (.cells (V++(List.replicate n z.cells.toList).flatten++(List.replicate (c-(s.len+n)) z.cells.toList).flatten).toArray e (0,0))},?_,⟨rfl,rfl,rfl,by simp⟩,J⟩;have hf:(Question.appendCap (s.len+n) s.cap e).forced=false:=rfl;have Q:¬(9223372036854775807<(s.len:Int)+(n:Int)):=by omega
  have x:=uW (P:=P) (w:=w.drew) (n:=s.len) X (show Rd w.drew.heap s.a V from W) rfl;by_cases hn:n*te.size=0
  ·rcases vB.1 hn with hn'|hn'
   ·subst hn';have b:¬s.len<=s.cap:=by simpa using hroom
    have B:¬(281474976710656<Builtin.nextslicecap s.len s.cap*te.bytes):=by simpa using j
    have H:(Question.appendCap s.len s.cap e).forced=false:=rfl;have E:¬(9223372036854775807<(s.len:Int)):=by omega
    simp[Builtin.append_,run_underlying hu,run_underlying hu',sizeOf,typeInfo,hi,Builtin.lenOf,b,E,H,B,x,zeroValue,hz,u,newRow,asInt,asIntOf,D];refine⟨rfl,?_⟩;unfold World.alloc World.drew;simp[c,q]
   ·omega
  ·have d:¬n=0:=λe=>hn (by rw[e];simp);have g:¬te.size=0:=by omega
   simp[Builtin.append_,run_underlying hu,run_underlying hu',sizeOf,typeInfo,hi,Builtin.lenOf,hroom,Q,hf,j,x,zeroValue,hz,u,newRow,asInt,asIntOf,y,C,p,hn,d,g];refine⟨rfl,?_⟩;unfold World.alloc World.drew;simp[c,q]
theorem M0 {P:Program}{t e ty:Nat}{ats:List TypeId}{te:TypeInfo}{d s:Sl}{K:aN}{w:World}(hu:P.underlying t=some (.slice e))(hi:P.info? e=some te)
 (h:sU d te.size s w.heap K):∃z w',(Builtin.copy_ (t::ats).toArray ty #[.slice d.a d.len d.cap,.slice s.a s.len s.cap]).run P w=.ok (.int .i64 z) w'/\ZP w w'/\K z w'.heap:=by
 obtain⟨p,r,m,B,i⟩:=h;have g:(Builtin.firstCells te.size (min s.len d.len) (.slice s.a s.len s.cap)).run P w=.ok p.toArray w:=by
  obtain⟨a,len,cap⟩:=s;cases a with
  | none=>simp only[Rd]at m;subst m;simp[Builtin.firstCells]
  | some a=>
   simp only at r m;simp only[Builtin.firstCells];rw[←r];exact run_loadCells_list (P:=P) (w:=w) a p (λj v A=>m j v A)
 have b:Nat.min s.len d.len=min s.len d.len:=rfl;cases hda:d.a with
 | none=>
  rw[hda]at i;refine⟨_,w,?_,.refl _,i⟩;simp[Builtin.copy_,run_underlying hu,sizeOf,typeInfo,hi,Builtin.lenOf,g,b,goInt]
 | some a=>
  rw[hda]at i;obtain⟨w',y,x,u⟩:=Gp (P:=P) B i;refine⟨_,w',?_,x,u⟩;simp[Builtin.copy_,run_underlying hu,sizeOf,typeInfo,hi,Builtin.lenOf,g,b,y,goInt]
theorem Tp {P:Program}{t e ty:Nat}{te:TypeInfo}{z:Value}{s:Sl}{K:aP}{w:World}(hu:P.underlying t=some (.slice e))(hi:P.info? e=some te)(hz:te.zero=some z)(hzs:z.cells.size=te.size)(hpos:0<te.size)
 (h:Bj s z.cells.toList w.heap K):∃w',(Builtin.clear_ #[t] ty #[.slice s.a s.len s.cap]).run P w=.ok (.tuple #[]) w'/\ZP w w'/\K w'.heap:=by
 obtain⟨m,h⟩:=h;have d:=Vy (z:=z.cells) O;obtain⟨a,len,cap⟩:=s;cases a with
 | none=>exact⟨w,by simp[Builtin.clear_,run_underlying hu],.refl _,h⟩
 | some a=>
  simp only at h;cases len with
  | zero=>
   simp[qm]at h;exact⟨w,by simp[Builtin.clear_,run_underlying hu],.refl _,h⟩
  | succ n=>
   obtain⟨w',j,i,g⟩:=Gp (P:=P) (λv b=>by
    simp only[List.mem_flatten,yI]at b;obtain⟨l,⟨_,rfl⟩,b⟩:=b;exact m v b) h
   refine⟨w',?_,i,g⟩;simp[Builtin.clear_,run_underlying hu,zeroValue,typeInfo,hi,hz,d,j]
theorem Rp {P:Program}{t len:Nat}{ps:List (Nat×Value)}{K:TypeId->List Value->Prop}(h:Dk P t len ps K):∃e te z cs,P.underlying t=some (.slice e)/\P.info? e=some te/\te.zero=some z/\K e cs ∧
 ((len=0/\ps=[]/\cs=[])\/(len*te.size<=16777216/\0<len*te.size/\z.cells.size=te.size/\r7 (λi=>some (i*te.size,te.size)) (List.replicate len z.cells.toList).flatten ps=some cs)):=by
 unfold Dk at h;split at h
 case h_2=>exact h.elim
 rename_i e hu;split at h
 case h_2=>exact h.elim
 rename_i te hi;split at h
 case h_2=>exact h.elim
 rename_i z hz;split at h
 ·exact⟨e,te,z,[],hu,hi,hz,h,.inl ⟨rfl,rfl,rfl⟩⟩
 ·exact h.elim
 ·rw[WH]at h;obtain⟨a,h⟩:=h;simp only[zF,zZ]at a;split at h
  case h_2=>exact h.elim
  rename_i cs hf;exact⟨e,te,z,cs,hu,hi,hz,h,.inr ⟨Nat.le_of_ble_eq_true a.1.1,Nat.blt_eq.mp a.1.2,a.2,hf⟩⟩
theorem IN {z:Array Value}(hz:0<z.size)(n:Nat):((Array.range (n*z.size)).map (z[· % z.size]!))=(List.replicate n z.toList).flatten.toArray:=Vy hz n
theorem SY {P:Program}{ρ:Env}{K:Value->Hp->Prop}{a:Act}{w:World}(hf:∀x v,ev ρ x=some v->a.eval x=v)(o:Oper)(hk:eK P o.op o.type ρ w.heap K) :
 Vj P (execOp a.eval o) w K:=by
 obtain⟨dst,op,ty,pos,after,guard⟩:=o;simp only at hk;have p:∀{s:Sem Value},(∃v C,s.run P w=.ok v C/\ZP w C/\K v C.heap)->Vj P (do pure (Next.value (←s)):Sem Next) w K:=by
  rintro s ⟨v,C,hv,J,D⟩;exact .inl ⟨v,C,by simp[hv],J,D⟩
 have N:∀{s:Sem Unit},(∃C,s.run P w=.ok () C/\ZP w C/\K undef C.heap)->Vj P (do s;pure Next.skip:Sem Next) w K:=by
  rintro s ⟨C,hv,J,D⟩;exact .inr (.inl ⟨C,by simp[hv],J,D⟩)
 unfold eK at hk;split at hk
 case h_1 t x y=>
  obtain⟨va,M,hk0⟩:=Wq hk;clear hk;obtain⟨Z,hx,hk⟩:=Wq hk0;clear hk0;simp only[execOp,hf _ _ M,hf _ _ hx];split at hk
  ·rename_i ad;cases hraw:wT P t
   case true=>
    rw[hraw]at hk;simp only[cond_true]at hk;rw[WH]at hk;obtain⟨hc,hif,s1,s2,D⟩:=hk;simp only[zF,zZ]at hc;obtain⟨h1,h2⟩:=hc;apply N;have hone:dN Z=true:=by rcases hif with rfl|⟨t',u,rfl⟩<;>rfl
    have G:Z.cells = #[Z]:=by rcases hif with rfl|⟨t',u,rfl⟩<;>rfl
    have B:=Lq (P:=P) (w:=w) hone s1 s2;refine⟨w.setCell ad Z,?_,⟨rfl,rfl,rfl,Nat.le_of_eq (Vh w.heap ad Z).symm⟩,D⟩;have hr':(storeCells ad #[Z].toList).run P w=.ok () (w.setCell ad Z):=by
     simp only[storeCells,Addr.add_zero',Sem.run_bind,B,Result.andThen_ok];rfl
    simp only[Instr.storeAt,Instr.sureAddr,Sem.run_bind,Sem.run_pure,Result.andThen_ok,storeVar,QR h1,h2,G,ne_eq,zy];simpa using hr'
   rw[hraw]at hk;simp only[cond_false]at hk;rw[WH]at hk;obtain⟨hc,hk⟩:=hk;simp only[zF,zZ]at hc;obtain⟨h1,h2⟩:=hc;obtain⟨hk,h3⟩:=Lp hk;apply N;obtain⟨C,B,J,D⟩:=PU (P:=P) h3 hk;refine⟨C,?_,J,D⟩;simp only[Instr.storeAt,Instr.sureAddr,Sem.run_bind,Sem.run_pure,Result.andThen_ok,storeVar,QR h1,h2,ne_eq,not_true_eq_false,zy];simpa using B
  ·exact hk.elim
 case h_2 e=>
  split at hk
  case h_2=>exact hk.elim
  rename_i Q H;split at hk
  case h_2=>exact hk.elim
  rename_i z S;apply p;refine⟨_,_,?_,Ut _ _,hk⟩;simp[Instr.alloc,VE H S,newVar,newRow,newObj,Sem.run]
 case h_3 e x=>
  obtain⟨v,hv,hk⟩:=Wq hk;simp only[execOp,hf _ _ hv];apply p;cases hraw:wT P e
  case true=>
   rw[hraw]at hk;simp only[cond_true]at hk;have G:v.cells = #[v]:=by rcases hk.1 with rfl|⟨t',u,rfl⟩<;>rfl
   refine⟨_,_,?_,Ut _ _,hk.2⟩;simp[Instr.box,newVar,newRow,newObj,Sem.run,G]
  rw[hraw]at hk;refine⟨_,_,?_,Ut _ _,hk⟩;simp[Instr.box,newVar,newRow,newObj,Sem.run]
 case h_4 t len ps=>
  split at hk
  case h_2=>exact hk.elim
  rename_i vs hps;have L:=V8 hf hps;have d:ps.map (λ(i,x)=>(i,a.eval x))=vs.toArray:=by apply Array.ext';simpa using L
  obtain⟨e,Q,z,cs,E,H,S,hk,hcase⟩:=Rp hk;simp only[execOp,d];apply p;refine⟨_,_,?_,Ut _ _,hk⟩;rcases hcase with⟨rfl,rfl,rfl⟩|⟨hle,hpos,hzs,hfl⟩
  ·simp only[Instr.buildSlice,Sem.run_bind,run_underlying E,Result.andThen_ok,sizeOf,V6 H,Sem.run_pure,tC];simp[Instr.fill,newRow,newObj,Sem.run,Array.range_zero']
  have hts:0<Q.size:=Nat.pos_of_mul_pos_left hpos;have hfill:=UI _ _ _ _ hfl;have X:=IN (z:=z.cells) O len;rw[hzs]at X;have hne:¬(len*Q.size=0):=by omega
  have hle':¬(len*Q.size>2^24):=by
   have:(2:Nat)^24=16777216:=by decide
   omega
  simp only[Instr.buildSlice,Sem.run_bind,run_underlying E,Result.andThen_ok,sizeOf,V6 H,Sem.run_pure,hle',zy,hne,VE H S,X,hzs,hfill,newRow,newObj,Sem.run]
 case h_5 t r=>
  split at hk
  ·apply p;refine⟨_,_,?_,Ut _ _,hk⟩;simp[Instr.makeMap,newObj,Sem.run]
  ·exact hk.elim
 case h_6 t l c=>
  obtain⟨vl,hl,hk⟩:=Wq hk;obtain⟨vc,hc,hk⟩:=Wq hk;simp only[execOp,hf _ _ hl,hf _ _ hc];split at hk
  case h_2=>exact hk.elim
  rename_i e n m E _;split at hk
  case h_2=>exact hk.elim
  rename_i Q H;split at hk
  case h_2=>exact hk.elim
  rename_i z S;rw[WH]at hk;obtain⟨j,h0,h1,h2,h3,hk⟩:=hk;simp only[zF,zZ]at j;have hpos:0<Q.size:=Nat.blt_eq.mp j.2;apply p;refine⟨_,_,?_,Ut _ _,hk⟩;have hwn:IntKind.i64.wrap n=n:=by unfold IntKind.wrap;simp[IntKind.bits,IntKind.signed];omega
  have hwm:IntKind.i64.wrap m=m:=by unfold IntKind.wrap;simp[IntKind.bits,IntKind.signed];omega
  have hbig:¬((Q.bytes:Int)*m>2^48):=by
   have:(2:Int)^46<=2^48:=by decide
   omega
  have hm0:¬m<0:=by omega
  have hn0:¬n<0:=by omega
  have hnm:¬n>m:=by omega
  have hnm':¬m<n:=by omega
  have X:=IN (z:=z.cells) O m.toNat;have hrz2:Array.map (λx=>z.cells[x%z.cells.size]!) (Array.range (m.toNat*Q.size))=(List.replicate m.toNat z.cells.toList).flatten.toArray:=by rw[←j.1];exact X
  have U:¬(281474976710656<(Q.bytes:Int)*m):=by simpa using hbig
  by_cases hz0:m.toNat*Q.size=0
  ·have hmz:m.toNat=0:=by
    rcases vB.1 hz0 with h|h
    ·exact h
    ·omega
   simp[Instr.makeSlice,run_underlying E,V6 H,asInt,asIntOf,hwn,hwm,U,hm0,hn0,hnm,hnm',askRoom,mark,sizeOf,hmz,newRow];rw[show Array.range 0 = #[]from rfl];simp
  ·simp[Instr.makeSlice,run_underlying E,V6 H,asInt,asIntOf,hwn,hwm,U,hm0,hn0,hnm,hnm',askRoom,mark,sizeOf,hz0,VE H S,newRow,hrz2];intro _;rfl
 case h_7 t x=>
  obtain⟨v,hv,F⟩:=Wq hk;obtain⟨kt,et,ki,c,E,W,R⟩:=AP F;clear hk F;simp only[execOp,hf _ _ hv];split at R
  case h_2=>exact R.elim
  rename_i m;apply p;obtain⟨l,hm,D⟩:=R;cases m with
  | none=>
   refine⟨_,{w with heap:=w.heap.push (.mapIter none 0 #[] 0)},?_,Ut _ _,D _ aA (λb hb=>by simp[yZ,w8 hb]) ?_⟩
   ·simp[Instr.range,run_underlying E,newObj,Sem.run]
   ·simp only[jK]at hm;exact⟨hm,hm,rfl,0,#[],0,by simp⟩
  | some b=>
   obtain⟨es,clk,B,he,hn,hp,hb⟩:=hm;have hlt:b<w.heap.size:=(mF.1 B).1;refine⟨_,{w with heap:=w.heap.push (.mapIter (some b) clk #[] clk)},?_,Ut _ _,D _ aA (λb hb=>by simp[yZ,w8 hb]) ?_⟩
   ·simp[Instr.range,run_underlying E,newObj,getObj,Sem.run,B]
   ·exact⟨es,clk,#[],by simp,by simp[yZ,w8 hlt,B],he,hn,hp,hb,by rw[nT.2 (λe _=>by simp)];exact he,λx hx=>by cases hx⟩
 case h_8 t m k x=>
  obtain⟨vm,hm,F⟩:=Wq hk;obtain⟨vk,hkk,R⟩:=Wq F;obtain⟨Z,hx,hk3⟩:=Wq R;obtain⟨kt,et,ki,c,E,W,V⟩:=AP hk3;clear hk F R hk3;simp only[execOp,hf _ _ hm,hf _ _ hkk,hf _ _ hx];split at V
  ·split at V
   ·rename_i e;subst e;obtain⟨x,rfl,r,l,rfl,hl,D⟩:=Ux V;apply N;obtain⟨C,B,J,ho,hl'⟩:=Rr (P:=P) E W (x:=x) hl;exact⟨C,B,J,D _ ho hl'⟩
   ·exact V.elim
  ·exact V.elim
 case h_9 c=>
  obtain⟨callee,A,ats⟩:=c;simp only at hk;split at hk
  ·rename_i f args' M;have L:=Z2 hf M;have d:A.map a.eval=args'.toArray:=by apply Array.ext';simpa using L
   have:=RA hk;simpa[execOp,resolve,d,Act.eval,Deferred.ofValue,invoke]using this
  ·rename_i g args' _ M;obtain⟨vg,hg,hk⟩:=Wq hk;obtain⟨fv,rfl,hk⟩:=Ux hk;have L:=Z2 hf M;have d:A.map a.eval=args'.toArray:=by apply Array.ext';simpa using L
   have:=LP hk;simpa[execOp,resolve,d,hf _ _ hg,CK.v,Deferred.ofValue,invoke]using this
  ·rename_i r name args' M;obtain⟨vr,B,hk⟩:=Wq hk;have L:=Z2 hf M;have d:A.map a.eval=args'.toArray:=by apply Array.ext';simpa using L
   have:=R7 hk;simpa[execOp,resolve,d,hf _ _ B,invoke]using this
  ·rename_i sa sn sc xa xn xc t t' M ht;have L:=Z2 hf M;have d:A.map a.eval = #[.slice sa sn sc,.slice xa xn xc]:=by apply Array.ext';simpa using L
   have Y:ats = #[t,t']:=by apply Array.ext';simpa using ht
   subst Y;split at hk
   case h_2=>exact hk.elim
   rename_i e E;split at hk
   case h_2=>exact hk.elim
   rename_i Q H;split at hk
   case h_2=>exact hk.elim
   rename_i z S;rw[WH]at hk;obtain⟨j,hk⟩:=hk;simp only[zF,zZ]at j;obtain⟨⟨h1,h2⟩,h3⟩:=j;have ett:t=t':=lC h1;subst ett;obtain⟨r,C,B,J,D⟩:=MK (P:=P) (ty:=ty) E H S h2 (Nat.blt_eq.mp h3) hk;refine .inl ⟨_,C,?_,J,D⟩;simp only at B;simp[execOp,resolve,d,invoke,builtin,B]
  ·rename_i m k' n t ats' M ht;have L:=Z2 hf M;have d:A.map a.eval = #[.map m,.int k' n]:=by apply Array.ext';simpa using L
   have Y:ats=(t::ats').toArray:=by apply Array.ext';simpa using ht
   subst Y;obtain⟨kt,et,ki,c,E,W,F⟩:=AP hk;clear hk;split at F
   ·rename_i e;subst e;obtain⟨l,hl,D⟩:=F;obtain⟨C,B,J,h1,h2,h3⟩:=Sy (P:=P) (ty:=ty) (ats:=ats') E W (n:=n) hl;refine .inl ⟨_,C,?_,J,D _ h1 h2 h3⟩;simp[execOp,resolve,d,invoke,builtin,B]
   ·exact F.elim
  ·rename_i sa sn sc n t t' M ht;have L:=Z2 hf M;have d:A.map a.eval = #[.slice sa sn sc,.int .i64 n]:=by apply Array.ext';simpa using L
   have Y:ats = #[t,t']:=by apply Array.ext';simpa using ht
   subst Y;split at hk
   case h_2=>exact hk.elim
   rename_i e ki E hu';split at hk
   case h_2=>exact hk.elim
   rename_i Q H;split at hk
   case h_2=>exact hk.elim
   rename_i z S;rw[WH]at hk;obtain⟨j,hk⟩:=hk;simp only[zF,zZ]at j;obtain⟨r,C,B,J,D⟩:=χ (P:=P) (ty:=ty) E hu' H S j.1 (Nat.blt_eq.mp j.2) hk;refine .inl ⟨_,C,?_,J,D⟩;simp only at B;simp[execOp,resolve,d,invoke,builtin,B]
  ·rename_i da dn dc xa xn xc t ats' M ht;have L:=Z2 hf M;have d:A.map a.eval = #[.slice da dn dc,.slice xa xn xc]:=by apply Array.ext';simpa using L
   have Y:ats=(t::ats').toArray:=by apply Array.ext';simpa using ht
   subst Y;split at hk
   case h_2=>exact hk.elim
   rename_i e E;split at hk
   case h_2=>exact hk.elim
   rename_i Q H;obtain⟨r,C,B,J,D⟩:=M0 (P:=P) (ty:=ty) (ats:=ats') E H hk;refine .inl ⟨_,C,?_,J,D⟩;simp only at B;simp[execOp,resolve,d,invoke,builtin,B]
  ·rename_i sa sn sc t M ht;have L:=Z2 hf M;have d:A.map a.eval = #[.slice sa sn sc]:=by apply Array.ext';simpa using L
   have Y:ats = #[t]:=by apply Array.ext';simpa using ht
   subst Y;split at hk
   case h_2=>exact hk.elim
   rename_i e E;split at hk
   case h_2=>exact hk.elim
   rename_i Q H;split at hk
   case h_2=>exact hk.elim
   rename_i z S;rw[WH]at hk;obtain⟨j,hk⟩:=hk;simp only[zF,zZ]at j;obtain⟨C,B,J,D⟩:=Tp (P:=P) (ty:=ty) E H S j.1 (Nat.blt_eq.mp j.2) hk;refine .inl ⟨_,C,?_,J,D⟩;simp only at B;simp[execOp,resolve,d,invoke,builtin,B]
  ·exact hk.elim
 ·exact hk.elim
theorem IT {k:IntKind}{c:CK}(p:MapEntry->Bool)(q:Int×c.T->Bool):∀(L:List MapEntry) (T:List (Int×c.T)),L.map (λe=>(e.key,e.val))=T.map (λx=>(Value.int k x.1,c.v x.2)) →
 (∀(j:Nat) (e:MapEntry) (y:Int×c.T),L[j]?=some e->T[j]?=some y->p e=q y)->(L.filter p).map (λe=>(e.key,e.val))=(T.filter q).map (λx=>(Value.int k x.1,c.v x.2))
 | [],T,h,_=>by
  cases T with
  | nil=>rfl
  | cons y T=>simp at h
 | e::L,[],h,_=>by simp at h
 | e::L,y::T,h,hpq=>by
  simp only[zJ,List.cons.injEq]at h;have h0:=hpq 0 e y rfl rfl;have a:=IT p q L T h.2 (λj b d i g=>hpq (j+1) b d (by simpa using i) (by simpa using g));simp only[qU,h0];cases q y
  ·simpa using a
  ·simp[h.1,a]
theorem It.oV {P:Program}{r:Nat}{k:IntKind}{c:CK}{m:Option Nat}{l todo:List (Int×c.T)}{cur:Option (Int×c.T)}{w:World}(hit:It w.heap r k c m l todo cur)(ty:Nat) :
 (todo=[]/\∃w',(Instr.next (.pointer (some ⟨r,0,none⟩)) false ty).run P w=.ok (.tuple #[.bool false]) w'/\ZP w w'/\w'.heap=w.heap) ∨
 (∃n x w',(n,x)∈todo/\(Instr.next (.pointer (some ⟨r,0,none⟩)) false ty).run P w=.ok (.tuple #[.bool true,.int k n,c.v x]) w'/\ZP w w'/\QC w.heap w'.heap r ∧
  It w'.heap r k c m l (todo.filter λy=>!(y.1==n)) (some (n,x))):=by
 cases m with
 | none=>
  obtain⟨rfl,rfl,rfl,s,q,y,hr⟩:=hit;exact .inl ⟨rfl,w,by simp[Instr.next,getObj,Sem.run,hr],.refl _,rfl⟩
 | some b=>
  obtain⟨es,clk,seen,hr,hb,he,hn,hp,hlt,htodo,hcur⟩:=hit;have hrlt:r<w.heap.size:=(mF.1 hr).1;have hrb:r≠b:=λe=>by rw[e,hb]at hr;cases hr
  have hchk:¬((!seen.isEmpty && !es.isEmpty&&es.all (·.born≥clk))=true):=by
   intro h;simp only[zF,ni,Array.all_eq_true',zT]at h;obtain⟨⟨_,h2⟩,h3⟩:=h;have h2':es ≠ #[]:=by simpa[Array.isEmpty_iff]using h2
   obtain⟨e,hme⟩:=Array.exists_mem_of_ne_empty es h2';have:=h3 e hme;have:=hlt e (by simpa using hme);omega
  have hold:((es.filter λe=>!seen.contains e.born).filter (·.born<clk))=es.filter λe=>!seen.contains e.born:=by
   rw[Array.filter_eq_self];intro e hme;have:e∈es:=(Array.mem_filter.1 hme).1;simpa using hlt e (by simpa using this)
  have hnew:((es.filter λe=>!seen.contains e.born).filter (·.born≥clk)) = #[]:=by
   rw[Array.filter_eq_empty_iff];intro e hme;have:e∈es:=(Array.mem_filter.1 hme).1;have:=hlt e (by simpa using this);simp;omega
  have hlist:(es.filter λe=>!seen.contains e.born).toList=es.toList.filter λe=>!seen.contains e.born:=Array.toList_filter;have hrun:∀(cand:Array (Option MapEntry)),cand=(if(es.filter λe=>!seen.contains e.born).isEmpty then #[none]else #[])++(es.filter λe=>!seen.contains e.born).map some →
   (Instr.next (.pointer (some ⟨r,0,none⟩)) false ty).run P w=(do
    match cand[←choose (.mapNext cand.size)]? with
    | some (some e)=>do
     setObj r (.mapIter (some b) clk (seen.push e.born) clk)
     pure (.tuple #[.bool true,e.key,e.val])
    | some none=>pure (.tuple #[.bool false])
    | none=>stuck "Next: no such candidate" : Sem Value).run P w := by
   rintro cand rfl;simp only[Instr.next,getObj,Sem.run_bind,Sem.run,hr,Result.andThen_ok,hb,hchk,zy,hold,hnew,Array.append_empty,zb,Sem.run_bind]
   try rfl
  cases htd:todo with
  | nil=>
   left;subst htd;have hnil:(es.filter λe=>!seen.contains e.born) = #[]:=by
    apply Array.ext';rw[hlist];have:=congrArg List.length htodo;simpa using this
   refine⟨rfl,w,?_,.refl _,rfl⟩;rw[hrun #[none] (by rw[hnil];simp)];simp[choose,Sem.run,Question.forced]
  | cons y ys=>
   right;have hlen:(es.filter λe=>!seen.contains e.born).size=todo.length:=by
    rw[←vV,hlist];simpa using congrArg List.length htodo
   have hne:(es.filter λe=>!seen.contains e.born).isEmpty=false:=by
    rw[htd]at hlen;simp only[zP]at hlen;cases hce:(es.filter λe=>!seen.contains e.born).isEmpty
    ·rfl
    ·rw[Array.isEmpty_iff]at hce;rw[hce]at hlen;simp at hlen
   have key:∀(i:Nat),i<todo.length->∀w1:World,w1.heap=w.heap->ZP w w1->∃n x w',(n,x)∈todo ∧
    ((match ((es.filter λe=>!seen.contains e.born).map some)[i]? with
     | some (some e)=>do
      setObj r (.mapIter (some b) clk (seen.push e.born) clk)
      pure (.tuple #[.bool true,e.key,e.val])
     | some none=>pure (.tuple #[.bool false])
     | none=>stuck "Next: no such candidate" : Sem Value)).run P w1 = .ok (.tuple #[.bool true, .int k n, c.v x]) w' /\ ZP w w' /\ QC w.heap w'.heap r ∧
    It w'.heap r k c (some b) l (todo.filter λy=>!(y.1==n)) (some (n,x)):=by
    intro i hi w1 hw1 io;have hi':i<(es.filter λe=>!seen.contains e.born).size:=by omega
    let e:=(es.filter λe=>!seen.contains e.born)[i]
    have hei:(es.filter λe=>!seen.contains e.born)[i]?=some e:=by simp[e,hi']
    have hti:(es.toList.filter λe=>!seen.contains e.born)[i]?=some e:=by rw[←hlist,Ag];exact hei
    have hty:todo[i]?=some todo[i]:=by simp[hi]
    have hkv:(e.key,e.val)=(Value.int k todo[i].1,c.v todo[i].2):=by
     have:=congrArg (λl=>l[i]?) htodo;simp only[ze,hti,hty,zf,Option.some.injEq]at this;exact this
    simp only[Prod.mk.injEq]at hkv;have hmemF:e∈es.toList.filter λe=>!seen.contains e.born:=zE hti;have hme:e∈es.toList:=(zH.1 hmemF).1;have hns:seen.contains e.born=false:=by simpa using(zH.1 hmemF).2
    refine⟨todo[i].1,todo[i].2,{w1 with heap:=w1.heap.setIfInBounds r (.mapIter (some b) clk (seen.push e.born) clk)},zc _,?_,?_,?_,?_⟩
    ·have hr1:w1.heap[r]?=some (.mapIter (some b) clk seen clk):=by rw[hw1];exact hr
     simp only[Array.getElem?_map,hei,zf,setObj,Sem.run_bind,Sem.run,hr1,Result.andThen_ok,Sem.run_pure,hkv.1,hkv.2]
    ·exact⟨io.1,io.2.1,io.2.2.1,by simp only[Array.size_setIfInBounds];exact io.2.2.2⟩
    ·rw[hw1];exact Hz _ _ _
    ·rw[hw1];refine⟨es,clk,seen.push e.born,by simp[hrlt],?_,he,hn,hp,hlt,?_,λx hx=>?_⟩
     ·rw[xY hrb];exact hb
     ·-- the rest
      have hinj:∀e'∈es.toList,(e'.born==e.born)=true->e'=e:=by
       intro e' h1 h2;have h2':e'.born=e.born:=by simpa using h2
       obtain⟨p,hp1,ke⟩:=uN h1;obtain⟨q,hq1,hq2⟩:=uN hme;have hpw:=kj.1 hp;rcases qx p q with h|h|h
       ·have:=hpw p q (by simpa using hp1) (by simpa using hq1) h;simp[ke,hq2,h2']at this
       ·subst h;rw[←ke,hq2]
       ·have:=hpw q p (by simpa using hq1) (by simpa using hp1) h;simp[ke,hq2,h2']at this
      have hf1:(es.toList.filter λe'=>!(seen.push e.born).contains e'.born)=(es.toList.filter λe'=>!seen.contains e'.born).filter λe'=>!(e'.born==e.born):=by
       rw[Cn];apply zx;intro e' _;simp[Array.contains_eq_mem,Array.mem_push];rw[Bool.and_comm]
       congr 1
      rw[hf1];refine IT _ _ _ _ htodo λj e' y h1 h2=>?_;have hm':e'∈es.toList:=(zH.1 (zE h1)).1;have hkv':(e'.key,e'.val)=(Value.int k y.1,c.v y.2):=by
       have:=congrArg (λl=>l[j]?) htodo;simp only[ze,h1,h2,zf,Option.some.injEq]at this;exact this
      simp only[Prod.mk.injEq]at hkv'
      congr 1
      rw[nL];constructor
      ·intro hb';have:=hinj e' hm' hb';subst this;have:=hkv'.1.symm.trans hkv.1;simp only[Value.int.injEq,sS]at this;simpa using this
      ·intro hy;have hy':y.1=todo[i].1:=by simpa using hy
       have hkk:e'.key=e.key:=by rw[hkv'.1,hkv.1,hy']
       obtain⟨p,hp1,ke⟩:=uN hm';obtain⟨q,hq1,hq2⟩:=uN hme;have hll:es.toList.length=l.length:=by simpa using congrArg List.length he
       have hk1:∀(p:Nat) (hp:p<es.toList.length),es.toList[p].key=.int k (l[p]' O).1:=by
        intro p hp;have:=congrArg (λl=>l[p]?) he;simp only[ze,cM hp,cM (show p<l.length by omega),zf,Option.some.injEq,Prod.mk.injEq]at this;exact this.1
       have e1:=hk1 p hp1;have e2:=hk1 q hq1;rw[ke]at e1;rw[hq2]at e2;rw[hkk,e2]at e1;simp only[Value.int.injEq,sS]at e1;have:p=q:=by
        have hnn:=kj.1 hn;rcases qx p q with h|h|h
        ·exact absurd (by rw[sE,sE];exact e1.symm) (hnn p q aE aE h)
        ·exact h
        ·exact absurd (by rw[sE,sE];exact e1) (hnn q p aE aE h)
       subst this;rw[←ke,←hq2];simp
     ·cases hx;refine⟨e,hme,by simp,hkv.1,hkv.2⟩
   have hsz:((if(es.filter λe=>!seen.contains e.born).isEmpty then #[none]else #[])++(es.filter λe=>!seen.contains e.born).map some:Array (Option MapEntry))=(es.filter λe=>!seen.contains e.born).map some:=by
    rw[hne];simp
   rw[←htd];rw[hrun _ hsz.symm];have hpos:0<todo.length:=by rw[htd];simp
   simp only[Sem.run_bind,choose,Sem.run,Array.size_map,hlen];cases hfo:(Question.mapNext todo.length).forced
   ·simp only[zb,zy,Result.andThen_ok];exact key _ (by simp only[Question.cut];exact vK _ hpos) _ rfl ⟨rfl,rfl,rfl,zD _⟩
   ·simp only[zS,Result.andThen_ok];exact key 0 hpos w rfl (.refl _)
theorem It.Tg {P:Program}{r:Nat}{k:IntKind}{c:CK}{m:Option Nat}{l todo:List (Int×c.T)}{n:Int}{x:c.T}{w:World}(hit:It w.heap r k c m l todo (some (n,x))) :
 (Instr.entry (.pointer (some ⟨r,0,none⟩))).run P w=.ok (.tuple #[.int k n,c.v x]) w:=by
 cases m with
 | none=>obtain⟨_,_,h,_⟩:=hit;cases h
 | some b=>
  obtain⟨A,D,z,B,J,L,K,C,G,s,i⟩:=hit;obtain⟨e,y,g,H,E⟩:=i _ rfl;have d:A.find? (·.born==e.born)=some e:=by
   rw[←Array.find?_toList,List.find?_eq_some_iff_getElem];obtain⟨p,a,ke⟩:=uN y;refine⟨by simp,p,a,ke,λj F=>?_⟩;have u:=kj.1 C j p (by simp;simp at a;omega) (by simpa using a) F;rw[sE,sE,ke]at u;rw[ni];cases hb2:(A.toList[j].born==e.born)
   ·rfl
   ·have:=zZ.1 hb2;omega
  simp[Instr.entry,getObj,Sem.run,B,J,g,d,H,E]
def y9 (k:IntKind)(c:CK)(o:Op)(ρ:Env)(h:Hp)(K:Value->Hp->Prop):Prop:=
 match o with
 | .next x false=>wv (ev ρ x) λv=>match v with
  | .pointer (some a)=>rQ k c a h (K (.tuple #[.bool false]) h) λn y h'=>K (.tuple #[.bool true,.int k n,c.v y]) h'
  | _=>False
 | .entry x=>wv (ev ρ x) λv=>match v with
  | .pointer (some a)=>rX k c a h λn y=>K (.tuple #[.int k n,c.v y]) h
  | _=>False
 | _=>False
theorem It.spot {a:Addr}(h:a.off=0):∃s,a=⟨a.block,0,s⟩:=⟨a.spot,by cases a;simp at h;subst h;rfl⟩
theorem Oh {P:Program}{k:IntKind}{c:CK}{ρ:Env}{K:Value->Hp->Prop}{a:Act}{w:World}(hf:∀x v,ev ρ x=some v->a.eval x=v)(o:Oper)(hk:y9 k c o.op ρ w.heap K):Vj P (execOp a.eval o) w K:=by
 obtain⟨A,op,j,pos,p,u⟩:=o;simp only at hk;unfold y9 at hk;split at hk
 ·rename_i x;obtain⟨v,i,hk⟩:=Wq hk;simp only[execOp,hf _ _ i];split at hk
  case h_2=>exact hk.elim
  rename_i ad;obtain⟨g,m,l,e,B,d,D,z⟩:=hk;obtain⟨s,r⟩:=It.spot g;have b:∀w:World,(Instr.next (.pointer (some ad)) false j).run P w=(Instr.next (.pointer (some ⟨ad.block,0,none⟩)) false j).run P w:=by
   intro w;rw[r];rfl
  rcases d.oV (P:=P) j with⟨ht,w',hr,io,hh⟩|⟨n,y,w',hm,hr,io,ho,hi'⟩
  ·exact .inl ⟨.tuple #[.bool false],w',by simp[b,hr],io,by rw[hh];exact D ht⟩
  ·exact .inl ⟨.tuple #[.bool true,.int k n,c.v y],w',by simp[b,hr],io,z n y hm _ ho hi'⟩
 ·rename_i x;obtain⟨v,i,hk⟩:=Wq hk;simp only[execOp,hf _ _ i];split at hk
  case h_2=>exact hk.elim
  rename_i ad;obtain⟨g,m,l,e,n,y,d,C⟩:=hk;obtain⟨s,r⟩:=It.spot g;have b:(Instr.entry (.pointer (some ad))).run P w=(Instr.entry (.pointer (some ⟨ad.block,0,none⟩))).run P w:=by
   rw[r];rfl
  exact .inl ⟨.tuple #[.int k n,c.v y],w,by simp[b,d.Tg (P:=P)],.refl _,C⟩
 ·exact hk.elim
structure Fits (N:Nat) (ρ:Env) (a:Act):Prop where
 defers:a.defers=[]
 size:a.tmps.size=N
 at_:∀i v,ρ i=some v->a.tmps[i]?=some v
theorem Fits.ev {N:Nat}{ρ:Env}{a:Act}(h:Fits N ρ a):∀x v,ev ρ x=some v->a.eval x=v:=by
 intro x v hx;cases x with
 | tmp t=>
  have:=h.at_ t v hx;simp[Act.eval,sg,this]
 | const u=>simp only[Vc.ev,Option.some.injEq]at hx;exact hx
 | global g=>simp only[Vc.ev,Option.some.injEq]at hx;exact hx
 | func f=>simp only[Vc.ev,Option.some.injEq]at hx;exact hx
def sH (N:Nat):Option Nat->Bool
 | some d=>Nat.blt d N
 | none=>true
theorem Fits.put {N:Nat}{ρ:Env}{a:Act}(h:Fits N ρ a){d:Option Nat}(hd:sH N d=true)(v:Value):Fits N (ρ.iQ d v) (a.put d v):=by
 cases d with
 | none=>exact h
 | some d=>
  have g:d<N:=Nat.blt_eq.mp hd;refine⟨h.defers,by simp[Act.put,h.size],λi u b=>?_⟩;simp only[Env.iQ,Env.put]at b;cases hi:Nat.beq i d
  ·rw[hi]at b;have j:i≠d:=λe=>by subst e;simp at hi
   simp only[Act.put];rw[xY (Ne.symm j)];exact h.at_ i u b
  ·rw[hi]at b;have e:i=d:=lC hi;subst e;simp only[cond_true,Option.some.injEq]at b;subst b;simp[Act.put,h.size,g]
theorem Fits.weaken {N:Nat}{ρ ρ':Env}{a:Act}(h:Fits N ρ a)(hw:∀i v,ρ' i=some v->ρ i=some v):Fits N ρ' a:=
 ⟨h.defers,h.size,λi v b=>h.at_ i v (hw i v b)⟩
theorem CG (ρ:Env)(ds:List Nat):∀i v,ρ.fA ds i=some v->ρ i=some v:=by
 intro i v h;simp only[Env.fA]at h;cases hc:ds.contains i<;>rw[hc]at h<;>simp at h
 exact h
theorem Fits.lit {N:Nat}{ρ:Env}{a:Act}(h:Fits N ρ a){c:Nat}{b b':Bool}(hc:ρ c=some (.bool b))(e:b=b'):Fits N (ρ.put c (.bool b')) a:=by
 subst e;refine h.weaken λi v d=>?_;simp only[Env.put]at d;cases hi:Nat.beq i c
 ·rw[hi]at d;exact d
 ·rw[hi]at d;have e:i=c:=lC hi;subst e;rw[hc];exact d
def pn (ops:Array Oper)(o:Oper)(ρ:Env):Bool:=
 match o.guard with
 | none=>true
 | some (j,want)=>match (ops[j]?).bind (·.dst)with
  | some c=>match ρ c with
   | some (.bool b)=>b==want
   | _=>false
  | none=>false
def sJ (ops:Array Oper)(o:Oper)(ρ:Env):Bool:=
 match o.guard with
 | none=>false
 | some (j,want)=>match (ops[j]?).bind (·.dst)with
  | some c=>match ρ c with
   | some (.bool b)=>!(b==want)
   | some (.tuple _)=>true
   | _=>false
  | none=>false
theorem Qc {N:Nat}{ops:Array Oper}{o:Oper}{ρ:Env}{a:Act}(hf:Fits N ρ a)(h:pn ops o ρ=true):Region.wanted o (yielded ops a.tmps)=true:=by
 unfold pn at h;unfold Region.wanted;cases hg:o.guard with
 | none=>rfl
 | some jw=>
  obtain⟨j,d⟩:=jw;rw[hg]at h;simp only at h ⊢;cases hc:(ops[j]?).bind (·.dst)with
  | none=>rw[hc]at h;cases h
  | some c=>
   rw[hc]at h;simp only at h;split at h
   ·rename_i b hb;have:=hf.at_ c _ hb;simp only[yielded,hc,yC,this];simpa using h
   ·cases h
theorem Vt {N:Nat}{ops:Array Oper}{o:Oper}{ρ:Env}{a:Act}(hf:Fits N ρ a)(h:sJ ops o ρ=true):Region.wanted o (yielded ops a.tmps)=false:=by
 unfold sJ at h;unfold Region.wanted;cases hg:o.guard with
 | none=>rw[hg]at h;cases h
 | some jw=>
  obtain⟨j,d⟩:=jw;rw[hg]at h;simp only at h ⊢;cases hc:(ops[j]?).bind (·.dst)with
  | none=>rw[hc]at h;cases h
  | some c=>
   rw[hc]at h;simp only at h;split at h
   ·rename_i b hb;have:=hf.at_ c _ hb;simp only[yielded,hc,yC,this];simpa using h
   ·rename_i b hb;have:=hf.at_ c _ hb;simp only[yielded,hc,yC,this];rfl
   ·cases h
def Gj (N:Nat)(ops:Array Oper):List Oper->Env->Bool
 | [],_=>true
 | o::os,ρ=>sJ ops o ρ&&(sH N o.dst&&Gj N ops os (ρ.iQ o.dst undef))
theorem EU {P:Program}{N:Nat}{ops:Array Oper}{Q:Exit->Act->World->Prop}{tail:List Oper}{w:World}:∀{os:List Oper} {ρ:Env} {a:Act},Gj N ops os ρ=true->Fits N ρ a →
 (∀a',Fits N (ρ.fA (os.filterMap (·.dst))) a'->wpList P ops Q tail a' w)->wpList P ops Q (os++tail) a w
 | [],ρ,a,_,hf,h=>h a (hf.weaken (CG _ _))
 | o::os,ρ,a,hs,hf,h=>by
  simp only[Gj,zF]at hs;obtain⟨h1,h2,h3⟩:=hs;have m:=Vt hf h1;simp only[lQ,wpList,m];refine EU h3 (hf.put h2 _) λa' j=>h a' (j.weaken λi v b=>?_);simp only[Env.fA]at b ⊢;cases hc:(List.filterMap (·.dst) (o::os)).contains i
  ·rw[hc]at b;simp only[cond_false]at b;have g:(List.filterMap (·.dst) os).contains i=false:=by
    cases hd:o.dst<;>simp_all
   have e:∀d,o.dst=some d->i≠d:=by
    intro d hd;simp_all
   rw[g];simp only[cond_false];cases hd:o.dst with
   | none=>exact b
   | some d=>
    have:=e d hd;simp only[Env.iQ,Env.put];have:Nat.beq i d=false:=by
     cases hb:Nat.beq i d
     ·rfl
     ·exact absurd (lC hb) this
    rw[this];exact b
  ·rw[hc]at b;cases b
theorem Iy {P:Program}{N:Nat}{ops:Array Oper}{Q:Act->Prop}{tail:List Oper}{w:World}:∀{os:List Oper} {ρ:Env} {a:Act},Gj N ops os ρ=true->Fits N ρ a →
 (∀a',Fits N (ρ.fA (os.filterMap (·.dst))) a'->wpStill P ops w Q tail a')->wpStill P ops w Q (os++tail) a
 | [],ρ,a,_,hf,h=>h a (hf.weaken (CG _ _))
 | o::os,ρ,a,hs,hf,h=>by
  simp only[Gj,zF]at hs;obtain⟨h1,h2,h3⟩:=hs;have m:=Vt hf h1;simp only[lQ,wpStill,m];refine Iy h3 (hf.put h2 _) λa' j=>h a' (j.weaken λi v b=>?_);simp only[Env.fA]at b ⊢;cases hc:(List.filterMap (·.dst) (o::os)).contains i
  ·rw[hc]at b;simp only[cond_false]at b;have g:(List.filterMap (·.dst) os).contains i=false:=by
    cases hd:o.dst<;>simp_all
   have e:∀d,o.dst=some d->i≠d:=by
    intro d hd;simp_all
   rw[g];simp only[cond_false];cases hd:o.dst with
   | none=>exact b
   | some d=>
    have:=e d hd;simp only[Env.iQ,Env.put];have:Nat.beq i d=false:=by
     cases hb:Nat.beq i d
     ·rfl
     ·exact absurd (lC hb) this
    rw[this];exact b
  ·rw[hc]at b;cases b
def bY (K:aO)(body:(Bool->Hp->Prop)->Prop):Prop:=∃J:Bool->Hp->Prop,(∀r h,J r h->K r h)/\body J
theorem bY.intro {K:aO}{body:(Bool->Hp->Prop)->Prop}(h:body K):bY K body:=⟨K,λ_ _ h=>h,h⟩
inductive RI where
 | op
 | it (k:IntKind) (c:CK)
 | dA (and:Bool) (n:Nat) (inner:List RI)
def Bv (b:Bool):Operand->Bool
 | .const (.bool b')=>b'==b
 | _=>false
def HB (ρ:Env)(x:Operand)(K:Bool->Prop):Prop:=match ev ρ x with
 | some (.bool r)=>K r
 | _=>False
def tY (ρ:Env)(c:Nat)(b:Bool):Bool:=match ρ c with
 | some (.bool b')=>b'==b
 | _=>false
def fU (P:Program)(N:Nat)(ops:Array Oper):Nat->List RI->List Oper->Env->Hp->(Env->Hp->Prop)->Prop
 | 0,_,_,_,_,_=>False
 | _+1,[],[],ρ,h,K=>K ρ h
 | n+1,.op::hs,o::os,ρ,h,K=>gN (pn ops o ρ&&sH N o.dst) (xp P o.op o.type ρ h λv h'=>fU P N ops n hs os (ρ.iQ o.dst v) h' K)
 | n+1,.it ki c::hs,o::os,ρ,h,K=>gN (pn ops o ρ&&sH N o.dst) (y9 ki c o.op ρ h λv h'=>fU P N ops n hs os (ρ.iQ o.dst v) h' K)
 | n+1,.dA and m inner::hs,os,ρ,h,K=>
  match os.drop m with
  | pk::rest=>match pk.op,pk.dst with
   | .pick (.tmp c) x y,some d=>match ρ c with
    | some (.bool b)=>gN (Nat.blt d N&&(Bv (!and) (bif and then y else x)&&(pn ops pk (ρ.fA ((os.take m).filterMap (·.dst)))&&(tY ((ρ.put c (.bool (!and))).fA ((os.take m).filterMap (·.dst))) c (!and)&&Gj N ops (os.take m) (ρ.put c (.bool (!and)))))))
     (bY (λr h'=>fU P N ops n hs rest ((ρ.fA ((os.take m).filterMap (·.dst))).put d (.bool r)) h' K) λJ=>
      bif and then If b (fU P N ops n inner (os.take m) (ρ.put c (.bool true)) h λρ' h'=>gN (pn ops pk ρ'&&tY ρ' c true) (HB ρ' x λr=>J r h')) (J false h)
      else If b (J true h) (fU P N ops n inner (os.take m) (ρ.put c (.bool false)) h λρ' h'=>gN (pn ops pk ρ'&&tY ρ' c false) (HB ρ' y λr=>J r h')))
    | _=>False
   | _,_=>False
  | []=>False
 | _,_,_,_,_,_=>False
theorem E6 {P:Program}{ρ:Env}{K:Value->Hp->Prop}{a:Act}{w:World}(hf:∀x v,ev ρ x=some v->a.eval x=v)(o:Oper)(hk:xp P o.op o.type ρ w.heap K) :
 Vj P (execOp a.eval o) w K:=by
 unfold xp at hk;cases hq:ug o.op
 ·rw[hq]at hk;exact SY hf o hk
 ·rw[hq]at hk;obtain⟨v,d,b⟩:=G6 hf o hk;exact .inl ⟨v,w,d,.refl _,b⟩
theorem UG {ρ:Env}{x:Operand}{K:Bool->Prop}(h:HB ρ x K):∃r,ev ρ x=some (.bool r)/\K r:=by
 unfold HB at h;split at h
 ·exact⟨_,by assumption,h⟩
 ·exact h.elim
theorem Lx {b:Bool}{x:Operand}(h:Bv b x=true)(ρ:Operand->Value)(hc:∀v,ρ (.const v)=v):ρ x=.bool b:=by
 unfold Bv at h;split at h
 ·rw[hc];simp at h;rw[h]
 ·cases h
theorem Rb {P:Program}{a:Act}{w:World}{o:Oper}{c x y:Operand}{b r:Bool}{K:Value->Hp->Prop}(ho:o.op=.pick c x y)(hc:a.eval c=.bool b)(hr:a.eval (bif b then x else y)=.bool r)(hK:K (.bool r) w.heap) :
 Vj P (execOp a.eval o) w K:=by
 obtain⟨g,op,i,pos,d,e⟩:=o;simp only at ho;subst ho;refine .inl ⟨_,w,?_,.refl _,hK⟩;cases b<;>simp at hr<;>simp[execOp,hc,asBool,hr]
def UQ (os:List Oper)(ρ ρ':Env):Prop:=∀i,(os.filterMap (·.dst)).contains i=false->∀v,ρ i=some v->ρ' i=some v
theorem UQ.cons {o:Oper}{os:List Oper}{ρ ρ':Env}{v:Value}(h:UQ os (ρ.iQ o.dst v) ρ'):UQ (o::os) ρ ρ':=by
 intro i hi u hu;cases hd:o.dst with
 | none=>rw[hd]at h;exact h i (by simpa[hd]using hi) u hu
 | some d=>
  rw[hd]at h;simp[hd]at hi;refine h i (by simpa using hi.2) u ?_;simp only[Env.iQ,Env.put];have:Nat.beq i d=false:=by
   cases hb:Nat.beq i d
   ·rfl
   ·exact absurd (lC hb) hi.1
  rw[this];exact hu
theorem UQ.dA {os rest:List Oper}{pk:Oper}{m d:Nat}{ρ ρ':Env}{r:Bool}(hd:pk.dst=some d)(hdrop:os.drop m=pk::rest)(h:UQ rest ((ρ.fA ((os.take m).filterMap (·.dst))).put d (.bool r)) ρ'):UQ os ρ ρ':=by
 intro i hi u hu;rw[←mZ m os,hdrop,uL,AK,hd]at hi;simp only[sj,zR,zQ,decide_eq_false_iff_not,not_or]at hi;refine h i (by simpa using hi.2.2) u ?_;simp only[Env.put,Env.fA];have:Nat.beq i d=false:=by
  cases hb:Nat.beq i d
  ·rfl
  ·exact absurd (lC hb) hi.2.1
 rw[this];have a:((os.take m).filterMap (·.dst)).contains i=false:=by simpa using hi.1
 rw[a];exact hu
theorem Fits.yO {N:Nat}{os:List Oper}{ρ ρ':Env}{a:Act}{c:Nat}{b b':Bool}(h:Fits N ρ' a)(hc:ρ c=some (.bool b))(e:b=b')(k:UQ os (ρ.put c (.bool b')) ρ'):Fits N (ρ.fA (os.filterMap (·.dst))) a:=by
 refine h.weaken λi v d=>?_;simp only[Env.fA]at d;cases hci:(os.filterMap (·.dst)).contains i
 ·rw[hci]at d;refine k i hci v ?_;simp only[Env.put];cases hb:Nat.beq i c
  ·exact d
  ·have g:i=c:=lC hb;subst g;simp only[cond_false]at d;rw[hc]at d;simp only[cond_true];rw[←e];exact d
 ·rw[hci]at d;cases d
theorem yL {ρ:Env}{c:Nat}{b:Bool}(h:tY ρ c b=true):ρ c=some (.bool b):=by
 unfold tY at h;split at h
 ·rename_i b' hb;simp at h;rw[hb,h]
 ·cases h
theorem KZ {P:Program}{N:Nat}{ops:Array Oper}{Q:Exit->Act->World->Prop}:∀(n:Nat) {hs:List RI} {os:List Oper} {tail:List Oper} {ρ:Env} {a:Act} {w:World} {K:Env->Hp->Prop},
 fU P N ops n hs os ρ w.heap K->Fits N ρ a->(∀ρ' a' w',Fits N ρ' a'->ZP w w'->UQ os ρ ρ'->K ρ' w'.heap->wpList P ops Q tail a' w')->wpList P ops Q (os++tail) a w
 | 0,_,_,_,_,_,_,_,h,_,_=>(by simp only[fU]at h)
 | n+1,[],[],tail,ρ,a,w,K,h,hf,hK=>by
  simp only[fU]at h;exact hK ρ a w hf (.refl _) (λ_ _ _ h=>h) h
 | n+1,[],o::os,tail,ρ,a,w,K,h,hf,hK=>(by simp only[fU]at h)
 | n+1,.op::hs,[],tail,ρ,a,w,K,h,hf,hK=>(by simp only[fU]at h)
 | n+1,.op::hs,o::os,tail,ρ,a,w,K,h,hf,hK=>by
  simp only[fU]at h;rw[WH]at h;obtain⟨hc,h⟩:=h;simp only[zF]at hc;have V:=Qc hf hc.1;simp only[lQ,wpList,V,zS];refine .inl (Vj.upon (E6 hf.ev o h) λv w' E u=>?_);exact KZ n u (hf.put hc.2 v) λρ' a' A g j C p=>hK ρ' a' A g (E.trans j) C.cons p
 | n+1,.it ki c::hs,[],tail,ρ,a,w,K,h,hf,hK=>(by simp only[fU]at h)
 | n+1,.it ki c::hs,o::os,tail,ρ,a,w,K,h,hf,hK=>by
  simp only[fU]at h;rw[WH]at h;obtain⟨hc,h⟩:=h;simp only[zF]at hc;have V:=Qc hf hc.1;simp only[lQ,wpList,V,zS];refine .inl (Vj.upon (Oh hf.ev o h) λv w' E u=>?_);exact KZ n u (hf.put hc.2 v) λρ' a' A g j C p=>hK ρ' a' A g (E.trans j) C.cons p
 | n+1,.dA and m inner::hs,os,tail,ρ,a,w,K,h,hf,hK=>by
  simp only[fU]at h;split at h
  case h_2=>exact h.elim
  rename_i pk rest hdrop;split at h
  case h_2=>exact h.elim
  rename_i c x y d hop hd;split at h
  case h_2=>exact h.elim
  rename_i b hb;rw[WH]at h;obtain⟨hc,J,hJ,h⟩:=h;simp only[zF]at hc;obtain⟨M,R,W,Z,F⟩:=hc;have hdN':sH N pk.dst=true:=by rw[hd];exact M
  have X:os++tail=os.take m++(pk::rest++tail):=by
   rw[←hdrop,←km,mZ]
  rw[X];have s:∀(r b':Bool) (z:Operand) a' w',b=b'->(bif b' then x else y)=z->Fits N (ρ.fA ((os.take m).filterMap (·.dst))) a'->ZP w w'->J r w'.heap->Region.wanted pk (yielded ops a'.tmps)=true →
   a'.eval (.tmp c)=.bool b'->a'.eval z=.bool r->wpList P ops Q (pk::rest++tail) a' w':=by
   intro r b' z a' w' e ez g E S V D hez;simp only[lQ,wpList,V,zS];refine .inl (Vj.upon (K:=λv h'=>v=.bool r/\h'=w'.heap) (Rb hop D (by rw[ez];exact hez) ⟨rfl,rfl⟩) λv A j u=>?_);obtain⟨rfl,hh⟩:=u;have Y:=g.put (d:=some d) M (.bool r);rw[hd];have G:=hJ _ _ S;rw[←hh]at G;exact KZ n G Y λρ' ab w3 U H C p=>hK ρ' ab w3 U ((E.trans j).trans H) (UQ.dA hd hdrop C) p
  have run:∀(b':Bool) (z:Operand),b=b'->(bif b' then x else y)=z →
   fU P N ops n inner (os.take m) (ρ.put c (.bool b')) w.heap (λρ' h'=>gN (pn ops pk ρ'&&tY ρ' c b') (HB ρ' z λr=>J r h'))->wpList P ops Q (os.take m++(pk::rest++tail)) a w:=by
   intro b' z e ez hseg;refine KZ n hseg (hf.lit hb e) λρ' a' w' g E C u=>?_;rw[WH]at u;simp only[zF]at u;obtain⟨⟨hg,aa⟩,u⟩:=u;obtain⟨r,hr,S⟩:=UG u;exact s r b' z a' w' e ez (g.yO hb e C) E S (Qc g hg) (g.ev _ _ (yL aa)) (g.ev _ _ hr)
  have B:∀(b':Bool),b=b'->b' = !and->J (!and) w.heap->wpList P ops Q (os.take m++(pk::rest++tail)) a w:=by
   intro b' e eb S;subst eb;refine EU F (hf.lit hb e) λa' g=>?_;have L:Fits N (ρ.fA ((os.take m).filterMap (·.dst))) a':=g.yO (ρ':=(ρ.put c (.bool (!and))).fA ((os.take m).filterMap (·.dst))) hb e (λi hi v hv=>by simp only[Env.fA,hi];exact hv);have D:=g.ev (.tmp c) _ (yL Z);refine s (!and) (!and) (bif (!and)then x else y) a' w e rfl L (.refl _) S (Qc L W) D ?_;refine Lx ?_ _ (λv=>rfl);cases and<;>exact R
  cases and
  ·simp only[cond_false]at h;cases b
   ·exact run false y rfl rfl (h.f rfl)
   ·exact B true rfl rfl (h.t rfl)
  ·simp only[cond_true]at h;cases b
   ·exact B false rfl rfl (h.f rfl)
   ·exact run true x rfl rfl (h.t rfl)
variable {P:Program}{ops:Array Oper}{Q:Exit->Act->World->Prop}
def xg (ops:Array Oper)(k i:Nat):Bool:=match ops[k]? with
 | none=>false
 | some o=>o.after.toList.any λe=>Region.binds .any e&&Nat.beq e.on i
def TS (S:World->Prop)(C:List Nat)(listed:Array Bool)(w:World):Prop:=S w\/∃k∈C,listed.getD k false=true
def anyS (P:Program)(ops:Array Oper)(Q:Exit->Act->World->Prop)(S:World->Prop)(C:List Nat):Nat->Array Bool->Act->World->Prop
 | 0,listed,a,w=>Region.ready .any ops listed=[]/\Q .normal a w
 | m+1,listed,a,w=>(Region.ready .any ops listed=[]->Q .normal a w) ∧
  ∀i,i∈Region.ready .any ops listed->wpOp P ops Q i (λa' w'=>TS S C (listed.setIfInBounds i true) w'/\anyS P ops Q S C m (listed.setIfInBounds i true) a' w') a w
theorem FB {S:World->Prop}{C:List Nat}:∀(m:Nat) (listed:Array Bool) (a:Act) (w:World),anyS P ops Q S C m listed a w->wpAny P .any ops Q m listed a w
 | 0,_,_,_,h=>h
 | m+1,_,_,_,h=>⟨h.1,λi hi=>wpOp_mono (λ_ _ h'=>FB m _ _ _ h'.2) (h.2 i hi)⟩
theorem TS.out {S:World->Prop}{C:List Nat}{listed:Array Bool}{w:World}(h:TS S C listed w)(hn:∀k∈C,listed.getD k false=false):S w:=by
 rcases h with h|⟨k,hk,hl⟩
 ·exact h
 ·rw[hn k hk]at hl;cases hl
theorem L5 {k i:Nat}{o:Oper}(ho:ops[k]?=some o)(hno:∀e∈o.after,Region.binds .any e=true->e.on≠i):xg ops k i=false:=by
 unfold xg;rw[ho];simp only;rw[np];intro e he hb;simp only[zF]at hb;exact hno e (by simpa using he) hb.1 (lC hb.2)
theorem TS.drop {S:World->Prop}{C:List Nat}{listed:Array Bool}{w:World}{i j:Nat}(hij:i≠j)(hi:∀k∈C,k≠i)(h:TS S C ((listed.setIfInBounds i true).setIfInBounds j true) w):TS S C (listed.setIfInBounds j true) w:=by
 refine h.imp id ?_;rintro⟨k,hk,hl⟩;refine⟨k,hk,?_⟩;rw[Array.setIfInBounds_comm _ _ hij,getD_set_ne false (Ne.symm (hi k hk))]at hl;exact hl
theorem Ma {S T:World->Prop}{C:List Nat}{i:Nat}{oi:Oper}{v:Value}(hi:ops[i]?=some oi)(hsel:∀(j:Nat) (o:Oper) cs b,ops[j]?=some o->o.op≠.select cs b)
 (hQ:∀c a w,Q (.panic c) (a.put oi.dst v) w->Q (.panic c) a w) (hiC:∀k∈C,k≠i) (hT:(∀w,T w)\/((∀w,S w->T w)/\∀k∈C,xg ops k i=true)) :
 ∀(m:Nat) (listed:Array Bool) (a:Act) (w:World),
  (∀j oj,ops[j]?=some oj->j≠i->listed.getD j true=false->(∀e∈oj.after,Region.binds .any e=true->e.on≠i)->oi.apart ops oj=true) →
  i∈Region.ready .any ops listed->((∀w,T w)\/∀k∈C,listed.getD k false=false)->YieldsIf P ops T oi v a->TS S C listed w →
  anyS P ops Q S C m (listed.setIfInBounds i true) (a.put oi.dst v) w->anyS P ops Q S C (m+1) listed a w:=by
 have s:∀{listed:Array Bool} {a:Act} {w:World} {K:Act->World->Prop},((∀w,T w)\/∀k∈C,listed.getD k false=false)->YieldsIf P ops T oi v a->TS S C listed w->K (a.put oi.dst v) w →
  wpOp P ops Q i (λE D=>TS S C (listed.setIfInBounds i true) D/\K E D) a w:=by
  intro listed a w K g hy hS hK;refine hy.wpOp hi ?_ ⟨?_,hK⟩
  ·rcases hT with hT|⟨hT,_⟩
   ·exact hT w
   ·rcases g with g|g
    ·exact g w
    ·exact hT w (hS.out g)
  ·refine hS.imp id ?_;rintro⟨k,u,hl⟩;exact⟨k,u,by rw[getD_set_ne false (Ne.symm (hiC k u))];exact hl⟩
 intro m
 induction m with
 | zero=>
  intro listed a w _ hr g hy hS H;refine⟨λh=>by rw[h]at hr;simp at hr,λj B=>?_⟩;by_cases hji:j=i
  ·rw[hji];exact s g hy hS H
  ·have p:=ready_mono B hji;rw[H.1]at p;simp at p
 | succ m ih=>
  intro listed a w hfree hr g hy hS H;refine⟨λh=>by rw[h]at hr;simp at hr,λj B=>?_⟩;by_cases hji:j=i
  ·rw[hji];exact s g hy hS H
  ·obtain⟨x,oj,r,A⟩:=mem_ready.1 B;have d:=(mem_ready.1 hr).1;have y:∀e∈oj.after,Region.binds .any e=true->e.on≠i:=by
    intro e he hb heq;have p:=A e he hb;rw[heq]at p;rw[sg]at p d;cases hg:listed[i]? with
    | none=>rw[hg]at p;cases p
    | some b=>rw[hg]at p d;simp only[pN]at p d;rw[d]at p;cases p
   have M:=wpOp_putIf r (hfree j oj r hji x y) (λcs b=>hsel i oi cs b hi) (λcs b=>hsel j oj cs b r) hQ hy (H.2 j (ready_mono B hji));refine wpOp_mono (λE D J=>?_) M;have z:=J.2.1.drop (Ne.symm hji) hiC;refine⟨z,ih _ E D (λk ok u F G L=>?_) (ready_mono hr (Ne.symm hji)) ?_ J.1 z ?_⟩
   ·refine hfree k ok u F ?_ L;by_cases hjk:j=k
    ·rw[←hjk];exact x
    ·rwa [getD_set_ne true hjk]at G
   ·rcases hT with hT|⟨_,hw⟩
    ·exact .inl hT
    refine g.imp id λg k u=>?_;by_cases hjk:j=k
    ·exfalso;have:=hw k u;rw[←hjk,L5 r y]at this;cases this
    ·rw[getD_set_ne false hjk];exact g k u
   ·rw[Array.setIfInBounds_comm _ _ hji];exact J.2.2
theorem CR {S T:World->Prop}{C:List Nat}{i m:Nat}{oi:Oper}{v:Value}{listed:Array Bool}{a:Act}{w:World}(hi:ops[i]?=some oi)(hs:Region.noSelect ops=true)(hf:Region.free .any ops listed i=true)
 (hr:i∈Region.ready .any ops listed) (hQ:∀c a w,Q (.panic c) (a.put oi.dst v) w->Q (.panic c) a w) (hiC:C.contains i=false)
 (hT:(∀w,T w)\/((∀w,S w->T w)/\∀k∈C,xg ops k i=true)) (hn:(∀w,T w)\/∀k∈C,listed.getD k false=false) (hy:YieldsIf P ops T oi v a) (hS:TS S C listed w)
 (h:anyS P ops Q S C m (listed.setIfInBounds i true) (a.put oi.dst v) w):anyS P ops Q S C (m+1) listed a w:=
 Ma hi (Region.noSelect_spec hs) hQ (λk b e=>by subst e;rw[tT.2 b]at hiC;cases hiC) hT m listed a w (Region.free_spec hi hf) hr hn hy hS h
theorem LY {S:World->Prop}{C:List Nat}{rs:List Nat}{m:Nat}{listed:Array Bool}{a:Act}{w:World}(hr:Region.ready .any ops listed=rs)(hne:rs≠[])
 (h:∀i∈rs,wpOp P ops Q i (λa' w'=>TS S C (listed.setIfInBounds i true) w'/\anyS P ops Q S C m (listed.setIfInBounds i true) a' w') a w):anyS P ops Q S C (m+1) listed a w:=
 ⟨λb=>absurd (hr▸b) hne,hr▸h⟩
theorem Μ {S:World->Prop}{C:List Nat}{listed:Array Bool}{a:Act}{w:World}(hr:Region.ready .any ops listed=[])(h:Q .normal a w):∀m,anyS P ops Q S C m listed a w
 | 0=>⟨hr,h⟩
 | _+1=>⟨λ_=>h,by rw[hr];simp⟩
theorem UV {S:World->Prop}{C:List Nat}{id:Nat}{a:Act}{w:World}(hm:P.follows .mixedOrders=true)
 (h:anyS P ops Q S C ops.size (Array.replicate ops.size false) a {w with drawn:=w.drawn+1}):(Code.region id ops true).wp P Q a w:=
 wp_region_any hm (FB _ _ _ _ h)
end Go.Vc
namespace Go.Vc
open Go
def GI (P:Program):Op->Bool
 | .load _ _=>false
 | .lookup .. => false
 | .typeAssert .. => false
 | .convert s _ _=>match P.underlying s with
  | some (.slice _)=>false
  | _=>true
 | .call c=>match c.callee,c.argTypes.toList with
  | .builtin .len,[t]=>match P.underlying t with
   | some (.map _ _)=>false
   | some _=>true
   | none=>false
  | .builtin .cap,_=>true
  | .builtin .max,_=>true
  | .builtin .min,_=>true
  | _,_=>false
 | o=>ug o
theorem De {op:BinOp}{k:IntKind}{x y:Int}{K:Value->Prop}(h:qt op k x y K):∃v,K v/\qt op k x y (· = v):=by
 cases op<;>simp only[qt,Ar,Nz,Nn]at h ⊢
 all_goals first
  | exact⟨_,h,rfl⟩
  | exact⟨_,h.2,h.1,rfl⟩
theorem HR {op:BinOp}{b:Bool}{K:Value->Prop}(h:nD op b K):∃v,K v/\nD op b (· = v):=by
 cases op<;>simp only[nD]at h ⊢ <;> first|exact h.elim|exact⟨_,h,rfl⟩
theorem Re {P:Program}{op:BinOp}{t:Nat}{x y:Value}{K:Value->Prop}(h:mg P op t x y K):∃v,K v/\mg P op t x y (· = v):=by
 unfold mg at h ⊢;split at h
 ·obtain⟨v,a,b⟩:=HR h;exact⟨v,a,by simp only[*]⟩
 ·obtain⟨v,a,b⟩:=HR h;exact⟨v,a,by simp only[*]⟩
 ·obtain⟨v,a,b⟩:=HR h;exact⟨v,a,by simp only[*]⟩
 ·obtain⟨d,h⟩:=h;obtain⟨v,a,b⟩:=HR h;exact⟨v,a,by simp only[*];trivial⟩
 ·exact h.elim
theorem WkB {P:Program}{op:BinOp}{t:Nat}{x y:Value}{K:Value->Prop}(h:mE P op t x y K):∃v,K v/\mE P op t x y (· = v):=by
 unfold mE at h ⊢;split at h
 ·split at h
  ·obtain⟨v,a,b⟩:=De h;exact⟨v,a,by simpa[*]using b⟩
  ·rename_i hne;cases op<;>simp only at h
   all_goals try exact h.elim
   ·obtain⟨v,a,b⟩:=De h;exact⟨v,a,by simpa[hne]using b⟩
   ·obtain⟨v,a,b⟩:=De h;exact⟨v,a,by simpa[hne]using b⟩
 ·split at h
  ·obtain⟨v,a,b⟩:=HR h;exact⟨v,a,by simp only[*]⟩
  ·exact h.elim
 ·cases op<;>simp only at h ⊢ <;> first|exact h.elim|exact⟨_,h,rfl⟩
 ·exact h.elim
theorem WjW {P:Program}{op:BinOp}{t:Nat}{xs ys:List Value}{K:Value->Prop}(h:nU P op t xs ys K):∃v,K v/\nU P op t xs ys (· = v):=by
 unfold nU at h ⊢;split at h
 case h_3=>exact h.elim
 all_goals
  rename_i hu;rw[WH]at h;obtain⟨e,h⟩:=h;split at h
  case h_2=>exact h.elim
  rename_i b hb;obtain⟨v,d,a⟩:=HR h;exact⟨v,d,by simp only[hu,WH,hb];exact⟨e,a⟩⟩
theorem R6 {P:Program}{op:BinOp}{t:Nat}{y:Operand}{vx vy:Value}{K:Value->Prop}(h:w9 P op t y vx vy K):∃v,K v/\w9 P op t y vx vy (· = v):=by
 unfold w9 at h ⊢;cases hn:vX y
 ·rw[hn]at h;simp only[cond_false]at h ⊢;split at h
  ·exact WjW h
  ·exact WkB h
 ·rw[hn]at h;exact Re h
theorem uT {o:Option Value}{K:Value->Prop}(h:wv o K):∃v,K v/\wv o (· = v):=by
 obtain⟨v,rfl,a⟩:=Wq h;exact⟨v,a,rfl⟩
theorem NY {P:Program}{t off:Nat}{cs:List Value}{K:Value->Prop}(h:uR P t cs off K):∃v,K v/\uR P t cs off (· = v):=by
 unfold uR at h ⊢;split at h
 case h_2=>exact h.elim
 rename_i d ti hu hi;cases hd:Uh d
 ·rw[hd]at h;obtain⟨v,b,a⟩:=uT h;exact⟨v,b,by simpa[hd]using a⟩
 ·rw[hd]at h;exact⟨_,h,by simp⟩
theorem SP {P:Program}{t:Nat}{ps:List (Nat×Value)}{K:Value->Prop}(h:nY P t ps K):∃v,K v/\nY P t ps (· = v):=by
 unfold nY at h ⊢;split at h
 ·split at h
  ·rename_i z hz;have key:∀{ps:List (Nat×Value)} {raw:Nat->Bool} {A:Prop},mG raw ps A->A/\∀B:Prop,B->mG raw ps B:=by
    intro ps raw
    induction ps with
    | nil=>intro A h;exact⟨h,λB b=>b⟩
    | cons x ps ih=>
     intro A h;simp only[mG]at h ⊢;cases hr:raw x.1
     ·rw[hr]at h;exact ih h
     ·rw[hr]at h;simp only[cond_true]at h ⊢;exact⟨(ih h.2).1,λB b=>⟨h.1,(ih h.2).2 B b⟩⟩
   obtain⟨h,a⟩:=key h;split at h
   ·rename_i cs hf;rw[WH]at h;refine⟨_,h.2,?_⟩;simp only[*];refine a _ ?_;rw[WH]
    first|exact⟨h.1,trivial⟩|exact⟨rfl,trivial⟩
   ·exact h.elim
  ·exact h.elim
 ·split at h
  ·split at h
   ·refine⟨_,h,?_⟩;simp only[*]
   ·exact h.elim
  ·exact h.elim
 ·exact h.elim
theorem Γ {P:Program}{t:Nat}{x:Value}{lo hi mx:Option Value}{K:Value->Prop}(h:nZ P t x lo hi mx K):∃v,K v/\nZ P t x lo hi mx (· = v):=by
 unfold nZ at h ⊢;split at h
 case h_2=>exact h.elim
 rename_i e a n c hu;split at h
 case h_2=>exact h.elim
 rename_i ti hi';simp only at h ⊢;split at h
 case h_2=>exact h.elim
 rename_i l hh m hlo hhi hmx;obtain⟨d,i,g,j,b⟩:=h;refine⟨_,b,?_⟩;simp only[hu,hi',hlo,hhi,hmx];exact⟨d,i,g,j,rfl⟩
theorem DA:∀{vs:List Value} {v:Value} {b:Bool} {K:Value->Prop},pz b v vs K->∃z,K z/\pz b v vs (· = z)
 | [],v,b,K,h=>⟨v,by simpa[pz]using h,by simp[pz]⟩
 | u::vs,v,b,K,h=>by
  cases v<;>cases u<;>simp only[pz]at h ⊢ <;> try exact h.elim
  exact DA h
theorem Wnp {P:Program}{o:Op}(hp:GI P o=true){ρ:Env}{h:Hp}{K:Value->Prop}(hk:qK P o ρ h K):∃v,K v/\∀h',qK P o ρ h' (· = v):=by
 unfold qK at hk;split at hk
 case h_1 x=>obtain⟨v,a,e⟩:=uT hk;exact⟨v,a,λ_=>e⟩
 case h_2 x=>obtain⟨v,a,e⟩:=uT hk;exact⟨v,a,λ_=>e⟩
 case h_3 c x y=>
  obtain⟨v,B,hk⟩:=Wq hk;split at hk
  ·obtain⟨u,a,e⟩:=uT hk;exact⟨u,a,λ_=>by simpa only[qK,B,wv]using e⟩
  ·obtain⟨u,a,e⟩:=uT hk;exact⟨u,a,λ_=>by simpa only[qK,B,wv]using e⟩
  ·exact hk.elim
 case h_4=>simp[GI]at hp
 case h_5 x=>
  obtain⟨v,B,hk⟩:=Wq hk;split at hk
  ·obtain⟨C,rfl,w⟩:=hk;exact⟨_,w,λ_=>by simp only[qK,B,wv];exact⟨C,rfl,rfl⟩⟩
  ·exact⟨_,hk,λ_=>by simp only[qK,B,wv]⟩
  ·exact hk.elim
 case h_6 op t x y yt=>
  obtain⟨j,g,hk⟩:=Wq hk;obtain⟨N,J,E⟩:=Wq hk;obtain⟨v,a,e⟩:=R6 E;exact⟨v,a,λ_=>by simpa only[qK,g,J,wv]using e⟩
 case h_7 op t x=>
  obtain⟨j,g,hk⟩:=Wq hk;split at hk
  ·exact⟨_,hk,λ_=>by simp only[qK,g,wv]⟩
  ·exact⟨_,hk,λ_=>by simp only[qK,g,wv,Ar]⟩
  ·exact hk.elim
 case h_8 s d x=>
  obtain⟨j,g,hk⟩:=Wq hk;split at hk
  ·rename_i a e;exact⟨_,hk,λ_=>by simp only[qK,g,wv,a,e,Ar]⟩
  ·rename_i a e;exact⟨_,hk,λ_=>by simp only[qK,g,wv,a,e]⟩
  ·rename_i a e;simp[GI,a]at hp
  ·exact hk.elim
 case h_9 s x f=>
  obtain⟨j,g,hk⟩:=Wq hk;obtain⟨F,L,D,z,hk⟩:=Ao hk;split at hk
  ·rw[WH]at hk;exact⟨_,hk.2,λ_=>by simp only[qK,g,wv,ov,D,z,WH];exact⟨hk.1,trivial⟩⟩
  ·exact hk.elim
 case h_10 s x f=>
  obtain⟨j,g,hk⟩:=Wq hk;obtain⟨F,L,D,z,hk⟩:=Ao hk;split at hk
  ·obtain⟨v,a,e⟩:=NY hk;exact⟨v,a,λ_=>by simpa only[qK,g,wv,ov,D,z]using e⟩
  ·exact hk.elim
 case h_11 t x i=>
  obtain⟨j,g,hk⟩:=Wq hk;obtain⟨H,A,hk⟩:=Wq hk;split at hk
  ·have p:=(by assumption:P.underlying t=some _);rw[WH]at hk;obtain⟨a,C,rfl,e,r,w⟩:=hk;exact⟨_,w,λ_=>by simp only[qK,g,A,wv,p,WH];exact⟨a,C,rfl,e,r,rfl⟩⟩
  ·have p:=(by assumption:P.underlying t=some _);rw[WH]at hk;obtain⟨a,e,r,w⟩:=hk;exact⟨_,w,λ_=>by simp only[qK,g,A,wv,p,WH];exact⟨a,e,r,rfl⟩⟩
  ·exact hk.elim
 case h_12 t x i=>
  obtain⟨j,g,hk⟩:=Wq hk;obtain⟨H,A,hk⟩:=Wq hk;split at hk
  ·have p:=(by assumption:P.underlying t=some _);obtain⟨b,a,e,w⟩:=hk;exact⟨_,w,λ_=>by simp only[qK,g,A,wv,p];exact⟨b,a,e,rfl⟩⟩
  ·exact hk.elim
 case h_13=>simp[GI]at hp
 case h_14 t i=>
  obtain⟨j,g,hk⟩:=Wq hk;split at hk
  ·obtain⟨v,a,e⟩:=uT hk;exact⟨v,a,λ_=>by simpa only[qK,g,wv]using e⟩
  ·exact hk.elim
 case h_15 fn x y=>
  split at hk
  ·rename_i va vb a e;exact⟨_,hk,λ_=>by simp only[qK,a,e]⟩
  ·exact hk.elim
 case h_16 t ps=>
  split at hk
  ·rename_i vs a;obtain⟨v,e,r⟩:=SP hk;exact⟨v,e,λ_=>by simpa only[qK,a]using r⟩
  ·exact hk.elim
 case h_17 t x lo A mx=>
  obtain⟨j,g,hk⟩:=Wq hk;split at hk
  ·rename_i l h m a e r;obtain⟨v,M,G⟩:=Γ hk;exact⟨v,M,λ_=>by simpa only[qK,g,wv,a,e,r]using G⟩
  ·exact hk.elim
 case h_18 t x=>
  obtain⟨j,g,hk⟩:=Wq hk;rw[WH]at hk;exact⟨_,hk.2,λ_=>by simp only[qK,g,wv,WH];exact⟨hk.1,trivial⟩⟩
 case h_19=>simp[GI]at hp
 case h_20 c=>
  split at hk
  ·rename_i x t hc ha ht;unfold mr at hk;split at hk
   ·exact⟨_,hk,λ_=>by simp only[qK,hc,ha,ht,mr, *]⟩
   ·exact⟨_,hk,λ_=>by simp only[qK,hc,ha,ht,mr, *]⟩
   ·exact⟨_,hk,λ_=>by simp only[qK,hc,ha,ht,mr, *]⟩
   ·rename_i p;simp only[GI,hc,ht,p]at hp;cases hp
   ·exact hk.elim
  ·rename_i hc ha ht;split at hk
   ·exact⟨_,hk,λ_=>by simp only[qK,hc,ha,ht, *]⟩
   ·exact hk.elim
  ·rename_i hc ha;obtain⟨v,a,e⟩:=DA hk;exact⟨v,a,λ_=>by simpa only[qK,hc,ha]using e⟩
  ·rename_i hc ha;obtain⟨v,a,e⟩:=DA hk;exact⟨v,a,λ_=>by simpa only[qK,hc,ha]using e⟩
  ·exact hk.elim
 ·exact hk.elim
def gP (S:aP)(c:CK)(a:Addr)(K:c.T->Prop):Prop:=∃x,(∀h,S h->cell h a=some (c.v x))/\K x
def uy (S:aP):List CK->Addr->Nat->(List Value->Prop)->Prop
 | [],_,_,K=>K []
 | c::cs,a,i,K=>gP S c (a.add i) λx=>uy S cs a (i+1) λvs=>K (c.v x::vs)
def MX (S:aP)(k:IntKind)(c:CK)(m:Option Nat)(n:Int)(K:Option c.T->Prop):Prop:=∃l,(∀h,S h->jK h m k c l)/\K (bV l n)
def MO (S:aP)(k:IntKind)(c:CK)(m:Option Nat)(K:Int->Prop):Prop:=∃l,(∀h,S h->jK h m k c l)/\K (l.length:Int)
def qS (P:Program)(S:aP)(o:Op)(ρ:Env)(K:Value->Prop):Prop:=
 match o with
 | .load t a=>wv (ev ρ a) λv=>match v,kE P t with
  | .pointer (some a),some (.one c)=>gN (P.info? t).isSome (gP S c a λx=>K (c.v x))
  | .pointer (some a),some (.agg cs)=>gN (P.cellsOf t==cs.length) (gN (P.info? t).isSome (uy S cs a 0 λvs=>K (.agg vs.toArray)))
  | _,_=>False
 | .lookup t x i ok=>wv (ev ρ x) λvx=>wv (ev ρ i) λvi=>match P.underlying t,vx,vi with
  | some (.map kt et),.map m,.int k n=>match P.underlying kt,pH P et,P.info? et with
   | some (.int k'),some (.one c),some ti=>match ti.zero with
    | some z=>if k=k' then pq c z λz=>MX S k c m n λo=>K (bif ok then .tuple #[c.v (o.getD z),.bool o.isSome]else c.v (o.getD z))else False
    | none=>False
   | _,_,_=>False
  | _,_,_=>False
 | .call c=>match c.callee,qL ρ c.args.toList,c.argTypes.toList with
  | .builtin .len,some [.map m],[t]=>rG P t λk c=>MO S k c m λz=>K (.int .i64 z)
  | _,_,_=>False
 | _=>False
theorem JQ {S:aP}:∀{cs:List CK} {a:Addr} {i:Nat} {K:List Value->Prop},uy S cs a i K->∃vs,K vs/\∀h,S h->oo cs a i h (· = vs)
 | [],a,i,K,hk=>⟨[],hk,λh _=>rfl⟩
 | c::cs,a,i,K,⟨x,hx,hk⟩=>by
  obtain⟨vs,hK,hall⟩:=JQ hk;refine⟨c.v x::vs,hK,λh b=>?_⟩;have g:oo cs a (i+1) h λus=>c.v x::us=c.v x::vs:=by
   have key:∀{cs:List CK} {i:Nat} {K K':List Value->Prop},(∀vs,K vs->K' vs)->oo cs a i h K->oo cs a i h K':=by
    intro cs
    induction cs with
    | nil=>intro i K K' hh hk;exact hh _ hk
    | cons c cs ih=>
     intro i K K' hh hk;simp only[oo]at hk ⊢;cases c<;>(obtain⟨y,m,hk⟩:=hk;exact⟨y,m,ih (λvs e=>hh _ e) hk⟩)
   exact key (λus d=>by rw[d]) (hall h b)
  simp only[oo];have j:=hx h b;cases c<;>exact⟨x,j,g⟩
theorem Px {P:Program}{t:Nat}{K:IntKind->CK->Prop}(h:rG P t K):∃kt et k c,P.underlying t=some (.map kt et)/\P.underlying kt=some (.int k)/\pH P et=some (.one c)/\K k c:=by
 unfold rG at h;split at h
 ·split at h
  ·exact⟨_,_,_,_,by assumption,by assumption,by assumption,h⟩
  ·exact h.elim
 ·exact h.elim
theorem Mw {P:Program}{S:aP}{o:Op}{ρ:Env}{K:Value->Prop}(hk:qS P S o ρ K):∃v,K v/\∀h,S h->qK P o ρ h (· = v):=by
 unfold qS at hk;split at hk
 ·obtain⟨Q,r,hk⟩:=Wq hk;split at hk
  ·rename_i ad c hs;rw[WH]at hk;obtain⟨B,x,w,b⟩:=hk;refine⟨_,b,λh d=>?_⟩;simp only[qK,r,wv,hs,WH];refine⟨B,?_⟩;have s:=w h d;cases c<;>exact⟨x,s,rfl⟩
  ·rename_i ad cs hs;rw[WH,WH]at hk;obtain⟨B,F,hk⟩:=hk;obtain⟨vs,b,g⟩:=JQ hk;refine⟨_,b,λh d=>?_⟩;simp only[qK,r,wv,hs,WH];refine⟨B,F,?_⟩;have key:∀{cs:List CK} {i:Nat} {K K':List Value->Prop},(∀vs,K vs->K' vs)->oo cs ad i h K->oo cs ad i h K':=by
    intro cs
    induction cs with
    | nil=>intro i K K' hh hk;exact hh _ hk
    | cons c cs ih=>
     intro i K K' hh hk;simp only[oo]at hk ⊢;cases c<;>(obtain⟨y,G,hk⟩:=hk;exact⟨y,G,ih (λvs L=>hh _ L) hk⟩)
   exact key (λus j=>by rw[j]) (g h d)
  ·exact hk.elim
 ·obtain⟨M,w,p⟩:=Wq hk;obtain⟨R,H,a⟩:=Wq p;clear hk p;split at a
  case h_2=>exact a.elim
  rename_i J D m k n j;split at a
  case h_2=>exact a.elim
  rename_i k' c ti hkk hs hti;split at a
  case h_2=>exact a.elim
  rename_i z hz;split at a
  case isFalse=>exact a.elim
  rename_i e;subst e;obtain⟨N,rfl,l,C,b⟩:=Ux a;refine⟨_,b,λh d=>?_⟩;simp only[qK,w,H,wv,xS,j,hkk,hs,hti,hz,zS];have E:=C h d;rw[Nr];exact⟨l,E,rfl⟩
 ·split at hk
  ·rename_i m t s r ht;obtain⟨J,D,k,c,j,u,A,l,C,b⟩:=Px hk;refine⟨_,b,λh d=>?_⟩;simp only[qK,s,r,ht,mr,j,u,A];exact⟨l,C h d,rfl⟩
  ·exact hk.elim
 ·exact hk.elim
structure iT (ops:Array Oper) (listed:Array Bool) (D:List Nat):Prop where
 size:listed.size=ops.size
 at_:∀j,j<ops.size->listed[j]?=some (D.contains j)
 lt:∀j∈D,j<ops.size
theorem iT.getD {ops:Array Oper}{listed:Array Bool}{D:List Nat}(h:iT ops listed D){j:Nat}(hj:j<ops.size)(b:Bool):listed.getD j b=D.contains j:=by
 rw[sg,h.at_ j hj];rfl
theorem iT.nK {ops:Array Oper}{listed:Array Bool}{D:List Nat}(h:iT ops listed D)(j:Nat):listed.getD j false=D.contains j:=by
 rcases l8 j ops.size with hj|hj
 ·exact h.getD hj false
 ·rw[sg,Array.getElem?_eq_none (by rw[h.size];exact hj)]
  symm
  simp only[Option.getD_none,sj,decide_eq_false_iff_not];exact λa=>by have:=h.lt j a;omega
theorem iT.start (ops:Array Oper):iT ops (Array.replicate ops.size false) []:=
 ⟨by simp,λj a=>by simp[a],λj a=>by simp at a⟩
theorem iT.cons {ops:Array Oper}{listed:Array Bool}{D:List Nat}(h:iT ops listed D){i:Nat}(hi:i<ops.size):iT ops (listed.setIfInBounds i true) (i::D):=by
 refine⟨by simp[h.size],λj a=>?_,λj a=>?_⟩
 ·by_cases hij:i=j
  ·subst hij;simp[h.size,a]
  ·rw[xY hij,h.at_ j a];have:(j==i)=false:=by simpa using λe=>hij e.symm
   simp only[List.contains_cons,this,ym]
 ·rcases zQ.1 a with rfl|h'
  ·exact hi
  ·exact h.lt j h'
def mU (ops:Array Oper)(D:List Nat)(i:Nat):Bool:=match ops[i]? with
 | none=>false
 | some o=>!D.contains i&&o.after.toList.all λe=>!Region.binds .any e||D.contains e.on
def CV (ops:Array Oper)(D:List Nat)(i:Nat):Bool:=match ops[i]? with
 | none=>false
 | some oi=>(List.range ops.size).all λj=>Nat.beq j i||(D.contains j||match ops[j]? with
  | some oj=>oj.after.toList.any (λe=>Region.binds .any e&&Nat.beq e.on i)||oi.apart ops oj
  | none=>true)
theorem Ca {ops:Array Oper}{D:List Nat}{i:Nat}(h:mU ops D i=true):i<ops.size:=by
 unfold mU at h;split at h
 ·cases h
 ·rename_i o ho;exact(mF.1 ho).1
theorem G0 {ops:Array Oper}{listed:Array Bool}{D:List Nat}(h:iT ops listed D)(i:Nat):i∈Region.ready .any ops listed↔mU ops D i=true:=by
 rw[mem_ready];unfold mU;cases ho:ops[i]? with
 | none=>simp
 | some o=>
  have d:i<ops.size:=(mF.1 ho).1;simp only[h.getD d,Option.some.injEq,exists_eq_left',zF,ni,kN,ot];constructor
  ·rintro⟨h1,h2⟩;refine⟨h1,λe a=>?_⟩;cases b:Region.binds .any e
   ·exact .inl rfl
   ·right;have:=h2 e (by simpa using a) b
    rwa [h.nK]at this
  ·rintro⟨h1,h2⟩;refine⟨h1,λe a b=>?_⟩;have:=h2 e (by simpa using a);rw[b]at this;rw[h.nK];simpa using this
theorem GE {ops:Array Oper}{listed:Array Bool}{D:List Nat}(h:iT ops listed D){i:Nat}(hf:CV ops D i=true):Region.free .any ops listed i=true:=by
 unfold CV at hf;unfold Region.free;cases ho:ops[i]? with
 | none=>rw[ho]at hf;cases hf
 | some oi=>
  rw[ho]at hf;simp only[kN,zU]at hf ⊢;intro j hj;have:=hf j hj;rw[h.getD hj];simp only[ot]at this ⊢;rcases this with h1|h1|h1
  ·exact .inl (.inl (by simpa using lC h1))
  ·exact .inl (.inr h1)
  ·right;split at h1
   ·rename_i oj hoj;simp only[hoj,ot]at h1 ⊢;rcases h1 with h1|h1
    ·left;rw[j9]at h1;obtain⟨e,b,a⟩:=h1;simp only[zF]at a;rw[Array.any_eq_true'];exact⟨e,by simpa using b,by simp[a.1,lC a.2]⟩
    ·exact .inr h1
   ·rename_i hoj;simp[hoj]
inductive SH where
 | done
 | take (i:Nat) (r:SH)
 | split (c:Nat) (t f:SH)
 | all (l:List (Nat×SH))
def SH.tk:List Nat->SH->SH
 |[],s=>s
 |i::l,s=>.take i (SH.tk l s)
def Sx (sm:Bool)(S:aP)(h:Hp)(X:Prop):Prop:=match sm with
 | true=>S h/\X
 | false=>X
def shut (C D:List Nat):Bool:=C.any λk=>D.contains k
def tW (f:Nat->SH->Prop):List (Nat×SH)->Prop
 | []=>True
 | [x]=>f x.1 x.2
 | x::y::l=>f x.1 x.2/\tW f (y::l)
def Uu (P:Program)(N:Nat)(ops:Array Oper)(sm:Bool)(C:List Nat)(S:aP)(K:Env->Hp->Prop):Nat->Nat->SH->List Nat->Env->Hp->Prop
 | 0,_,_,_,_,_=>False
 | n+1,_,.done,D,ρ,h=>gN ((List.range ops.size).all λj=>D.contains j) (K ρ h)
 | n+1,m+1,.take i r,D,ρ,h=>match ops[i]? with
  | some o=>gN (mU ops D i&&(CV ops D i&&(sH N o.dst && !C.contains i)))
   (bif sJ ops o ρ then Uu P N ops sm C S K n m r (i::D) (ρ.iQ o.dst undef) h
    else gN (pn ops o ρ) (bif GI P o.op then qK P o.op ρ h λv=>Uu P N ops sm C S K n m r (i::D) (ρ.iQ o.dst v) h
     else gN (sm&&((C.all λk=>xg ops k i) && !shut C D)) (qS P S o.op ρ λv=>Uu P N ops sm C S K n m r (i::D) (ρ.iQ o.dst v) h)))
  | none=>False
 | n+1,m,.split c t f,D,ρ,h=>HB ρ (.tmp c) λb=>If b (Uu P N ops sm C S K n m t D (ρ.put c (.bool true)) h) (Uu P N ops sm C S K n m f D (ρ.put c (.bool false)) h)
 | n+1,m+1,.all l,D,ρ,h=>gN ((!l.isEmpty&&l.all λx=>Nat.blt x.1 ops.size)&&((List.range ops.size).all λj=>mU ops D j==l.any λx=>Nat.beq x.1 j))
  (tW (λi r=>match ops[i]? with
   | some o=>gN (sH N o.dst) (bif sJ ops o ρ then Sx (sm && !shut C (i::D)) S h (Uu P N ops sm C S K n m r (i::D) (ρ.iQ o.dst undef) h)
    else gN (pn ops o ρ) (xp P o.op o.type ρ h λv h'=>Sx (sm && !shut C (i::D)) S h' (Uu P N ops sm C S K n m r (i::D) (ρ.iQ o.dst v) h')))
   | none=>False) l)
 | _,_,_,_,_,_=>False
def dU (h:Hp)(body:(Hp->Prop)->Prop):Prop:=∃S:Hp->Prop,S h/\body S
theorem Lu {f:Nat->SH->Prop}:∀{l:List (Nat×SH)},tW f l->∀x∈l,f x.1 x.2
 | [],_,x,hx=>by simp at hx
 | [y],h,x,hx=>by simp at hx;subst hx;exact h
 | y::z::l,h,x,hx=>by
  rcases zQ.1 hx with rfl|hx
  ·exact h.1
  ·exact Lu h.2 x hx
theorem wG {ds:List Nat}{ρ ρ':Env}{ops:Array Oper}{i:Nat}{o:Oper}(ho:ops[i]?=some o){v:Value}
 (k:∀j,(ops.toList.filterMap (·.dst)).contains j=false->∀u,(ρ.iQ o.dst v) j=some u->ρ' j=some u):∀j,(ops.toList.filterMap (·.dst)).contains j=false->∀u,ρ j=some u->ρ' j=some u:=by
 intro j hj u hu;refine k j hj u ?_;cases hd:o.dst with
 | none=>exact hu
 | some d=>
  simp only[Env.iQ,Env.put];cases hb:Nat.beq j d
  ·exact hu
  ·have e:j=d:=lC hb;subst e;exfalso;simp only[sj,decide_eq_false_iff_not,vF,not_exists,not_and]at hj;refine hj o ?_ hd;have:=AY ho;simpa using this
def TD (S:aP)(C D:List Nat)(h:Hp):Prop:=S h\/shut C D=true
theorem TD.ts {S:aP}{C D:List Nat}{ops:Array Oper}{listed:Array Bool}{w:World}(hD:iT ops listed D)(h:TD S C D w.heap):TS (λw=>S w.heap) C listed w:=by
 refine h.imp id λa=>?_;unfold shut at a;rw[j9]at a;obtain⟨k,d,b⟩:=a;exact⟨k,d,by rw[hD.nK];exact b⟩
theorem S3 {C D:List Nat}{ops:Array Oper}{listed:Array Bool}(hD:iT ops listed D)(h:shut C D=false):∀k∈C,listed.getD k false=false:=by
 intro k hk;unfold shut at h;rw[np]at h;rw[hD.nK];simpa using h k hk
theorem To {C D:List Nat}{i:Nat}(h:shut C D=true):shut C (i::D)=true:=by
 unfold shut at *;rw[j9]at *;obtain⟨k,b,a⟩:=h;refine⟨k,b,?_⟩;rw[tT]at *;exact kM _ a
theorem JW {sm:Bool}{S:aP}{C D:List Nat}{h:Hp}{X:Prop}(hs:sm=false->∀h,S h)(hx:Sx (sm && !shut C D) S h X):TD S C D h/\X:=by
 cases hc:shut C D
 ·rw[hc]at hx;simp only[yw,uq]at hx;cases sm
  ·exact⟨.inl (hs rfl h),hx⟩
  ·exact⟨.inl hx.1,hx.2⟩
 ·rw[hc]at hx;simp only[Bool.not_true,sA]at hx;exact⟨.inr hc,hx⟩
theorem Qu {P:Program}{N:Nat}{ops:Array Oper}{sm:Bool}{C:List Nat}{S:aP}{K:Env->Hp->Prop}{Qn:Act->World->Prop}(hsel:Region.noSelect ops=true)(hsm:sm=false->∀h,S h):∀(n m:Nat) {sh:SH} {D:List Nat} {ρ:Env} {a:Act} {w:World} {listed:Array Bool},
 Uu P N ops sm C S K n m sh D ρ w.heap->Fits N ρ a->iT ops listed D->TD S C D w.heap->(∀ρ' a' w',Fits N ρ' a'->ZP w w'->UQ ops.toList ρ ρ'->K ρ' w'.heap->Qn a' w') →
 anyS P ops (λe a w=>match e with | .normal=>Qn a w|_=>False) (λw=>S w.heap) C m listed a w
 | 0,m,sh,D,ρ,a,w,listed,h,hf,hD,hS,hK=>(by simp only[Uu]at h)
 | n+1,m,.done,D,ρ,a,w,listed,h,hf,hD,hS,hK=>by
  have h':gN ((List.range ops.size).all λj=>D.contains j) (K ρ w.heap):=by cases m<;>exact h
  rw[WH]at h';refine Μ ?_ (hK ρ a w hf (.refl _) (λ_ _ _ h=>h) h'.2) m;rw[List.eq_nil_iff_forall_not_mem];intro j hj;have B:=(G0 hD j).1 hj;have:=kN.1 h'.1 j (zU.2 (Ca B));unfold mU at B;split at B
  ·cases B
  ·rw[this]at B;simp at B
 | n+1,0,.take i r,D,ρ,a,w,listed,h,hf,hD,hS,hK=>(by simp only[Uu]at h)
 | n+1,m+1,.take i r,D,ρ,a,w,listed,h,hf,hD,hS,hK=>by
  simp only[Uu]at h;split at h
  case h_2=>exact h.elim
  rename_i o ho;rw[WH]at h;obtain⟨Z,h⟩:=h;simp only[zF,ni]at Z;obtain⟨hrd,U,s,V⟩:=Z;have H:=Ca hrd;have z:i∈Region.ready .any ops listed:=(G0 hD i).2 hrd;have p:TD S C (i::D) w.heap:=hS.imp id To;cases hg:sJ ops o ρ
  ·rw[hg]at h;simp only[cond_false]at h;rw[WH]at h;obtain⟨W,h⟩:=h;have hw:=Qc hf W;cases hp:GI P o.op
   ·rw[hp]at h;simp only[cond_false]at h;rw[WH]at h;obtain⟨M,h⟩:=h;simp only[zF,ni,kN]at M;obtain⟨v,J,F⟩:=Mw h;refine CR (T:=λw=>S w.heap) ho hsel (GE hD U) z (λ_ _ _ h=>h) V (.inr ⟨λ_ h=>h,M.2.1⟩) (.inr (S3 hD M.2.2)) (v:=v) (.inl ⟨hw,λw' p=>?_⟩) (hS.ts hD) ?_
    ·obtain⟨u,B,rfl⟩:=G6 hf.ev o (F w'.heap p);exact B
    ·exact Qu hsel hsm n m J (hf.put s v) (hD.cons H) p λρ' a' w' d G E g=>hK ρ' a' w' d G (wG (ds:=[]) ho E) g
   ·rw[hp]at h;simp only[cond_true]at h;obtain⟨v,J,F⟩:=Wnp hp h;refine CR (T:=λ_=>True) ho hsel (GE hD U) z (λ_ _ _ h=>h) V (.inl λ_=>trivial) (.inl λ_=>trivial) (v:=v) (.inl ⟨hw,λw' _=>?_⟩) (hS.ts hD) ?_
    ·obtain⟨u,B,rfl⟩:=G6 hf.ev o (F w'.heap);exact B
    ·exact Qu hsel hsm n m J (hf.put s v) (hD.cons H) p λρ' a' w' d G E g=>hK ρ' a' w' d G (wG (ds:=[]) ho E) g
  ·rw[hg]at h;simp only[cond_true]at h;refine CR (T:=λ_=>True) ho hsel (GE hD U) z (λ_ _ _ h=>h) V (.inl λ_=>trivial) (.inl λ_=>trivial) (v:=undef) (.inr ⟨Vt hf hg,rfl⟩) (hS.ts hD) ?_;exact Qu hsel hsm n m h (hf.put s undef) (hD.cons H) p λρ' a' w' d G E g=>hK ρ' a' w' d G (wG (ds:=[]) ho E) g
 | n+1,m,.split c t f,D,ρ,a,w,listed,h,hf,hD,hS,hK=>by
  have h':HB ρ (.tmp c) λb=>If b (Uu P N ops sm C S K n m t D (ρ.put c (.bool true)) w.heap) (Uu P N ops sm C S K n m f D (ρ.put c (.bool false)) w.heap):=by cases m<;>exact h
  obtain⟨b,hb,Y⟩:=UG h';have A:=λe=>Y.t e;have h2:=λe=>Y.f e;have R:ρ c=some (.bool b):=hb;have kk:∀(b':Bool),b=b'->∀ρ',UQ ops.toList (ρ.put c (.bool b')) ρ'->UQ ops.toList ρ ρ':=by
   intro b' e ρ' k i H u hu;refine k i H u ?_;simp only[Env.put];cases hic:Nat.beq i c
   ·exact hu
   ·have e2:i=c:=lC hic;subst e2;rw[R]at hu;simp only[cond_true];rw[←e];exact hu
  cases b
  ·exact Qu hsel hsm n m (h2 rfl) (hf.lit R rfl) hD hS λρ' a' w' d G E g=>hK ρ' a' w' d G (kk false rfl ρ' E) g
  ·exact Qu hsel hsm n m (A rfl) (hf.lit R rfl) hD hS λρ' a' w' d G E g=>hK ρ' a' w' d G (kk true rfl ρ' E) g
 | n+1,0,.all l,D,ρ,a,w,listed,h,hf,hD,hS,hK=>(by simp only[Uu]at h)
 | n+1,m+1,.all l,D,ρ,a,w,listed,h,hf,hD,hS,hK=>by
  simp only[Uu]at h;rw[WH]at h;obtain⟨Z,h⟩:=h;simp only[zF,ni,kN,zU,zZ]at Z;obtain⟨⟨hne,hlt⟩,aa⟩:=Z;have X:∀j,j∈Region.ready .any ops listed->∃r,(j,r)∈l:=by
   intro j hj;have B:=(G0 hD j).1 hj;have:=aa j (Ca B);rw[B]at this;have:=j9.1 this.symm;obtain⟨x,hx,hb⟩:=this;have e:x.1=j:=lC hb;exact⟨x.2,by rw[←e];exact hx⟩
  refine LY (rs:=Region.ready .any ops listed) rfl ?_ λj hj=>?_
  ·intro hnil
   match l,hne with
   | x::l',_=>
    have hx:=Nat.blt_eq.mp (hlt x aA);have:=aa x.1 hx;have hany:(x::l').any (λy=>Nat.beq y.1 x.1)=true:=j9.2 ⟨x,by simp,by simp⟩;rw[hany]at this;have:=(G0 hD x.1).2 this;rw[hnil]at this;simp at this
  ·obtain⟨r,B⟩:=X j hj;have A:=Lu h (j,r) B;simp only at A;split at A
   case h_2=>exact A.elim
   rename_i o ho;have H:j<ops.size:=(mF.1 ho).1;rw[WH]at A;obtain⟨s,A⟩:=A;unfold wpOp;simp only[ho];cases hg:sJ ops o ρ
   ·rw[hg]at A;simp only[cond_false]at A;rw[WH]at A;obtain⟨W,A⟩:=A;rw[zB (Qc hf W)];refine .inl (Vj.upon (E6 hf.ev o A) λv w' G J=>?_);obtain⟨p,J⟩:=JW hsm J;exact⟨p.ts (hD.cons H),Qu hsel hsm n m J (hf.put s v) (hD.cons H) p λρ' a' Q d L E g=>hK ρ' a' Q d (G.trans L) (wG (ds:=[]) ho E) g⟩
   ·rw[hg]at A;simp only[cond_true]at A;rw[Vt hf hg];simp only[zb,zy];obtain⟨p,J⟩:=JW hsm A;exact⟨p.ts (hD.cons H),Qu hsel hsm n m J (hf.put s undef) (hD.cons H) p λρ' a' Q d L E g=>hK ρ' a' Q d L (wG (ds:=[]) ho E) g⟩
def AN (P:Program)(N:Nat)(sm:Bool)(C:List Nat)(sh:SH)(ops:Array Oper)(ρ:Env)(h:Hp)(K:Env->Hp->Prop):Prop:=
 match sm with
 | true=>dU h λS=>Uu P N ops true C S K 400 ops.size sh [] ρ h
 | false=>Uu P N ops false C (λ_=>True) K 400 ops.size sh [] ρ h
theorem Uq {P:Program}{N id:Nat}{ops:Array Oper}{sm:Bool}{C:List Nat}{sh:SH}{K:Env->Hp->Prop}{ρ:Env}{a:Act}{w:World}{Q:Exit->Act->World->Prop}
 (hm:P.follows .mixedOrders=true) (hsel:Region.noSelect ops=true) (h:AN P N sm C sh ops ρ w.heap K)
 (hf:Fits N ρ a) (hK:∀ρ' a' w',Fits N ρ' a'->ZP w w'->UQ ops.toList ρ ρ'->K ρ' w'.heap->Q .normal a' w'):(Code.region id ops true).wp P Q a w:=by
 refine wp_mono (Q:=λe a w=>match e with | .normal=>Q .normal a w|_=>False) ?_ (λe a w j=>by cases e<;>first|exact j|exact j.elim)
 have hd:ZP w {w with drawn:=w.drawn+1}:=⟨rfl,rfl,rfl,zD _⟩;cases sm
 ·exact UV (S:=λw=>True) hm (Qu (S:=λ_=>True) (w:={w with drawn:=w.drawn+1}) (Qn:=Q .normal) hsel (λ_ _=>trivial) 400 ops.size h hf (iT.start ops) (.inl trivial) λρ' a' w' b g d i=>hK ρ' a' w' b (hd.trans g) d i)
 ·obtain⟨S,m,h⟩:=h;exact UV hm (Qu (S:=S) (w:={w with drawn:=w.drawn+1}) (Qn:=Q .normal) hsel (λe=>by cases e) 400 ops.size h hf (iT.start ops) (.inl m) λρ' a' w' b g d i=>hK ρ' a' w' b (hd.trans g) d i)
abbrev Js:=List (Nat×SK)
def oJ (js:Js):List CK:=iJ (js.map (·.2))
def uk (ρ:Env):Js->Option (List Value)
 | []=>some []
 | (i,.one _)::js=>match ρ i,uk ρ js with|some v,some vs=>some (v::vs)|_,_=>none
 | (i,.agg cs)::js=>match ρ i,uk ρ js with
  | some (.agg a),some vs=>bif a.size==cs.length then some (a.toList++vs)else none
  | _,_=>none
def uO (js:Js)(ρ:Env)(J:eP (oJ js))(h:Hp):Prop:=match uk ρ js with
 | some vs=>wP (oJ js) J vs h
 | none=>False
def iZ:Env->Js->List Value->Env
 | ρ,[],_=>ρ
 | ρ,(i,.one _)::js,v::vs=>iZ (ρ.put i v) js vs
 | ρ,(i,.one _)::js,[]=>iZ ρ js []
 | ρ,(i,.agg cs)::js,vs=>iZ (ρ.put i (.agg (vs.take cs.length).toArray)) js (vs.drop cs.length)
def Jn (ks:List CK)(K:eP ks)(body:eP ks->Prop):Prop:=∃J:eP ks,eP.le ks J K/\body J
theorem eP.le_refl:∀(ks:List CK) (R:eP ks),eP.le ks R R
 | [],_=>λ_ h=>h
 | _::cs,_=>λ_=>eP.le_refl cs _
theorem Jn.intro {ks:List CK}{K:eP ks}{body:eP ks->Prop}(h:body K):Jn ks K body:=⟨K,eP.le_refl ks K,h⟩
def oE (ds:List Nat)(i:Nat):Bool:=ds.contains i
def Vv (ds:List Nat)(ρ ρ':Env):Prop:=∀i,ds.contains i=false->∀v,ρ i=some v->ρ' i=some v
theorem Vv.trans {d1 d2:List Nat}{a b c:Env}(h:Vv d1 a b)(k:Vv d2 b c):Vv (d1++d2) a c:=by
 intro i hi v hv;simp only[sj,zR,decide_eq_false_iff_not,not_or]at hi;exact k i (by simpa using hi.2) v (h i (by simpa using hi.1) v hv)
theorem Vv.mono {d1 d2:List Nat}{a b:Env}(h:Vv d1 a b)(hs:∀i,i∈d1->i∈d2):Vv d2 a b:=by
 intro i hi v hv;refine h i ?_ v hv;simp only[sj,decide_eq_false_iff_not]at hi ⊢;exact λd=>hi (hs i d)
theorem Vv.refl (ds:List Nat)(a:Env):Vv ds a a:=λ_ _ _ h=>h
theorem KY (ds:List Nat):∀(js:Js) (ρ:Env) (vs:List Value),(js.all λs=>oE ds s.1)=true->Vv ds ρ (iZ ρ js vs)
 | [],ρ,vs,_=>by simp only[iZ];exact .refl _ _
 | (i,.one c)::js,ρ,[],h=>by
  simp only[vM,zF]at h;simp only[iZ];exact KY ds js ρ [] h.2
 | (i,.one c)::js,ρ,v::vs,h=>by
  simp only[vM,zF]at h;simp only[iZ];intro j hj u hu;refine KY ds js _ vs h.2 j hj u ?_;simp only[Env.put];cases hb:Nat.beq j i
  ·exact hu
  ·have e:j=i:=lC hb;subst e;simp only[oE]at h;rw[hj]at h;cases h.1
 | (i,.agg cs)::js,ρ,vs,h=>by
  simp only[vM,zF]at h;simp only[iZ];intro j hj u hu;refine KY ds js _ _ h.2 j hj u ?_;simp only[Env.put];cases hb:Nat.beq j i
  ·exact hu
  ·have e:j=i:=lC hb;subst e;simp only[oE]at h;rw[hj]at h;cases h.1
theorem VU {N:Nat}:∀(js:Js) {ρ ρ':Env} {a:Act} {vs:List Value},Fits N ρ a->Fits N ρ' a->uk ρ' js=some vs->Fits N (iZ ρ js vs) a
 | [],ρ,ρ',a,vs,h,_,_=>h
 | (i,.one c)::js,ρ,ρ',a,vs,h,h',hv=>by
  simp only[uk]at hv;split at hv
  ·rename_i v vs' h1 h2;cases hv;simp only[iZ];refine VU js ⟨h.defers,h.size,λj u hu=>?_⟩ h' h2;simp only[Env.put]at hu;cases hb:Nat.beq j i
   ·rw[hb]at hu;exact h.at_ j u hu
   ·have e:j=i:=lC hb;subst e;rw[hb]at hu;simp only[cond_true,Option.some.injEq]at hu;subst hu;exact h'.at_ j _ h1
  ·cases hv
 | (i,.agg cs)::js,ρ,ρ',a,vs,h,h',hv=>by
  simp only[uk]at hv;split at hv
  ·rename_i ar vs' h1 h2;cases hs:(ar.size==cs.length)
   ·rw[hs]at hv;cases hv
   ·rw[hs]at hv;simp only[cond_true,Option.some.injEq]at hv;subst hv;have b:ar.toList.length=cs.length:=by simpa using hs
    simp only[iZ];rw[←b,List.take_left,List.drop_left];refine VU js ⟨h.defers,h.size,λj u hu=>?_⟩ h' h2;simp only[Env.put]at hu;cases hb:Nat.beq j i
    ·rw[hb]at hu;exact h.at_ j u hu
    ·have e:j=i:=lC hb;subst e;rw[hb]at hu;simp only[cond_true,Option.some.injEq]at hu;subst hu;simpa using h'.at_ j _ h1
  ·cases hv
theorem An {js:Js}{ρ:Env}{J:eP (oJ js)}{h:Hp}(hj:uO js ρ J h):∃vs,uk ρ js=some vs/\Sat (oJ js) J vs h:=by
 unfold uO at hj;split at hj
 ·exact⟨_,by assumption,yA hj⟩
 ·exact hj.elim
theorem H6 {N:Nat}{ds:List Nat}{ρ ρ':Env}{a:Act}(h:Fits N ρ' a)(k:Vv ds ρ ρ'):Fits N (ρ.fA ds) a:=by
 refine h.weaken λi v b=>?_;simp only[Env.fA]at b;cases hc:ds.contains i
 ·rw[hc]at b;exact k i hc v b
 ·rw[hc]at b;cases b
theorem Ge (ds:List Nat)(ρ:Env):Vv ds ρ (ρ.fA ds):=by
 intro i hi v hv;simp only[Env.fA,hi];exact hv
def yc:Op->Bool
 | .pick .. => true
 | _=>false
def kS (os:List Oper):Bool:=os.all λo=>ug o.op||yc o.op
theorem VT {P:Program}{N:Nat}{ops:Array Oper}{Q:Act->Prop}{w:World}:∀(n:Nat) {hs:List RI} {os:List Oper} {tail:List Oper} {ρ:Env} {a:Act} {K:Env->Hp->Prop},
 fU P N ops n hs os ρ w.heap K->kS os=true->Fits N ρ a->(∀ρ' a',Fits N ρ' a'->UQ os ρ ρ'->K ρ' w.heap->wpStill P ops w Q tail a')->wpStill P ops w Q (os++tail) a
 | 0,_,_,_,_,_,_,h,_,_,_=>(by simp only[fU]at h)
 | n+1,[],[],tail,ρ,a,K,h,hq,hf,hK=>by
  simp only[fU]at h;exact hK ρ a hf (λ_ _ _ h=>h) h
 | n+1,[],o::os,tail,ρ,a,K,h,hq,hf,hK=>(by simp only[fU]at h)
 | n+1,.op::hs,[],tail,ρ,a,K,h,hq,hf,hK=>(by simp only[fU]at h)
 | n+1,.it ki c::hs,[],tail,ρ,a,K,h,hq,hf,hK=>(by simp only[fU]at h)
 | n+1,.it ki c::hs,o::os,tail,ρ,a,K,h,hq,hf,hK=>by
  simp only[fU]at h;rw[WH]at h;simp only[kS,vM,zF,ot]at hq;have h2:=h.2;unfold y9 at h2;split at h2
  ·rename_i heq;rw[heq]at hq;simp[ug,yc]at hq
  ·rename_i heq;rw[heq]at hq;simp[ug,yc]at hq
  ·exact h2.elim
 | n+1,.op::hs,o::os,tail,ρ,a,K,h,hq,hf,hK=>by
  simp only[fU]at h;rw[WH]at h;obtain⟨C,h⟩:=h;simp only[zF]at C;have hw:=Qc hf C.1;simp only[kS,vM,zF,ot]at hq;have hqo:ug o.op=true:=by
   rcases hq.1 with h1|h1
   ·exact h1
   ·unfold yc at h1;split at h1
    ·rename_i heq;rw[heq];rfl
    ·cases h1
  unfold xp at h;rw[hqo]at h;obtain⟨v,Y,B⟩:=G6 hf.ev o h;simp only[lQ,wpStill,hw,zS,Oper.still,Y,Oper.stillUpon];exact⟨trivial,VT n B (by simpa[kS]using hq.2) (hf.put C.2 v) λρ' a' g D s=>hK ρ' a' g D.cons s⟩
 | n+1,.dA and m inner::hs,os,tail,ρ,a,K,h,hq,hf,hK=>by
  simp only[fU]at h;split at h
  case h_2=>exact h.elim
  rename_i pk rest hdrop;split at h
  case h_2=>exact h.elim
  rename_i c x y d hop hd;split at h
  case h_2=>exact h.elim
  rename_i b hb;rw[WH]at h;obtain⟨C,J,hJ,h⟩:=h;simp only[zF]at C;obtain⟨W,F,M,V,A⟩:=C;have U:os++tail=os.take m++(pk::rest++tail):=by
   rw[←hdrop,←km,mZ]
  have R:kS (os.take m)=true:=by
   rw[kS,kN]at hq ⊢;exact λo Z=>hq o (mK Z)
  have X:kS rest=true:=by
   rw[kS,kN]at hq ⊢;exact λo Z=>hq o (qi (i:=m) (by rw[hdrop];exact kM _ Z))
  rw[U];have j:∀(r b':Bool) (z:Operand) a',b=b'->(bif b' then x else y)=z->Fits N (ρ.fA ((os.take m).filterMap (·.dst))) a'->J r w.heap->Region.wanted pk (yielded ops a'.tmps)=true →
   a'.eval (.tmp c)=.bool b'->a'.eval z=.bool r->wpStill P ops w Q (pk::rest++tail) a':=by
   intro r b' z a' e ez g G hw u hez;have H:(execOp a'.eval pk).run P w=.ok (.value (.bool r)) w:=by
    obtain⟨dst,op,ty,pos,aft,guard⟩:=pk;simp only at hop;subst hop;subst ez;cases b'<;>simp at hez<;>simp[execOp,u,asBool,hez]
   simp only[lQ,wpStill,hw,zS,Oper.still,H,Oper.stillUpon];have S:=g.put (d:=some d) W (.bool r);rw[hd];exact⟨trivial,VT n (hJ _ _ G) X S λρ' ab L D s=>hK ρ' ab L (UQ.dA hd hdrop D) s⟩
  have run:∀(b':Bool) (z:Operand),b=b'->(bif b' then x else y)=z →
   fU P N ops n inner (os.take m) (ρ.put c (.bool b')) w.heap (λρ' h'=>gN (pn ops pk ρ'&&tY ρ' c b') (HB ρ' z λr=>J r h'))->wpStill P ops w Q (os.take m++(pk::rest++tail)) a:=by
   intro b' z e ez hseg;refine VT n hseg R (hf.lit hb e) λρ' a' g D B=>?_;rw[WH]at B;simp only[zF]at B;obtain⟨⟨hg,aa⟩,B⟩:=B;obtain⟨r,Y,G⟩:=UG B;exact j r b' z a' e ez (g.yO hb e D) G (Qc g hg) (g.ev _ _ (yL aa)) (g.ev _ _ Y)
  have p:∀(b':Bool),b=b'->b' = !and->J (!and) w.heap->wpStill P ops w Q (os.take m++(pk::rest++tail)) a:=by
   intro b' e eb G;subst eb;refine Iy A (hf.lit hb e) λa' g=>?_;have E:Fits N (ρ.fA ((os.take m).filterMap (·.dst))) a':=g.yO (ρ':=(ρ.put c (.bool (!and))).fA ((os.take m).filterMap (·.dst))) hb e (λi hi v hv=>by simp only[Env.fA,hi];exact hv);have u:=g.ev (.tmp c) _ (yL V);refine j (!and) (!and) (bif (!and)then x else y) a' e rfl E G (Qc E M) u ?_;refine Lx ?_ _ (λv=>rfl);cases and<;>exact F
  cases and
  ·simp only[cond_false]at h;cases b
   ·exact run false y rfl rfl (h.f rfl)
   ·exact p true rfl rfl (h.t rfl)
  ·simp only[cond_true]at h;cases b
   ·exact p false rfl rfl (h.f rfl)
   ·exact run true x rfl rfl (h.t rfl)
inductive RH where
 | seq (hs:List RI)
 | quiet (hs:List RI)
 | tail (n:Nat) (hs1 hs2:List RI)
 | held (sm:Bool) (C:List Nat) (sh:SH)
 | hO (sm:Bool) (C:List Nat) (js:Js) (sh:SH)
def uM (ops:Array Oper):List Nat:=ops.toList.filterMap (·.dst)
def uC (P:Program)(N:Nat)(r:RH)(ops:Array Oper)(draw:Bool)(ρ:Env)(h:Hp)(K:Env->Hp->Prop):Prop:=
 match r,draw with
 | .seq hs,false=>fU P N ops 400 hs ops.toList ρ h K
 | .quiet hs,true=>gN (P.follows .mixedOrders&&(Region.lexB .any ops&&kS ops.toList)) (fU P N ops 400 hs ops.toList ρ h K)
 | .tail n hs1 hs2,true=>gN (P.follows .mixedOrders&&(Region.lexTailB .any ops n&&kS (ops.toList.take n)))
  (fU P N ops 400 hs1 (ops.toList.take n) ρ h λρ' h'=>fU P N ops 400 hs2 (ops.toList.drop n) ρ' h' K)
 | .held sm C sh,true=>gN (P.follows .mixedOrders&&Region.noSelect ops) (AN P N sm C sh ops ρ h K)
 | .hO sm C js sh,true=>gN (P.follows .mixedOrders&&(Region.noSelect ops&&js.all λs=>oE (uM ops) s.1))
  (Jn (oJ js) (lam (oJ js) λvs h'=>K (iZ (ρ.fA (uM ops)) js vs) h') λJ=>AN P N sm C sh ops ρ h λρ' h'=>uO js ρ' J h')
 | _,_=>False
theorem MW {P:Program}{N id:Nat}{r:RH}{ops:Array Oper}{draw:Bool}{ρ:Env}{a:Act}{w:World}{K:Env->Hp->Prop}{Q:Exit->Act->World->Prop}
 (h:uC P N r ops draw ρ w.heap K) (hf:Fits N ρ a) (hK:∀ρ' a' w',Fits N ρ' a'->ZP w w'->UQ ops.toList ρ ρ'->K ρ' w'.heap->Q .normal a' w'):(Code.region id ops draw).wp P Q a w:=by
 unfold uC at h;split at h
 ·rename_i C;refine wp_region_list ?_;have:=KZ (Q:=Q) (tail:=[]) 400 h hf λρ' a' w' d u e j=>hK ρ' a' w' d u e j;simpa using this
 ·rename_i C;rw[WH]at h;simp only[zF]at h;obtain⟨⟨p,x,F⟩,h⟩:=h;refine wp_region_still p x ?_;have:=VT (w:={w with drawn:=w.drawn+1}) (Q:=λa'=>Q .normal a' {w with drawn:=w.drawn+1}) (tail:=[]) 400 h F hf λρ' a' d e j=>hK ρ' a' _ d ⟨rfl,rfl,rfl,zD _⟩ e j;simpa using this
 ·rename_i n hs1 hs2;rw[WH]at h;simp only[zF]at h;obtain⟨⟨p,x,F⟩,h⟩:=h;obtain⟨l,rfl⟩:∃l:List Oper,ops=l.toArray:=⟨ops.toList,by simp⟩;refine wp_region_still_tail n p x ?_;have:=VT (w:={w with drawn:=w.drawn+1}) (ops:=l.toArray) (Q:=λa'=>wpList P l.toArray Q (l.drop n) a' {w with drawn:=w.drawn+1}) (tail:=[]) 400 h (by simpa using F) hf (λρ' a' d e j=>by
   have:=KZ (Q:=Q) (tail:=[]) (w:={w with drawn:=w.drawn+1}) 400 j d λH E D s u B A=>hK H E D s (ZP.trans (b:={w with drawn:=w.drawn+1}) ⟨rfl,rfl,rfl,zD _⟩ u) (λi g v y=>?_) A
   ·simpa[wpStill]using this
   ·rw[show l.toArray.toList=l.take n++l.drop n by simp,uL]at g;simp only[sj,zR,decide_eq_false_iff_not,not_or]at g;exact B i (by simpa using g.2) v (e i (by simpa using g.1) v y))
  simpa using this
 ·rename_i sm sh;rw[WH]at h;simp only[zF]at h;exact Uq h.1.1 h.1.2 h.2 hf hK
 ·rename_i sm js sh;rw[WH]at h;simp only[zF]at h;obtain⟨⟨p,m,z⟩,J,L,h⟩:=h;refine Uq p m h hf λρ' a' w' d u e j=>?_;obtain⟨vs,y,C⟩:=An j;have G:=U4 (C.mono L);refine hK _ a' w' (VU js (H6 d e) d y) u ?_ G;exact((Ge (uM ops) ρ).trans (KY (uM ops) js (ρ.fA (uM ops)) vs z)).mono λi g=>by
   simp only[zR]at g;rcases g with h|h<;>exact h
 ·exact h.elim
def gV:Code->List Nat
 | .region _ ops _=>uM ops
 | .seq a b=>gV a++gV b
 | .cond _ a b=>gV a++gV b
 | .block _ b=>gV b
 | .loop b=>gV b
 | .scope b=>gV b
 | _=>[]
def sW:(ks:List CK)->eP ks->pe ks->(Nat->Prop)->eP ks
 | [],I,μ,p=>λh=>I h/\p (μ h)
 | c::cs,I,μ,p=>λx=>sW cs (I x) (μ x) p
def W7 (ks:List CK)(start:eP ks->Prop)(round:eP ks->eP ks):Prop:=
 ∃(I:eP ks) (μ:pe ks),start I/\∀m:Nat,eP.le ks (sW ks I μ (· = m)) (round (sW ks I μ (· < m)))
inductive Hn where
 | leaf
 | cV (r:RH)
 | seq (a b:Hn)
 | jD (js:Js) (a b:Hn)
 | cond (a b:Hn)
 | block (b:Hn)
 | loop (js:Js) (b:Hn)
 | scope (b:Hn)
def RI.ops:Nat->List RI
 | 0=>[]
 | n+1=>.op::RI.ops n
abbrev Hn.l:Hn:=.leaf
abbrev Hn.q (a b:Hn):Hn:=.seq a b
abbrev Hn.c (a b:Hn):Hn:=.cond a b
abbrev Hn.k (a:Hn):Hn:=.block a
def Hn.o (n:Nat):Hn:=.cV (.seq (RI.ops n))
abbrev Hn.o1:Hn:=.o 1
abbrev Hn.o2:Hn:=.o 2
abbrev Hn.aJ:Hn:=.c (.q .o2 .l) .l
abbrev Hn.aK:Hn:=.c (.q .o1 .l) .l
abbrev Hn.aL:Hn:=.q .o2 .l
abbrev Hn.aM:Hn:=.q .o1 .l
abbrev Hn.o3:Hn:=.o 3
abbrev Hn.o4:Hn:=.o 4
abbrev Hn.o5:Hn:=.o 5
abbrev Hn.o6:Hn:=.o 6
abbrev Hn.o7:Hn:=.o 7
abbrev Hn.o8:Hn:=.o 8
abbrev Hn.o9:Hn:=.o 9
abbrev Hn.fV:Hn:=.o 10
def Hn.oq (n:Nat):Hn:=.cV (.quiet (RI.ops n))
def Cw (next:Env->Hp->Prop)(Q:Exit->Env->Hp->Prop):Exit->Env->Hp->Prop
 | .normal,ρ,h=>next ρ h
 | e,ρ,h=>Q e ρ h
def Ld (id:Nat)(Q:Exit->Env->Hp->Prop):Exit->Env->Hp->Prop
 | .exit i,ρ,h=>match Nat.beq i id with
  | true=>Q .normal ρ h
  | false=>Q (.exit i) ρ h
 | e,ρ,h=>Q e ρ h
def MI (Q:Exit->Env->Hp->Prop):Exit->Env->Hp->Prop
 | .goto _,_,_=>False
 | e,ρ,h=>Q e ρ h
def lp (P:Program)(N:Nat):Code->Hn->(Exit->Env->Hp->Prop)->Env->Hp->Prop
 | .skip,_,Q,ρ,h=>Q .normal ρ h
 | .ret,_,Q,ρ,h=>Q .ret ρ h
 | .exit id,_,Q,ρ,h=>Q (.exit id) ρ h
 | .region _ ops d,.cV r,Q,ρ,h=>uC P N r ops d ρ h λρ' h'=>Q .normal ρ' h'
 | .seq a b,.seq x y,Q,ρ,h=>lp P N a x (Cw (λρ' h'=>lp P N b y Q ρ' h') Q) ρ h
 | .seq a b,.jD js x y,Q,ρ,h=>gN (js.all λs=>oE (gV a) s.1)
  (Jn (oJ js) (lam (oJ js) λvs h'=>lp P N b y Q (iZ (ρ.fA (gV a)) js vs) h') λJ=>lp P N a x (Cw (λρ' h'=>uO js ρ' J h') Q) ρ h)
 | .cond c a b,.cond x y,Q,ρ,h=>HB ρ c λt=>If t (lp P N a x Q ρ h) (lp P N b y Q ρ h)
 | .block id b,.block x,Q,ρ,h=>lp P N b x (Ld id Q) ρ h
 | .scope b,.scope x,Q,ρ,h=>lp P N b x (MI Q) ρ h
 | .label _,_,Q,ρ,h=>Q .normal ρ h
 | .loop b,.loop js x,Q,ρ,h=>gN (js.all λs=>oE (gV b) s.1)
  (W7 (oJ js) (λI=>uO js ρ I h) λJ=>lam (oJ js) λvs h'=>lp P N b x (Cw (λρ' h''=>uO js ρ' J h'') Q) (iZ (ρ.fA (gV b)) js vs) h')
 | _,_,_,_,_=>False
theorem Fx:∀{ks:List CK} {I:eP ks} {μ:pe ks} {p:Nat->Prop} {vs:List Value} {h:Hp},Sat ks (sW ks I μ p) vs h->∃n,p n/\Sat ks (sW ks I μ (· = n)) vs h
 | [],I,μ,p,[],h,hs=>⟨μ h,hs.2,hs.1,rfl⟩
 | c::cs,I,μ,p,v::vs,h,⟨x,e,hs⟩=>by
  obtain⟨n,hp,hn⟩:=Fx (I:=I x) (μ:=μ x) hs;exact⟨n,hp,x,e,hn⟩
 | [],I,μ,p,_::_,h,hs=>hs.elim
 | _::_,I,μ,p,[],h,hs=>hs.elim
theorem Lc:∀{ks:List CK} {I:eP ks} (μ:pe ks) {vs:List Value} {h:Hp},Sat ks I vs h->∃n,Sat ks (sW ks I μ (· = n)) vs h
 | [],I,μ,[],h,hs=>⟨μ h,hs,rfl⟩
 | c::cs,I,μ,v::vs,h,⟨x,e,hs⟩=>by
  obtain⟨n,hn⟩:=Lc (I:=I x) (μ x) hs;exact⟨n,x,e,hn⟩
 | [],I,μ,_::_,h,hs=>hs.elim
 | _::_,I,μ,[],h,hs=>hs.elim
theorem CW {p:Nat->Prop}(h:∃n,p n):∃n,p n/\∀m,p m->n<=m:=by
 obtain⟨n,d⟩:=h
 induction n using Nat.strongRecOn with
 | _ n ih=>
  by_cases hm:∃m,m<n/\p m
  ·obtain⟨m,a,b⟩:=hm;exact ih m a b
  ·exact⟨n,d,λm b=>Nat.le_of_not_lt λa=>hm ⟨m,a,b⟩⟩
open Classical in
noncomputable def xC (p:Nat->Prop):Nat:=if h:∃n,p n then(CW h).choose else 0
theorem Rh {p:Nat->Prop}(h:∃n,p n):p (xC p):=by
 unfold xC;rw[dif_pos h];exact(CW h).choose_spec.1
theorem TB {p:Nat->Prop}{n:Nat}(h:p n):xC p<=n:=by
 unfold xC;rw[dif_pos ⟨n,h⟩];exact(CW ⟨n,h⟩).choose_spec.2 n h
theorem N7 {P:Program}{c:Code}{Q:Exit->Act->World->Prop}{a:Act}{w:World}(I:Nat->Act->World->Prop)(h0:∃n,I n a w)
 (round:∀n a w,I n a w->c.wp P (Exit.then (λa' w'=>∃m,m<n/\I m a' w') Q) a w):(Code.loop c).wp P Q a w:=by
 refine wp_loop (λa w=>∃n,I n a w) (λa w=>xC λn=>I n a w) h0 λa w i=>?_;refine wp_mono (round _ a w (Rh i)) λe a' w' d=>?_;cases e<;>try exact d
 obtain⟨m,g,b⟩:=d;exact⟨⟨m,b⟩,Nat.lt_of_le_of_lt (TB b) g⟩
theorem Q3 {P:Program}{N:Nat}:∀(c:Code) {x:Hn} {Q:Exit->Env->Hp->Prop} {Q':Exit->Act->World->Prop} {ρ:Env} {a:Act} {w:World},
 lp P N c x Q ρ w.heap->Fits N ρ a->(∀e ρ' a' w',Fits N ρ' a'->ZP w w'->Vv (gV c) ρ ρ'->Q e ρ' w'.heap->Q' e a' w')->c.wp P Q' a w
 | .skip,x,Q,Q',ρ,a,w,h,hf,hq=>by
  have h':Q .normal ρ w.heap:=by cases x<;>exact h
  exact wp_skip (hq _ ρ a w hf (.refl _) (.refl _ _) h')
 | .ret,x,Q,Q',ρ,a,w,h,hf,hq=>by
  have h':Q .ret ρ w.heap:=by cases x<;>exact h
  exact wp_ret (hq _ ρ a w hf (.refl _) (.refl _ _) h')
 | .exit id,x,Q,Q',ρ,a,w,h,hf,hq=>by
  have h':Q (.exit id) ρ w.heap:=by cases x<;>exact h
  exact wp_exit (hq _ ρ a w hf (.refl _) (.refl _ _) h')
 | .region id ops d,x,Q,Q',ρ,a,w,h,hf,hq=>by
  cases x<;>simp only[lp]at h
  exact MW h hf λρ' a' w' b p r j=>hq _ ρ' a' w' b p r j
 | .seq c1 c2,x,Q,Q',ρ,a,w,h,hf,hq=>by
  cases x<;>simp only[lp]at h
  case seq x y=>
   refine wp_seq (Q3 c1 h hf λe ρ' a' w' b p r j=>?_);cases e
   case normal=>exact Q3 c2 j b λe ρ'' A z g s D C=>hq e ρ'' A z g (p.trans s) (r.trans D) C
   all_goals exact hq _ ρ' a' w' b p (r.mono λi u=>nI _ u) j
  case jD js x y=>
   rw[WH]at h;obtain⟨F,J,W,h⟩:=h;refine wp_seq (Q3 c1 h hf λe ρ' a' w' b p r j=>?_);cases e
   case normal=>
    obtain⟨vs,S,G⟩:=An j;have E:=U4 (G.mono W);have K:=VU js (H6 b r) b S;refine Q3 c2 E K λe ρ'' A z g s D C=>hq e ρ'' A z g (p.trans s) ?_ C;have Y:=(Ge (gV c1) ρ).trans (KY (gV c1) js (ρ.fA (gV c1)) vs F);exact(Y.trans D).mono λi u=>by
     simp only[gV,zR]at u ⊢;rcases u with(h|h)|h
     ·exact Or.inl h
     ·exact Or.inl h
     ·exact Or.inr h
   all_goals exact hq _ ρ' a' w' b p (r.mono λi u=>nI _ u) j
 | .cond c c1 c2,x,Q,Q',ρ,a,w,h,hf,hq=>by
  cases x<;>simp only[lp]at h
  obtain⟨t,V,h⟩:=UG h;refine wp_cond_split (hf.ev _ _ V) (λe=>?_) (λe=>?_)
  ·exact Q3 c1 (h.t e) hf λe ρ' a' w' b p r j=>hq e ρ' a' w' b p (r.mono λi u=>nI _ u) j
  ·exact Q3 c2 (h.f e) hf λe ρ' a' w' b p r j=>hq e ρ' a' w' b p (r.mono λi u=>pL _ u) j
 | .block id c1,x,Q,Q',ρ,a,w,h,hf,hq=>by
  cases x<;>simp only[lp]at h
  refine wp_block (Q3 c1 h hf λe ρ' a' w' b p r j=>?_);cases e
  case exit i=>
   simp only[Ld]at j;simp only[Exit.inBlock];split at j
   ·rename_i e;have M:i=id:=lC e;rw[zB M];exact hq _ ρ' a' w' b p r j
   ·rename_i e;have M:i≠id:=λh=>by subst h;simp at e
    rw[zA M];exact hq _ ρ' a' w' b p r j
  all_goals exact hq _ ρ' a' w' b p r j
 | .loop c1,x,Q,Q',ρ,a,w,h,hf,hq=>by
  cases x<;>simp only[lp]at h
  rename_i js x;rw[WH]at h;obtain⟨F,I,μ,G,Z⟩:=h;refine N7 (λn a' w'=>∃vs,Fits N (iZ (ρ.fA (gV c1)) js vs) a'/\ZP w w'/\Sat (oJ js) (sW (oJ js) I μ (· = n)) vs w'.heap) ?_ ?_
  ·obtain⟨vs,S,G⟩:=An G;obtain⟨n,R⟩:=Lc μ G;exact⟨n,vs,VU js (hf.weaken (CG _ _)) hf S,.refl _,R⟩
  ·rintro n a' w' ⟨vs,b,p,R⟩;have:=U4 (R.mono (Z n));have kJ:=(Ge (gV c1) ρ).trans (KY (gV c1) js (ρ.fA (gV c1)) vs F);refine Q3 c1 this b λe ρ'' A z g s r j=>?_;have B:Vv (gV c1) ρ ρ'':=(kJ.trans r).mono λi u=>by
    simp only[zR]at u;rcases u with(h|h)|h<;>exact h
   cases e
   case normal=>
    obtain⟨L,U,E⟩:=An j;obtain⟨m,X,H⟩:=Fx E;exact⟨m,X,L,VU js (H6 g B) g U,p.trans s,H⟩
   all_goals exact hq _ ρ'' A z g (p.trans s) B j
 | .scope c1,x,Q,Q',ρ,a,w,h,hf,hq=>by
  cases x<;>simp only[lp]at h
  refine wp_scope_straight (Q3 c1 h hf λe ρ' a' w' b p r j=>?_);cases e
  case goto l=>exact j.elim
  all_goals exact hq _ ρ' a' w' b p r j
 | .label l,x,Q,Q',ρ,a,w,h,hf,hq=>by
  have h':Q .normal ρ w.heap:=by cases x<;>exact h
  exact wp_label (hq _ ρ a w hf (.refl _) (.refl _ _) h')
 | .rangeFunc ..,x,Q,Q',ρ,a,w,h,hf,hq=>(by cases x<;>simp only[lp]at h)
 | .goto ..,x,Q,Q',ρ,a,w,h,hf,hq=>(by cases x<;>simp only[lp]at h)
 | .refuse ..,x,Q,Q',ρ,a,w,h,hf,hq=>(by cases x<;>simp only[lp]at h)
def pM (P:Program)(r:ResultVar)(s:SK)(ρ:Env)(h:Hp)(K:List Value->Prop):Prop:=
 match r,s with
 | .tmp t,.one _=>wv (ρ t) λv=>K [v]
 | .tmp t,.agg cs=>wv (ρ t) λv=>match v with
  | .agg a=>gN (a.size==cs.length) (K a.toList)
  | _=>False
 | .cell a t,.one c=>wv (ρ a) λv=>match v,kE P t with
  | .pointer (some ad),some (.one _)=>yd c ad h λx=>K [c.v x]
  | _,_=>False
 | .cell a t,.agg cs=>wv (ρ a) λv=>match v,kE P t with
  | .pointer (some ad),some (.agg _)=>gN (P.cellsOf t==cs.length&&(P.info? t).isSome) (oo cs ad 0 h λvs=>K vs)
  | _,_=>False
def pj (P:Program):List ResultVar->List SK->Env->Hp->(List Value->Prop)->Prop
 | [],[],_,_,K=>K []
 | r::rs,s::ss,ρ,h,K=>pM P r s ρ h λvs=>pj P rs ss ρ h λus=>K (vs++us)
 | _,_,_,_,_=>False
def wO (P:Program)(fn:Func)(rs:List SK)(R:eP (iJ rs)):Exit->Env->Hp->Prop
 | .normal,ρ,h=>pj P fn.results.toList rs ρ h λvs=>wP (iJ rs) R vs h
 | .ret,ρ,h=>pj P fn.results.toList rs ρ h λvs=>wP (iJ rs) R vs h
 | _,_,_=>False
def Cj (vs:List Value):Env:=λi=>vs[i]?
def Fp (P:Program)(fn:Func)(x:Hn)(args:List Value)(rs:List SK)(R:eP (iJ rs))(h:Hp):Prop:=
 match fn.body with
 | some c=>gN (Nat.ble args.length fn.ntmps) (lp P fn.ntmps c x (wO P fn rs R) (Cj args) h)
 | none=>False
def U2:SK->List Value->Value
 | .one _,[v]=>v
 | .one _,_=>undef
 | .agg _,vs=>.agg vs.toArray
def ui (tmps:Array Value):ResultVar->Sem Value
 | .tmp t=>pure (tmps.getD t undef)
 | .cell b t=>do loadVar t (←asAddr (tmps.getD b undef))
theorem MG (fn:Func)(tmps:Array Value):results fn tmps=(do
 let vs ←fn.results.mapM (ui tmps)
 pure (if h:vs.size=1 then vs[0]else .tuple vs)):=by
 unfold results
 congr 1
theorem WgO {P:Program}{r:ResultVar}{s:SK}{ρ:Env}{K:List Value->Prop}{a:Act}{N:Nat}{w:World}(hf:Fits N ρ a)(h:pM P r s ρ w.heap K) :
 ∃vs,vs.length=s.ks.length/\K vs/\(ui a.tmps r).run P w=.ok (U2 s vs) w:=by
 unfold pM at h;split at h
 ·rename_i t c;obtain⟨v,g,e⟩:=Wq h;refine⟨[v],rfl,e,?_⟩;simp[ui,sg,hf.at_ _ _ g,U2]
 ·rename_i t cs;obtain⟨v,g,e⟩:=Wq h;split at e
  ·rename_i ar;rw[WH]at e;refine⟨ar.toList,by simpa[SK.ks]using e.1,e.2,?_⟩;simp[ui,sg,hf.at_ _ _ g,U2]
  ·exact e.elim
 ·rename_i b t c;obtain⟨v,g,e⟩:=Wq h;split at e
  ·rename_i ad c' hs;obtain⟨d,hd,i⟩:=EO hs;obtain⟨x,u,e⟩:=Dq e;refine⟨[c.v x],rfl,e,?_⟩;simp only[ui,sg,hf.at_ _ _ g,pN,asAddr,Sem.run_bind,Sem.run_pure,Result.andThen_ok,loadVar,KG hd,i,U2];simpa using C7 u
  ·exact e.elim
 ·rename_i b t cs;obtain⟨v,g,e⟩:=Wq h;split at e
  ·rename_i ad cs' hs;rw[WH]at e;obtain⟨j,e⟩:=e;simp only[zF,zZ]at j;obtain⟨d,hd,i⟩:=Es hs;obtain⟨vs,p,e,m⟩:=Ce (P:=P) e;refine⟨vs,p,e,?_⟩;simp only[ui,sg,hf.at_ _ _ g,pN,asAddr,Sem.run_bind,Sem.run_pure,Result.andThen_ok,loadVar,KG hd,i,zS,QR j.2,loadCells,j.1,m,U2];simp
  ·exact e.elim
theorem Er {P:Program}{ρ:Env}{a:Act}{N:Nat}{w:World}(hf:Fits N ρ a):∀{rv:List ResultVar} {rs:List SK} {K:List Value->Prop},pj P rv rs ρ w.heap K →
 ∃vs,K vs/\(rv.mapM (ui a.tmps)).run P w=.ok (qp rs vs) w
 | [],[],K,h=>⟨[],h,by simp[qp]⟩
 | r::rv,s::rs,K,h=>by
  obtain⟨v1,hl,hK,hr⟩:=WgO hf h;obtain⟨e,b,d⟩:=Er hf hK;refine⟨v1++e,b,?_⟩;simp only[List.mapM_cons,Sem.run_bind,hr,Result.andThen_ok,d,Sem.run_pure];cases s with
  | one c=>
   match v1,hl with
   | [v],_=>simp[qp,U2]
  | agg cs=>
   simp only[SK.ks]at hl;simp only[qp,U2,←hl,List.take_left,List.drop_left]
 | [],_::_,K,h=>h.elim
 | _::_,[],K,h=>h.elim
theorem JT {P:Program}{fn:Func}{ρ:Env}{a:Act}{N:Nat}{w:World}{rs:List SK}{K:List Value->Prop}(hf:Fits N ρ a)(h:pj P fn.results.toList rs ρ w.heap K) :
 ∃vs,K vs/\(results fn a.tmps).run P w=.ok (pack rs vs) w:=by
 obtain⟨vs,b,d⟩:=Er hf h;refine⟨vs,b,?_⟩;rw[MG,Array.mapM_eq_mapM_toList];simp only[Sem.run_bind,Sem.run_map,d,Result.andThen_ok,Sem.run_pure,pack];split
 ·rename_i h1
  match hp:qp rs vs,h1 with
  | [v],_=>simp
 ·rename_i h1
  match hp:qp rs vs,h1 with
  | [],_=>rfl
  | [v],h1=>simp at h1
  | _::_::_,_=>rfl
theorem R0 {a b:Prop}(f:b)(e:a=b:=by kernel_rfl):a:=e.mpr f
theorem Wa {P:Program}{f:Nat}{fn:Func}{x:Hn}{args:List Value}{rs:List SK}{R:eP (iJ rs)}{h:Hp}(hfn:P.funcs[f]?=some fn)(hk:Fp P fn x args rs R h):We P f args.toArray rs h R:=by
 intro w hw;subst hw;unfold Fp at hk;split at hk
 case h_2=>exact hk.elim
 rename_i c hb;rw[WH]at hk;obtain⟨p,hk⟩:=hk;have r:args.length<=fn.ntmps:=Nat.le_of_ble_eq_true p;refine calls_of_wp hfn hb ?_;refine Q3 c hk (ρ:=Cj args) ⟨rfl,by simp;omega,λi v d=>?_⟩ λe A y z a s u j=>?_
 ·simp only[Cj]at d;have m:i<args.length:=(cQ.1 d).1;rw[BW (by simpa using m)];simpa using d
 ·cases e<;>simp only[wO]at j
  case normal=>
   obtain⟨vs,g,b⟩:=JT a j;exact⟨a.defers,_,b,s,vs,rfl,yA g⟩
  case ret=>
   obtain⟨vs,g,b⟩:=JT a j;exact⟨a.defers,_,b,s,vs,rfl,yA g⟩
theorem FN {start:eP []->Prop}{round:eP []->eP []}(I:aP)(μ:Hp->Nat)(h0:start I)
 (hr:∀h,I h->round (λh'=>I h'/\μ h'<μ h) h):W7 [] start round:=
 ⟨I,μ,h0,λ_ h ⟨a,b⟩=>b▸hr h a⟩
theorem ZU {a:CK}{start:eP [a]->Prop}{round:eP [a]->eP [a]}(I:a.T->Hp->Prop)(μ:a.T->Hp->Nat)(h0:start I)
 (hr:∀x h,I x h->round (λx' h'=>I x' h'/\μ x' h'<μ x h) x h):W7 [a] start round:=
 ⟨I,μ,h0,λ_ x h ⟨b,d⟩=>d▸hr x h b⟩
theorem Ko {a bb:CK}{start:eP [a,bb]->Prop}{round:eP [a,bb]->eP [a,bb]}(I:a.T->bb.T->Hp->Prop)(μ:a.T->bb.T->Hp->Nat)(h0:start I)
 (hr:∀x y h,I x y h->round (λx' y' h'=>I x' y' h'/\μ x' y' h'<μ x y h) x y h):W7 [a,bb] start round:=
 ⟨I,μ,h0,λ_ x y h ⟨b,d⟩=>d▸hr x y h b⟩
theorem ET {a bb c:CK}{start:eP [a,bb,c]->Prop}{round:eP [a,bb,c]->eP [a,bb,c]}(I:a.T->bb.T->c.T->Hp->Prop)(μ:a.T->bb.T->c.T->Hp->Nat)(h0:start I)
 (hr:∀x y z h,I x y z h->round (λx' y' z' h'=>I x' y' z' h'/\μ x' y' z' h'<μ x y z h) x y z h):W7 [a,bb,c] start round:=
 ⟨I,μ,h0,λ_ x y z h ⟨b,d⟩=>d▸hr x y z h b⟩
theorem Ns {a bb c d:CK}{start:eP [a,bb,c,d]->Prop}{round:eP [a,bb,c,d]->eP [a,bb,c,d]}(I:a.T->bb.T->c.T->d.T->Hp->Prop)(μ:a.T->bb.T->c.T->d.T->Hp->Nat)(h0:start I)
 (hr:∀x y z u h,I x y z u h->round (λx' y' z' u' h'=>I x' y' z' u' h'/\μ x' y' z' u' h'<μ x y z u h) x y z u h):W7 [a,bb,c,d] start round:=
 ⟨I,μ,h0,λ_ x y z u h ⟨b,e⟩=>e▸hr x y z u h b⟩
theorem JC {a bb c d e:CK}{start:eP [a,bb,c,d,e]->Prop}{round:eP [a,bb,c,d,e]->eP [a,bb,c,d,e]}(I:a.T->bb.T->c.T->d.T->e.T->Hp->Prop)(μ:a.T->bb.T->c.T->d.T->e.T->Hp->Nat)(h0:start I)
 (hr:∀x y z u v h,I x y z u v h->round (λx' y' z' u' v' h'=>I x' y' z' u' v' h'/\μ x' y' z' u' v' h'<μ x y z u v h) x y z u v h):W7 [a,bb,c,d,e] start round:=
 ⟨I,μ,h0,λ_ x y z u v h ⟨b,g⟩=>g▸hr x y z u v h b⟩
theorem aG {a:Addr}{K:Addr->Prop}(h:K a):bS (some a) K:=⟨a,rfl,h⟩
theorem ox {k:IntKind}{a:Addr}{h:Hp}{n:Int}{K:Int->Prop}(hc:cell h a=some (.int k n))(hK:K n):fJ k a h K:=⟨n,hc,hK⟩
theorem lI {a:Addr}{h:Hp}{n:Bool}{K:Bool->Prop}(hc:cell h a=some (.bool n))(hK:K n):ko a h K:=⟨n,hc,hK⟩
theorem uD {a:Addr}{h:Hp}{n:Option Addr}{K:Option Addr->Prop}(hc:cell h a=some (.pointer n))(hK:K n):fW a h K:=⟨n,hc,hK⟩
theorem Eg {a:Addr}{h:Hp}{n:Option Nat}{K:Option Nat->Prop}(hc:cell h a=some (.map n))(hK:K n):mQ a h K:=⟨n,hc,hK⟩
theorem oh {a:Addr}{h:Hp}{x:Option Addr}{n c:Nat}{K:Sl->Prop}(hc:cell h a=some (.slice x n c))(hK:K ⟨x,n,c⟩):jn a h K:=⟨⟨x,n,c⟩,hc,hK⟩
theorem UN {e:Int}(h1 : -9223372036854775808<=e)(h2:e<=9223372036854775807):IntKind.i64.wrap e=e:=by
 unfold IntKind.wrap;simp[IntKind.bits,IntKind.signed];omega
theorem ar {e:Int}{K:Int->Prop}(h1 : -9223372036854775808<=e)(h2:e<=9223372036854775807)(hK:K e):Ar .i64 e K:=by
 unfold Ar;rw[UN h1 h2];exact hK
theorem N8 (e:Int) : -9223372036854775808<=IntKind.i64.wrap e/\IntKind.i64.wrap e<=9223372036854775807:=by
 unfold IntKind.wrap;simp[IntKind.bits,IntKind.signed];omega
theorem nz {y:Int}{A:Prop}(h:y≠0)(hA:A):Nz y A:=⟨h,hA⟩
theorem nn {y:Int}{A:Prop}(h:0<=y)(hA:A):Nn y A:=⟨h,hA⟩
theorem ix {a:Addr}{n:Nat}{i:Int}{sz:Nat}{K:Addr->Prop}(h0:0<=i)(h1:i<(n:Int))(hK:K (a.add (i.toNat*sz))):Ix (some a) n i sz K:=⟨a,rfl,h0,h1,hK⟩
theorem cU {b:Bool}{A B:Prop}(h1:b=true->A)(h2:b=false->B):If b A B:=If.mk h1 h2
theorem cI {p:Prop}[Decidable p]{A B:Prop}(h1:p->A)(h2:¬p->B):If (decide p) A B:=
 If.mk (λh=>h1 (pE h)) (λh=>h2 (rW h))
theorem cJ {b:Bool}{A B:Prop}(hb:b=true)(h:A):If b A B:=by subst hb;exact h
theorem cG {b:Bool}{A B:Prop}(hb:b=false)(h:B):If b A B:=by subst hb;exact h
theorem lU {p:Prop}[Decidable p]{A B:Prop}(hp:p)(h:A):If (decide p) A B:=cJ (by simpa using hp) h
theorem fG {p:Prop}[Decidable p]{A B:Prop}(hp:¬p)(h:B):If (decide p) A B:=cG (by simpa using hp) h
theorem JD (a:Int)(n:Nat):a.fdiv (2^n)=a/2^n:=Int.fdiv_eq_ediv_of_nonneg _ (Int.le_of_lt (Int.pow_pos aB))
theorem YK {a b:Int}(h:0<=a):a.tdiv b=a/b:=Int.tdiv_eq_ediv_of_nonneg h
theorem Q9 {a b:Int}(h:0<=a):a.tmod b=a%b:=Int.tmod_eq_emod_of_nonneg h
def bX (h:Hp)(b:Nat)(cs:List Value):Prop:=∃e,h[b]?=some (.cells cs.toArray e (0,0))
theorem bX.lt {h:Hp}{b:Nat}{cs:List Value}(hb:bX h b cs):b<h.size:=by
 obtain⟨e,a⟩:=hb;exact(mF.1 a).1
theorem bX.cell {h:Hp}{b o:Nat}{cs:List Value}(hb:bX h b cs):cell h ⟨b,o,none⟩=cs[o]? := by
 obtain⟨e,a⟩:=hb;simp[Vc.cell,a]
theorem bX.oI {h:Hp}{b o:Nat}{cs:List Value}(hb:bX h b cs):oI h ⟨b,o,none⟩=false:=by
 obtain⟨e,a⟩:=hb;simp[Vc.oI,a]
theorem bX.set {h:Hp}{b o:Nat}{cs:List Value}(hb:bX h b cs)(v:Value):bX (kx h ⟨b,o,none⟩ v) b (cs.set o v):=by
 obtain⟨e,a⟩:=hb;refine⟨e,?_⟩;simp[kx,yn,a]
theorem VW {h:Hp}{a:Addr}{v:Value}{b:Nat}(hne:b≠a.block):(kx h a v)[b]?=h[b]? := by
 simp only[kx,yn];rw[zA (Ne.symm hne)]
theorem add_lit (b o n:Nat):Addr.add ⟨b,o,none⟩ n=⟨b,o+n,none⟩:=Addr.add_lit b o n
def nq (h:Hp)(b:Nat)(cs:List Value):Prop:=∃e z,h[b]?=some (.cells cs.toArray e z)
theorem bX.q {h:Hp}{b:Nat}{cs:List Value}(hb:bX h b cs):nq h b cs:=by
 obtain⟨e,a⟩:=hb;exact⟨e,_,a⟩
theorem nq.lt {h:Hp}{b:Nat}{cs:List Value}(hb:nq h b cs):b<h.size:=by
 obtain⟨e,z,a⟩:=hb;exact(mF.1 a).1
theorem nq.cell {h:Hp}{b o:Nat}{cs:List Value}(hb:nq h b cs):cell h ⟨b,o,none⟩=cs[o]? := by
 obtain⟨e,z,a⟩:=hb;simp[Vc.cell,a]
def Ext (F:Nat->Prop)(h h':Hp):Prop:=h.size<=h'.size/\∀b,b<h.size->¬F b->h'[b]?=h[b]?
def bO (h h':Hp):Prop:=Ext (λ_=>False) h h'
theorem Ext.refl (F:Nat->Prop)(h:Hp):Ext F h h:=⟨zD _,λ_ _ _=>rfl⟩
theorem Ext.trans {F:Nat->Prop}{a b c:Hp}(h:Ext F a b)(k:Ext F b c):Ext F a c:=
 ⟨zI h.1 k.1,λi d e=>(k.2 i (vL d h.1) e).trans (h.2 i d e)⟩
theorem Ext.mono {F G:Nat->Prop}{a b:Hp}(h:Ext F a b)(hs:∀i,i<a.size->F i->G i):Ext G a b:=
 ⟨h.1,λi d e=>h.2 i d λg=>e (hs i d g)⟩
theorem bO.to {F:Nat->Prop}{a b:Hp}(h:bO a b):Ext F a b:=Ext.mono h λ_ _ h=>h.elim
theorem Ext.lx {F:Nat->Prop}{a b c:Hp}(h:Ext F a b)(k:bO b c):Ext F a c:=h.trans k.to
theorem Ext.size {F:Nat->Prop}{a b:Hp}(h:Ext F a b):a.size<=b.size:=h.1
theorem Ext.push (F:Nat->Prop)(h:Hp)(o:Obj):Ext F h (h.push o):=
 ⟨by simp,λb a _=>by rw[yZ,zA (w8 a)]⟩
theorem Ext.eR {F:Nat->Prop}{h h':Hp}{r:Nat}(ho:QC h h' r)(hr:F r):Ext F h h':=
 ⟨Nat.le_of_eq ho.1.symm,λb _ a=>ho.2 b λe=>a (e▸hr)⟩
theorem Ext.kx {F:Nat->Prop}{h:Hp}{a:Addr}{v:Value}(hr:F a.block):Ext F h (kx h a v):=
 ⟨Nat.le_of_eq (Vh h a v).symm,λb _ d=>VW λe=>d (e▸hr)⟩
theorem Ext.at_ {F:Nat->Prop}{h h':Hp}(e:Ext F h h'){b:Nat}{o:Obj}(hb:h[b]?=some o)(hf:¬F b):h'[b]?=some o:=by
 rw[e.2 b (mF.1 hb).1 hf];exact hb
theorem Ext.bZ {F:Nat->Prop}{h h':Hp}(e:Ext F h h'){b:Nat}{cs:List Value}(hb:bX h b cs)(hf:¬F b):bX h' b cs:=by
 obtain⟨t,a⟩:=hb;exact⟨t,e.at_ a hf⟩
theorem Ext.gL {F:Nat->Prop}{h h':Hp}(e:Ext F h h'){r:Nat}{k:IntKind}{c:CK}{l:List (Int×c.T)}(hb:dL h r k c l)(hf:¬F r):dL h' r k c l:=by
 obtain⟨b,a,d,rest⟩:=hb;exact⟨b,a,e.at_ d hf,rest⟩
theorem dL.lt {h:Hp}{r:Nat}{k:IntKind}{c:CK}{l:List (Int×c.T)}(hb:dL h r k c l):r<h.size:=by
 obtain⟨d,a,b,_⟩:=hb;exact(mF.1 b).1
theorem dL.nodup {h:Hp}{r:Nat}{k:IntKind}{c:CK}{l:List (Int×c.T)}(hb:dL h r k c l):(l.map (·.1)).Nodup:=by
 obtain⟨d,a,e,_,b,_⟩:=hb;exact b
theorem Ws {h h':Hp}{r b:Nat}{cs:List Value}(ho:QC h h' r)(hb:bX h b cs)(hne:b≠r):bX h' b cs:=by
 obtain⟨t,a⟩:=hb;exact⟨t,by rw[ho.2 b hne];exact a⟩
theorem HO {h h':Hp}{r b:Nat}{k:IntKind}{c:CK}{l:List (Int×c.T)}(ho:QC h h' r)(hb:dL h b k c l)(hne:b≠r):dL h' b k c l:=by
 obtain⟨d,a,e,rest⟩:=hb;exact⟨d,a,by rw[ho.2 b hne];exact e,rest⟩
end Go.Vc
namespace Go.Bu
open Go Go.Vc
theorem O2 {a b:Nat}(ha:a<9223372036854775808)(hb:b<9223372036854775808):bits .xor .i64 (a:Int) (b:Int)=((a ^^^ b:Nat):Int):=by
 have g:a ^^^ b<2^63:=Nat.xor_lt_two_pow O O;have e:(BitVec.ofInt 64 (a:Int)).toNat=a:=by
  rw[BitVec.ofInt_natCast,BitVec.toNat_ofNat];exact uG O
 have d:(BitVec.ofInt 64 (b:Int)).toNat=b:=by
  rw[BitVec.ofInt_natCast,BitVec.toNat_ofNat];exact uG O
 show IntKind.i64.wrap ((BitVec.ofInt 64 (a:Int) ^^^ BitVec.ofInt 64 (b:Int)).toNat:Int)=_;rw[BitVec.toNat_xor,e,d,UN]<;>omega
theorem jy {a b:Nat}(ha:a<9223372036854775808)(hb:b<9223372036854775808):bits .and .i64 (a:Int) (b:Int)=((a &&& b:Nat):Int):=by
 have g:a &&& b<2^63:=Nat.and_lt_two_pow _ O;have e:(BitVec.ofInt 64 (a:Int)).toNat=a:=by
  rw[BitVec.ofInt_natCast,BitVec.toNat_ofNat];exact uG O
 have d:(BitVec.ofInt 64 (b:Int)).toNat=b:=by
  rw[BitVec.ofInt_natCast,BitVec.toNat_ofNat];exact uG O
 show IntKind.i64.wrap ((BitVec.ofInt 64 (a:Int) &&& BitVec.ofInt 64 (b:Int)).toNat:Int)=_;rw[BitVec.toNat_and,e,d,UN]<;>omega
theorem P1 (q:Nat):q ^^^ 1=il q:=by
 apply Nat.eq_of_testBit_eq;intro i;rw[Nat.testBit_xor];unfold il;cases i with
 | zero=>
  simp only[Nat.testBit_zero];split<;>rename_i h
  ·have:(q+1)%2=1:=by omega
   simp[h,this]
  ·have a:q%2=1:=by omega
   have:(q-1)%2=0:=by omega
   simp[a,this]
 | succ i=>
  simp only[Nat.testBit_succ];have b:(1:Nat)/2=0:=by decide
  rw[b,Nat.zero_testBit,Bool.xor_false]
  congr 1
  split<;>omega
theorem MS (q k:Nat):(q*2^k) ^^^ (2^k)=il q*2^k:=by
 have h:=Nat.shiftLeft_xor_distrib (a:=q) (b:=1) (i:=k);rw[P1,Nat.shiftLeft_eq,Nat.shiftLeft_eq,Nat.shiftLeft_eq,Nat.one_mul]at h;exact h.symm
theorem Ll {k:Nat}(h:k<=62):2^k<=4611686018427387904:=oM (n:=2) aB h
def Keys (S:Nat->Bool)(k:Nat)(B:List (Int×Bool)):Prop:=
 (∀x v,(x,v)∈B->v=true/\∃q:Nat,x=((q*2^k:Nat):Int)/\can S k q=true)/\∀q,can S k q=true->(((q*2^k:Nat):Int),true)∈B
structure BH (σ:Hp) (p n:Nat) (S:Nat->Bool) (sb:Nat) (ms:List Nat):Prop where
 hd:∃cap,bX σ p [.int .i64 n,.slice (some ⟨sb,0,none⟩) ms.length cap]
 row:∃rest,bX σ sb (ms.map (λm=>Value.map (some m))++rest)
 maps:∀k m,ms[k]?=some m->∃B:List (Int×Bool),dL σ m .i64 .b B/\Keys S k B
 nd:(p::sb::ms).Nodup
 n1:1<=n
 n2:n<=1024
 lo:2^ms.length<=2*n
 hi:n<2^ms.length
 jC:Bounded S n
def fp (p sb:Nat)(ms:List Nat)(b:Nat):Prop:=b∈p::sb::ms
variable {σ h':Hp}{p n sb:Nat}{S:Nat->Bool}{ms:List Nat}
theorem BH.len (h:BH σ p n S sb ms):ms.length<=11:=by
 have:=h.lo;have:=h.n2;apply Classical.byContradiction;intro hc;have:2^12<=2^ms.length:=oM aB O;omega
theorem BH.fits (h:BH σ p n S sb ms){k q:Nat}(hf:q*2^k+2^k<=n):k<ms.length:=by
 apply Classical.byContradiction;intro hc;have:2^ms.length<=2^k:=oM aB O;have:=h.hi;omega
theorem BH.MF (h:BH σ p n S sb ms):cell σ ⟨p,0,none⟩=some (.int .i64 n):=by
 obtain⟨cap,a⟩:=h.hd;rw[a.cell];rfl
theorem BH.lI (h:BH σ p n S sb ms):∃cap,cell σ ⟨p,1,none⟩=some (.slice (some ⟨sb,0,none⟩) ms.length cap):=by
 obtain⟨cap,a⟩:=h.hd;exact⟨cap,by rw[a.cell];rfl⟩
theorem BH.Ι (h:BH σ p n S sb ms){k m:Nat}(hm:ms[k]?=some m):cell σ ⟨sb,k,none⟩=some (.map (some m)):=by
 obtain⟨rest,a⟩:=h.row;rw[a.cell,zd (by simpa using(cQ.1 hm).1),ze,hm];rfl
theorem BH.get (h:BH σ p n S sb ms){k:Nat}(hk:k<ms.length):∃m,ms[k]?=some m:=⟨ms[k],by simp[hk]⟩
theorem BH.bU (h:BH σ p n S sb ms){F:Nat->Prop}(e:Ext F σ h')(hF:∀b,fp p sb ms b->¬F b):BH h' p n S sb ms where
 hd:=by obtain⟨cap,a⟩:=h.hd;exact⟨cap,e.bZ a (hF _ (by simp[fp]))⟩
 row:=by obtain⟨rest,a⟩:=h.row;exact⟨rest,e.bZ a (hF _ (by simp[fp]))⟩
 maps:=λk m d=>by
  obtain⟨B,g,i⟩:=h.maps k m d;exact⟨B,e.gL g (hF _ (by simp[fp,zE d])),i⟩
 nd:=h.nd
 n1:=h.n1
 n2:=h.n2
 lo:=h.lo
 hi:=h.hi
 jC:=h.jC
theorem BH.bK (h:BH σ p n S sb ms)(e:bO σ h'):BH h' p n S sb ms:=h.bU e λ_ _=>id
theorem N5 {k:Nat}{B:List (Int×Bool)}(hK:Keys S k B)(hn:(B.map (·.1)).Nodup)(q:Nat):bV B ((q*2^k:Nat):Int)=if can S k q then some true else none:=by
 unfold bV;cases hf:B.find? λx=>x.1==((q*2^k:Nat):Int)with
 | some x=>
  have p:=sI hf;have a:=tZ hf;obtain⟨e,m⟩:=x;obtain⟨i,j,g,b⟩:=hK.1 e m a;have d:e=((q*2^k:Nat):Int):=by simpa using p
  rw[d]at g;have:q*2^k=j*2^k:=by exact_mod_cast g
  have:=xq (lb k) this;subst this;subst i;simp[b]
 | none=>
  rw[n4]at hf;by_cases b:can S k q=true
  ·have:=hf _ (hK.2 q b);simp at this
  ·simp[b]
theorem BH.lk (h:BH σ p n S sb ms){k m q:Nat}(hm:ms[k]?=some m){x:Int}(hx:x=((q*2^k:Nat):Int)){K:Option Bool->Prop}
 (hK:K (if can S k q then some true else none)):Lk .i64 .b (some m) x σ K:=by
 obtain⟨B,a,d⟩:=h.maps k m hm;exact⟨B,a,by rw[hx,N5 d a.nodup];exact hK⟩
theorem Ln {k:Nat}{B:List (Int×Bool)}(hK:Keys S k B)(hn:(B.map (·.1)).Nodup)(hb:Bounded S n):B.length=many n S k:=by
 have j:(B.map (·.1)).Perm (((List.range n).filter (can S k)).map λq=>((q*2^k:Nat):Int)):=by
  rw[wL hn]
  ·intro x;simp only[zC,zH,zU];constructor
   ·rintro⟨⟨x1,x2⟩,hm,rfl⟩;obtain⟨_,q,p,d⟩:=hK.1 x1 x2 hm;refine⟨q,⟨?_,d⟩,p.symm⟩;have:=ZQ hb (ZM.1 d).1;have m:=lb k;have r:q<=q*2^k:=Av _ m;omega
   ·rintro⟨q,⟨_,d⟩,rfl⟩;exact⟨_,hK.2 q d,rfl⟩
  ·have i:((List.range n).filter (can S k)).Pairwise (· ≠ ·):=List.Pairwise.sublist rO xf;refine List.Pairwise.map _ (λa b (g:a≠b) e=>g ?_) i;have:a*2^k=b*2^k:=by exact_mod_cast e
   exact xq (lb k) this
 have:=j.length_eq;simp only[za]at this;rw[this,many,wq]
theorem BH.kU (h:BH σ p n S sb ms){k m:Nat}(hm:ms[k]?=some m){K:Int->Prop}(hK:K ((many n S k:Nat):Int)):oB .i64 .b (some m) σ K:=by
 obtain⟨B,a,d⟩:=h.maps k m hm;exact⟨B,a,by rw[Ln d a.nodup h.jC];exact hK⟩
theorem BH.pt (h:BH σ p n S sb ms){k m:Nat}{T:Nat->Bool}(hm:ms[k]?=some m)(ho:QC σ h' m){B':List (Int×Bool)}(hB':dL h' m .i64 .b B')(hK':Keys T k B')
 (hoth:∀j q,j≠k->can T j q=can S j q) (hT:Bounded T n):BH h' p n T sb ms where
 hd:=by
  obtain⟨cap,r⟩:=h.hd;refine⟨cap,Ws ho r ?_⟩;have:=h.nd;simp only[zq,zQ,not_or]at this;rintro rfl;exact this.1.2 (zE hm)
 row:=by
  obtain⟨rest,r⟩:=h.row;refine⟨rest,Ws ho r ?_⟩;have:=h.nd;simp only[zq,zQ,not_or]at this;rintro rfl;exact this.2.1 (zE hm)
 maps:=λj A a=>by
  by_cases e:j=k
  ·subst e;rw[hm]at a;cases a;exact⟨B',hB',hK'⟩
  ·obtain⟨B,s,d⟩:=h.maps j A a;refine⟨B,HO ho s ?_,?_⟩
   ·rintro rfl;have g:=h.nd;simp only[zq]at g;exact e ((List.getElem?_inj (cQ.1 a).1 g.2.2).1 (a.trans hm.symm))
   ·refine⟨λx v z=>?_,λq y=>d.2 q (by rw[←hoth j q e];exact y)⟩;obtain⟨u,q,i,w⟩:=d.1 x v z;exact⟨u,q,i,by rw[hoth j q e];exact w⟩
 nd:=h.nd
 n1:=h.n1
 n2:=h.n2
 lo:=h.lo
 hi:=h.hi
 jC:=hT
theorem Nq (hb:Bounded S n)(k q:Nat):Bounded (del S k q) n:=λx a=>hb x (VJ.1 a).1
theorem ID (hb:Bounded S n){k q:Nat}(hf:q*2^k+2^k<=n):Bounded (ins S k q) n:=λx a=>by
 rcases VH.1 a with h|h
 ·exact hb x h
 ·have:=Qb.1 h;omega
theorem Ft {a b:Bool}(h:a=true↔b=true):a=b:=by cases a<;>cases b<;>simp_all
theorem BH.r8 (h:BH σ p n S sb ms){k m q:Nat}(hm:ms[k]?=some m)(hc:can S k q=true){x:Int}(hx:x=((q*2^k:Nat):Int)){K:aP}
 (hK:∀h',Ext (· ∈ ms) σ h'->BH h' p n (del S k q) sb ms->K h'):mh .i64 .b (some m) x σ K:=by
 obtain⟨B,A,w⟩:=h.maps k m hm;refine⟨B,A,λh' u _ i=>hK h' (Ext.eR (u m rfl) (zE hm)) ?_⟩;refine h.pt hm (u m rfl) i ⟨λy v s=>?_,λr z=>?_⟩ (λj r D=>Ft ?_) (Nq h.jC k q)
 ·simp only[cT,zH,ni,m8]at s;obtain⟨C,r,a,g⟩:=w.1 y v s.1;refine⟨C,r,a,(D0 hc).2 ⟨g,λe=>s.2 ?_⟩⟩;rw[a,hx,e.2]
 ·have d:=(D0 hc).1 z;simp only[cT,zH,ni,m8];refine⟨w.2 r d.1,λe=>d.2 ⟨rfl,?_⟩⟩;rw[hx]at e;have:r*2^k=q*2^k:=by exact_mod_cast e
  exact xq (lb k) this
 ·rw[D0 hc];exact⟨λh=>h.1,λh=>⟨h,λe=>D e.1⟩⟩
theorem BH.wS (h:BH σ p n S sb ms){k m q:Nat}(hm:ms[k]?=some m)(hd:∀y,y/2^k=q->S y=false)(hup:¬full (ins S k q) (k+1) (q/2)=true)(hf:q*2^k+2^k<=n)
 {x:Int} (hx:x=((q*2^k:Nat):Int)) {K:aP} (hK:∀h',Ext (· ∈ ms) σ h'->BH h' p n (ins S k q) sb ms->K h'):kR .i64 .b (some m) x true σ K:=by
 obtain⟨B,D,z⟩:=h.maps k m hm;refine⟨m,B,rfl,D,λh' A w=>hK h' (Ext.eR A (zE hm)) ?_⟩;have s:∀y∈B,(y.1==x)=false:=by
  rintro⟨y,v⟩ d;obtain⟨_,r,a,g⟩:=z.1 y v d;simp only[m8];rintro rfl;rw[hx]at a;have:q*2^k=r*2^k:=by exact_mod_cast a
  have:=xq (lb k) this;subst this;have u:=KV g (Ky k q);rw[hd _ (Ky k q)]at u;cases u
 have i:dF B x true=B++[(x,true)]:=by
  unfold dF;rw[zA];simp only[rm,np];intro y d;simp[s y d]
 refine h.pt hm A w ?_ (λj r F=>Ft ?_) (ID h.jC hf)
 ·rw[i];refine⟨λy v d=>?_,λr C=>?_⟩
  ·simp only[zR,zV,Prod.mk.injEq]at d;rcases d with d|⟨rfl,rfl⟩
   ·obtain⟨E,r,a,g⟩:=z.1 y v d;exact⟨E,r,a,(yE hd hup).2 (.inl g)⟩
   ·exact⟨rfl,q,hx,(yE hd hup).2 (.inr ⟨rfl,rfl⟩)⟩
  ·rcases(yE hd hup).1 C with u|⟨_,rfl⟩
   ·exact nI _ (z.2 r u)
   ·rw[hx];exact pL _ aA
 ·rw[yE hd hup];exact⟨λh=>h.elim id λe=>(F e.1).elim,.inl⟩
end Go.Bu
namespace Go.Vc
open Go
theorem V7 {b o:Nat}:∀{vs:List Value} {h:Hp} {cs:List Value} {i:Nat} {K:aP},bX h b cs->o+i+vs.length<=cs.length →
 (∀h',QC h h' b->bX h' b (cs.take (o+i)++vs++cs.drop (o+i+vs.length))->K h')->qm ⟨b,o,none⟩ h vs i K
 | [],h,cs,i,K,hb,hl,hK=>hK h ⟨rfl,λ_ _=>rfl⟩ (by simpa using hb)
 | v::vs,h,cs,i,K,hb,hl,hK=>by
  simp only[zP]at hl;refine⟨?_,?_,?_⟩
  ·rw[add_lit,hb.cell,cM O];rfl
  ·rw[add_lit];exact hb.oI
  ·rw[add_lit];have hb':=hb.set (o:=o+i) v;refine V7 hb' aE λh' g a=>hK h' ?_ ?_
   ·exact⟨g.1.trans (Vh _ _ _),λc d=>(g.2 c d).trans (VW d)⟩
   ·have e:(cs.set (o+i) v).take (o+(i+1))++vs++(cs.set (o+i) v).drop (o+(i+1)+vs.length)=cs.take (o+i)++v::vs++cs.drop (o+i+(v::vs).length):=by
     rw[List.drop_set_of_lt O,show o+(i+1)=(o+i)+1 by omega,zg,List.take_set_of_le O,zM O];simp only[tf,km,List.singleton_append,lQ,pU,zP]
     congr 4
     omega
    rw[e]at a;exact a
def Own (Q:Nat->Prop)(h:Hp)(s:Sl)(sz:Nat)(xs:List Value):Prop:=
 xs.length=s.len*sz/\(s.a=none/\s.len=0/\s.cap=0\/∃b cs,Q b/\s.a=some ⟨b,0,none⟩/\bX h b cs/\s.len<=s.cap/\cs.length=s.cap*sz/\cs.take xs.length=xs)
def HA (s:Sl)(b:Nat):Prop:=∃o,s.a=some ⟨b,o,none⟩
theorem Own.nil (Q:Nat->Prop)(h:Hp)(sz:Nat):Own Q h ⟨none,0,0⟩ sz []:=⟨by simp,.inl ⟨rfl,rfl,rfl⟩⟩
theorem Own.bU {Q F:Nat->Prop}{h h':Hp}{s:Sl}{sz:Nat}{xs:List Value}(ho:Own Q h s sz xs)(e:Ext F h h')(hF:∀b,Q b->b<h.size->¬F b):Own Q h' s sz xs:=by
 refine⟨ho.1,ho.2.imp id ?_⟩;rintro⟨b,cs,hq,ha,hb,r⟩;exact⟨b,cs,hq,ha,e.bZ hb (hF b hq hb.lt),r⟩
theorem Own.bK {Q:Nat->Prop}{h h':Hp}{s:Sl}{sz:Nat}{xs:List Value}(ho:Own Q h s sz xs)(e:bO h h'):Own Q h' s sz xs:=ho.bU e λ_ _ _ h=>h
theorem Own.mono {Q Q':Nat->Prop}{h:Hp}{s:Sl}{sz:Nat}{xs:List Value}(ho:Own Q h s sz xs)(hq:∀b,b<h.size->Q b->Q' b):Own Q' h s sz xs:=by
 refine⟨ho.1,ho.2.imp id ?_⟩;rintro⟨b,cs,hQ,ha,hb,r⟩;exact⟨b,cs,hq b hb.lt hQ,ha,hb,r⟩
theorem Own.jG {Q:Nat->Prop}{h:Hp}{s:Sl}{sz:Nat}{xs:List Value}(ho:Own Q h s sz xs){b:Nat}(hb:HA s b):Q b/\b<h.size:=by
 obtain⟨o,a⟩:=hb;rcases ho.2 with⟨ha,_⟩|⟨b',cs,hq,ha,hk,_⟩
 ·rw[ha]at a;cases a
 ·rw[ha]at a;cases a;exact⟨hq,hk.lt⟩
theorem Own.rd {Q:Nat->Prop}{h:Hp}{s:Sl}{sz:Nat}{xs:List Value}(ho:Own Q h s sz xs):Rd h s.a xs:=by
 rcases ho.2 with⟨ha,hl,_⟩|⟨b,cs,_,ha,hb,_,_,ht⟩
 ·rw[ha];have:=ho.1;rw[hl]at this;simp at this;exact this
 ·rw[ha];intro j v hv;rw[add_lit,hb.cell,zG];rw[←ht,zX]at hv;split at hv
  ·exact hv
  ·cases hv
theorem Own.cell {Q:Nat->Prop}{h:Hp}{s:Sl}{sz:Nat}{xs:List Value}(ho:Own Q h s sz xs){j:Nat}{v:Value}(hv:xs[j]?=some v):∃b,s.a=some ⟨b,0,none⟩/\Vc.cell h ⟨b,j,none⟩=some v:=by
 rcases ho.2 with⟨ha,hl,_⟩|⟨b,cs,_,ha,hb,_,_,ht⟩
 ·have:=ho.1;rw[hl]at this;simp at this;subst this;simp at hv
 ·refine⟨b,ha,?_⟩;rw[hb.cell];rw[←ht,zX]at hv;split at hv
  ·exact hv
  ·cases hv
theorem Own.app {Q:Nat->Prop}{h:Hp}{s x:Sl}{sz bytes e:Nat}{zs xs ys:List Value}{K:Sl->Hp->Prop}(ho:Own Q h s sz xs)(hq:∀b,h.size<=b->Q b)(hz:zs.length=sz)
 (hy:ys.length=x.len*sz) (hr:Rd h x.a ys) (h1:∀v∈ys,dN v=true) (hb:(s.len+x.len)*bytes<=2^46) (hc:s.len+x.len<=2^62)
 (hx:0<x.len) (hK:∀s' h',s'.len=s.len+x.len->Ext (HA s) h h'->Own Q h' s' sz (xs++ys)->s'.a≠none->K s' h'):App s sz bytes e zs x h K:=by
 refine⟨xs,ys,ho.1,hy,ho.rd,hr,h1,hb,hc,λg=>?_,λp c m=>?_⟩
 ·rcases ho.2 with⟨ha,hl,hcap⟩|⟨b,cs,hQ,ha,hk,hle,hcl,ht⟩
  ·omega
  ·rw[ha];simp only;rw[add_lit];have r:(s.len+x.len)*sz<=s.cap*sz:=lN _ g;rw[zl]at r;have d:=ho.1;refine V7 hk O λh' i j=>hK _ h' rfl (Ext.eR i ⟨0,ha⟩) ⟨?_,.inr ⟨b,_,hQ,rfl,j,g,?_,?_⟩⟩ aA
   ·simp[d,hy,zl]
   ·simp;omega
   ·rw[zK,d];rw[zG,zt,←d];rw[ht,qb aA,mV aA]
 ·refine hK _ _ rfl (Ext.push _ _ _) ⟨by simp[ho.1,hy,zl],.inr ⟨h.size,xs++ys++(List.replicate (c-(s.len+x.len)) zs).flatten,hq _ (zD _),rfl,⟨e,by simp⟩,m,?_,?_⟩⟩ aA
  ·simp only[zK,vA,sM,vJ,ho.1,hy,hz,←zl]
   congr 1;omega
  ·rw[qb aA,mV aA]
theorem ML {h:Hp}{v:Value}{e:Nat}:Rd (h.push (.cells #[v] e (0,0))) (some ⟨h.size,0,none⟩) [v]:=by
 intro j u hu;rw[add_lit];cases j with
 | zero=>simp at hu;subst hu;simp[Vc.cell]
 | succ j=>simp at hu
theorem bX.NO {h:Hp}{b o:Nat}{cs:List Value}(hb:bX h b cs){v:Value}(ho:o<cs.length){K:aP}(hK:∀h',QC h h' b->bX h' b (cs.set o v)->K h'):dG (Addr.add ⟨b,0,none⟩ o) v h K:=by
 rw[add_lit,zG];refine⟨?_,hb.oI,hK _ ⟨Vh _ _ _,λc a=>VW a⟩ (hb.set v)⟩;rw[hb.cell,cM ho];rfl
theorem bX.push (h:Hp)(cs:List Value)(e:Nat):bX (h.push (.cells cs.toArray e (0,0))) h.size cs:=⟨e,by simp⟩
theorem dL.push (h:Hp)(k:IntKind)(c:CK):dL (h.push (.map #[] 0)) h.size k c []:=⟨#[],0,by simp,by simp,by simp,by simp,by simp⟩
theorem Ext.only {F:Nat->Prop}{a b c:Hp}{r:Nat}(e:Ext F a b)(ho:QC b c r)(hr:F r\/a.size<=r):Ext F a c:=
 ⟨by rw[ho.1];exact e.1,λi g d=>by
  rw[ho.2 i ?_];exact e.2 i g d;rintro rfl;rcases hr with h|h
  ·exact d h
  ·omega⟩
theorem Ext.fresh {a b c:Hp}{F:Nat->Prop}(e:bO a b)(k:Ext F b c)(hF:∀i,F i->a.size<=i):bO a c:=
 ⟨zI e.1 k.1,λi d _=>(k.2 i (vL d e.1) λg=>by have:=hF i g;omega).trans (e.2 i d id)⟩
theorem Own.st {Q:Nat->Prop}{h:Hp}{s:Sl}{sz:Nat}{xs:List Value}(ho:Own Q h s sz xs){j:Nat}(hj:j<xs.length){v:Value}{K:aP}{a:Addr}(ha:∀b,s.a=some ⟨b,0,none⟩->a=⟨b,j,none⟩)
 (hK:∀h',Ext (HA s) h h'->Own Q h' s sz (xs.set j v)->K h'):dG a v h K:=by
 rcases ho.2 with⟨h1,hl,_⟩|⟨b,cs,hq,hsa,hb,hle,hcl,ht⟩
 ·have:=ho.1;rw[hl]at this;simp at this;subst this;simp at hj
 ·rw[ha b hsa];have d:j<cs.length:=by
   have:(cs.take xs.length).length=xs.length:=by rw[ht]
   rw[zO]at this;omega
  refine⟨by rw[hb.cell,cM d];rfl,hb.oI,hK _ (Ext.kx (F:=HA s) ⟨0,hsa⟩) ⟨by simp[ho.1],.inr ⟨b,_,hq,hsa,hb.set v,hle,by simp[hcl],?_⟩⟩⟩;rw[oP,List.take_set,ht]
end Go.Vc